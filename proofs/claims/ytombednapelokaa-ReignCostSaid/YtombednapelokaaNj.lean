/- Reign: plain laws: ReignCost: the law's own sum, block by block. -/
import Derived.Test.YtombednapelokaaLG14
import Derived.Test.YtombednapelokaaNf
import Derived.Test.YtombednapelokaaNb
set_option linter.unusedVariables false
set_option linter.unusedSimpArgs false
namespace Go.Proofs.Ytombednapelokaa
open Go.Vi
theorem K_rise {l : List Src} : ∀ {K : List (Nat × Nat)} {t : Nat}, ChT K t → IncT l K → ∀ x ∈ K, ∀ y ∈ K, x.2 ≤ y.1 → ltM (Mx l x.1 x.2) (Mx l y.1 y.2)
  | [], _, _, _, x, hx, _, _, _ => by cases hx
  | (b, e) :: r, t, ⟨h1, h2, h3⟩, ⟨i1, i2⟩, x, hx, y, hy, hxy => by
    rcases List.mem_cons.1 hx with rfl | hx
    · rcases List.mem_cons.1 hy with rfl | hy
      · simp only at hxy
        omega
      · have := h3.rng y hy
        simp only at hxy
        omega
    · rcases List.mem_cons.1 hy with rfl | hy
      · exact i1 x hx
      · exact K_rise h3 i2 x hx y hy hxy
/-- Two neighbours are in one block, or in two that are next to one another. -/
theorem K_next {K : List (Nat × Nat)} {t : Nat} (h : ChT K t) {x y : Nat × Nat} (hx : x ∈ K) (hy : y ∈ K) {k : Nat} (x1 : x.1 ≤ k) (x2 : k < x.2) (y1 : y.1 ≤ k + 1) (y2 : k + 1 < y.2) : y = x ∨ (x.2 = k + 1 ∧ y.1 = k + 1) := by
  by_cases hb : k + 1 < x.2
  · exact .inl (h.uniq3 x hx y hy (k + 1) (by omega) hb y1 y2).symm
  · refine .inr ⟨by omega, ?_⟩
    by_cases hc : y.1 ≤ k
    · have := h.uniq3 x hx y hy k x1 x2 hc (by omega)
      subst this
      omega
    · omega
theorem q2s_app : ∀ (a b : List Src), q2s (a ++ b) = q2s a + q2s b
  | [], b => by simp [q2s]
  | s :: a, b => by simp only [List.cons_append, q2s, q2s_app a b]; omega
theorem take_split (l : List Src) {a c : Nat} (h : a ≤ c) : l.take c = l.take a ++ (l.take c).drop a := by
  have := List.take_append_drop a (l.take c)
  rw [List.take_take, Nat.min_eq_left h] at this
  exact this.symm
theorem nine_pow : ∀ k : Nat, 9 * k ≤ 18 ^ k
  | 0 => by simp
  | k + 1 => by
    have := nine_pow k
    have h1 : 0 < 18 ^ k := Nat.pow_pos (by omega)
    rw [Nat.pow_succ]
    omega
abbrev Sh8 : Sh := .pair (.int .u8) (.pair (.int .u8) (.pair (.int .u8) (.pair (.int .u8) (.pair (.int .u8) (.pair (.int .u8) (.pair (.int .u8) (.int .u8)))))))
/-- The law's loop. -/
noncomputable abbrev LA (f : Int) (s : Sh8.den) (l : List Src) (V : List Frc) (P R : Int) (m : Nat) (num den b i : Int) : Option R14 :=
  DL14_1 N5 m f 0 num den b (l.length : Int) i s.1 s.2.1 s.2.2.1 s.2.2.2.1 s.2.2.2.2.1 s.2.2.2.2.2.1 s.2.2.2.2.2.2.1 s.2.2.2.2.2.2.2 l V P R
structure CInv (l : List Src) (t : Nat) (num : Int) (den : Nat) (a : Int × Nat) : Prop where
  d0 : 0 < den
  d1 : den ≤ 18 ^ t
  a2 : 0 < a.2
  a1 : 0 ≤ a.1
  eq : num * a.2 = a.1 * den
  n0 : 0 ≤ num
  n1 : num ≤ q2s (l.take t) * den
section
variable {l : List Src} (hg : Good l) {K : List (Nat × Nat)} (hK : Blk l K l.length) {V : List Frc} (hV : V.length = l.length) (hb : ∀ x ∈ K, ∀ i (h : i < V.length), x.1 ≤ i → i < x.2 → V[i] = Mx l x.1 x.2) (f : Int) (s : Sh8.den) (P R : Int)
include hg hK hV hb
theorem c_in {b e : Nat} (hx : (b, e) ∈ K) : ∀ (k m i : Nat) (num den : Nat), i + (k + 1) = e → b ≤ i → 0 < den → den ≤ 11019960576 → num + den * q2s ((l.take e).drop i) ≤ 720000 * den →
    LA f s l V P R (m + (k + 1)) num den b i = LA f s l V P R m ((((num + den * q2s ((l.take e).drop i)) * (tsum ((l.take e).drop b) / Nat.gcd den (tsum ((l.take e).drop b))) : Nat) : Int) - ((ysum ((l.take e).drop b) * ysum ((l.take e).drop b) * (den / Nat.gcd den (tsum ((l.take e).drop b))) : Nat) : Int))
      ((den / Nat.gcd den (tsum ((l.take e).drop b)) * tsum ((l.take e).drop b) : Nat) : Int) e e := by
  have h8 := hg.le
  have ho := hg.ok
  have hr := hK.ch.rng _ hx
  simp only at hr
  intro k
  induction k with
  | zero =>
    intro m i num den hie hbi hd0 hd8 hnum
    have hil : i < l.length := by omega
    have hie' : i < (l.take e).length := by simp; omega
    have hs := hg.all l[i] (List.getElem_mem hil)
    have hq : q2s ((l.take e).drop i) = l[i].2.toNat * l[i].1.toNat * l[i].1.toNat := by
      rw [List.drop_eq_getElem_cons hie', List.getElem_take, List.drop_of_length_le (by simp; omega)]
      simp [q2s]
    have htyy : l[i].2.toNat * l[i].1.toNat * l[i].1.toNat ≤ 90000 := Nat.mul_le_mul (Nat.mul_le_mul (show l[i].2.toNat ≤ 9 by omega) (show l[i].1.toNat ≤ 100 by omega)) (show l[i].1.toNat ≤ 100 by omega)
    have hty : l[i].2.toNat * l[i].1.toNat ≤ 900 := Nat.mul_le_mul (show l[i].2.toNat ≤ 9 by omega) (show l[i].1.toNat ≤ 100 by omega)
    obtain ⟨y, hy⟩ := Int.eq_ofNat_of_zero_le hs.1
    obtain ⟨t, ht⟩ := Int.eq_ofNat_of_zero_le (show 0 ≤ l[i].2 by omega)
    rw [hy, ht, Int.toNat_natCast, Int.toNat_natCast] at hq htyy
    rw [hy, ht, Int.toNat_natCast, Int.toNat_natCast] at hty
    rw [hq] at hnum ⊢
    have hden : den * (t * y * y) ≤ 11019960576 * 90000 := Nat.mul_le_mul hd8 htyy
    have hsum := Ok.sums ((ho.take e).drop b).2
    have hlen : ((l.take e).drop b).length = e - b := by simp; omega
    rw [hlen] at hsum
    generalize hT : tsum ((l.take e).drop b) = T at *
    generalize hY : ysum ((l.take e).drop b) = Y at *
    have hT0 : 0 < T := by omega
    have hT72 : T ≤ 72 := by omega
    have hY72 : Y ≤ 7200 := by omega
    have hgp : 0 < Nat.gcd den T := Nat.gcd_pos_of_pos_left _ hd0
    have g0 : ((((Nat.gcd den T : Nat) : Int)) == 0) = false := by simp; omega
    have e1 : Int.tdiv (T : Int) (Nat.gcd den T : Nat) = ((T / Nat.gcd den T : Nat) : Int) := rfl
    have e2 : Int.tdiv (den : Int) (Nat.gcd den T : Nat) = ((den / Nat.gcd den T : Nat) : Int) := rfl
    have l1 : T / Nat.gcd den T ≤ T := Nat.div_le_self _ _
    have l2 : den / Nat.gcd den T ≤ den := Nat.div_le_self _ _
    have hYY : Y * Y ≤ 7200 * 7200 := Nat.mul_le_mul hY72 hY72
    have hYd : Y * Y * (den / Nat.gcd den T) ≤ 7200 * 7200 * 11019960576 := Nat.mul_le_mul hYY (by omega)
    have hnt : (num + den * (t * y * y)) * (T / Nat.gcd den T) ≤ (720000 * 11019960576) * 72 := Nat.mul_le_mul (by omega) (by omega)
    have hdt : den / Nat.gcd den T * T ≤ 11019960576 * 72 := Nat.mul_le_mul (by omega) (by omega)
    have hd66 : D66 N5 ((l.drop (0 + b)).take (e - b)) = some (((Y : Nat) : Int), ((T : Nat) : Int)) := by
      have h1 := jsum_loop N5 ((l.take e).drop b) ((ho.take e).drop b) N5.1 0 0 0 (by omega) (by rw [hlen]; show _ < 100000000000000000000; omega) (by simp) (by simp)
      simp only [Int.natCast_zero, hT, hY] at h1
      rw [Nat.zero_add, ← List.drop_take]
      unfold D66
      exact h1
    have hil2 : inB (i : Int) l.length = true := by simp [inB]; omega
    have hiV : inB (i : Int) V.length = true := by simp [inB]; omega
    unfold LA
    rw [show m + (0 + 1) = m + 1 by omega, DL14_1_succ]
    unfold DF14_1 DL14_2
    have hw : wr .i64 ((i : Int) + 1) = (e : Int) := by rw [wr_ok (by omega) (by omega)]; omega
    rw [show decide ((i : Int) < (l.length : Int)) = true by simp; omega, cond_true, hil2, idx_nat hil, hw]
    simp only [cond_true, Option.bind_some, hiV, hy, ht]
    have hfalse : (((bif (decide ((e : Int) < (l.length : Int)) == true) then (bif inB (e : Int) V.length then (idx V (e : Int)).bind fun x7' => (idx V (i : Int)).bind fun x8' => some ((x7'.1 == x8'.1) && ((x7'.2 == x8'.2) && true)) else none) else some false)) : Option Bool) = some false := by
      by_cases hel : e < l.length
      · have heV : e < V.length := by omega
        obtain ⟨z, hz, z1, z2⟩ := hK.ch.cover e hel
        have hze : z.1 = e := by
          rcases K_next hK.ch hx hz (k := i) hbi (by simp only; omega) (by omega) (by omega) with h | h
          · rw [h] at z2
            simp only at z2
            omega
          · omega
        have hri := K_rise hK.ch hK.inc (b, e) hx z hz (by simp only; omega)
        have hne : (((Mx l z.1 z.2).1 == (Mx l b e).1) && (((Mx l z.1 z.2).2 == (Mx l b e).2) && true)) = false := by
          unfold ltM at hri
          simp only at hri
          rw [Bool.and_eq_false_iff, Bool.and_true]
          by_cases c : (Mx l z.1 z.2).1 = (Mx l b e).1
          · refine .inr ?_
            simp only [beq_eq_false_iff_ne]
            intro c2
            rw [c, c2] at hri
            omega
          · exact .inl (by simpa using c)
        rw [show decide ((e : Int) < (l.length : Int)) = true by simp; omega, show inB (e : Int) V.length = true by simp [inB]; omega, idx_nat heV, idx_nat (show i < V.length by omega), hb z hz e heV z1 z2, hb (b, e) hx i (by omega) hbi (by simp only; omega)]
        simp only [show (true == true) = true from rfl, cond_true, Option.bind_some, hne]
      · rw [show decide ((e : Int) < (l.length : Int)) = false by simp; omega]
        rfl
    rw [hfalse]
    simp only [Option.bind_some, cond_false]
    rw [show bounds (some (b : Int)) (some (e : Int)) none l.length = true by simp [bounds]; omega, cond_true, Int.toNat_natCast, Int.toNat_natCast, hd66]
    simp only [Option.bind_some]
    rw [common_eq (n := N5) (a := den) (b := T) (by show _ < 100000000000000000000; omega) (by omega) (by omega)]
    simp only [Option.bind_some, g0, cond_false, e1, e2]
    rw [← Int.natCast_mul, wr_nat (x := t * y) (by omega), ← Int.natCast_mul, wr_nat (x := t * y * y) (by omega), ← Int.natCast_mul, Nat.mul_comm (t * y * y) den, wr_nat (x := den * (t * y * y)) (by omega), ← Int.natCast_add, wr_nat (x := num + den * (t * y * y)) (by omega),
      wr_nat (x := T / Nat.gcd den T) (by omega), wr_nat (x := den / Nat.gcd den T) (by omega), ← Int.natCast_mul, wr_nat (x := (num + den * (t * y * y)) * (T / Nat.gcd den T)) (by omega), ← Int.natCast_mul, wr_nat (x := Y * Y) (by omega), ← Int.natCast_mul, wr_nat (x := Y * Y * (den / Nat.gcd den T)) (by omega),
      wr_ok (x := (((num + den * (t * y * y)) * (T / Nat.gcd den T) : Nat) : Int) - ((Y * Y * (den / Nat.gcd den T) : Nat) : Int)) (by omega) (by omega), ← Int.natCast_mul, wr_nat (x := den / Nat.gcd den T * T) (by omega)]
  | succ k ih =>
    intro m i num den hie hbi hd0 hd8 hnum
    have hil : i < l.length := by omega
    have hie' : i < (l.take e).length := by simp; omega
    have hs := hg.all l[i] (List.getElem_mem hil)
    have hq : q2s ((l.take e).drop i) = l[i].2.toNat * l[i].1.toNat * l[i].1.toNat + q2s ((l.take e).drop (i + 1)) := by
      rw [List.drop_eq_getElem_cons hie', List.getElem_take]
      rfl
    have htyy : l[i].2.toNat * l[i].1.toNat * l[i].1.toNat ≤ 90000 := Nat.mul_le_mul (Nat.mul_le_mul (show l[i].2.toNat ≤ 9 by omega) (show l[i].1.toNat ≤ 100 by omega)) (show l[i].1.toNat ≤ 100 by omega)
    have hty : l[i].2.toNat * l[i].1.toNat ≤ 900 := Nat.mul_le_mul (show l[i].2.toNat ≤ 9 by omega) (show l[i].1.toNat ≤ 100 by omega)
    obtain ⟨y, hy⟩ := Int.eq_ofNat_of_zero_le hs.1
    obtain ⟨t, ht⟩ := Int.eq_ofNat_of_zero_le (show 0 ≤ l[i].2 by omega)
    rw [hy, ht, Int.toNat_natCast, Int.toNat_natCast] at hq htyy
    rw [hy, ht, Int.toNat_natCast, Int.toNat_natCast] at hty
    rw [hq, Nat.mul_add] at hnum
    have hden : den * (t * y * y) ≤ 11019960576 * 90000 := Nat.mul_le_mul hd8 htyy
    have hil2 : inB (i : Int) l.length = true := by simp [inB]; omega
    have hiV : inB (i : Int) V.length = true := by simp [inB]; omega
    have hi1 : i + 1 < V.length := by omega
    have hiV2 : inB ((i + 1 : Nat) : Int) V.length = true := by simp [inB]; omega
    have := ih m (i + 1) (num + den * (t * y * y)) den (by omega) (by omega) hd0 hd8 (by omega)
    unfold LA at this ⊢
    rw [show m + (k + 1 + 1) = m + (k + 1) + 1 by omega, DL14_1_succ]
    unfold DF14_1 DL14_2
    have hw : wr .i64 ((i : Int) + 1) = ((i + 1 : Nat) : Int) := by rw [wr_ok (by omega) (by omega)]; omega
    rw [show decide ((i : Int) < (l.length : Int)) = true by simp; omega, cond_true, hil2, idx_nat hil, hw, show decide (((i + 1 : Nat) : Int) < (l.length : Int)) = true by simp only [decide_eq_true_eq]; omega, hiV2, hiV, idx_nat hi1, idx_nat (show i < V.length by omega), hb (b, e) hx i (by omega) hbi (by simp only; omega), hb (b, e) hx (i + 1) hi1 (by simp only; omega) (by simp only; omega)]
    simp only [cond_true, Option.bind_some, hy, ht, show (true == true) = true from rfl, beq_self_eq_true, Bool.and_self]
    rw [← Int.natCast_mul, wr_nat (x := t * y) (by omega), ← Int.natCast_mul, wr_nat (x := t * y * y) (by omega), ← Int.natCast_mul, Nat.mul_comm (t * y * y) den, wr_nat (x := den * (t * y * y)) (by omega), ← Int.natCast_add, wr_nat (x := num + den * (t * y * y)) (by omega), this, hq]
    rw [show num + den * (t * y * y) + den * q2s ((l.take e).drop (i + 1)) = num + den * (t * y * y + q2s ((l.take e).drop (i + 1))) by rw [Nat.mul_add]; omega]
theorem c_out : ∀ (r : List (Nat × Nat)) (t M num den : Nat) (a : Int × Nat), Cb t r l.length → (∀ x ∈ r, x ∈ K) → CInv l t num den a →
    ∃ num' den' : Nat, LA f s l V P R (M + (l.length - t)) num den t t = LA f s l V P R M num' den' (l.length : Nat) (l.length : Nat) ∧ CInv l l.length num' den' (r.foldl (cstep l) a)
  | [], t, M, num, den, a, hc, _, hi => by
    have : t = l.length := hc
    subst this
    exact ⟨num, den, by rw [Nat.sub_self, Nat.add_zero], hi⟩
  | (b, e) :: r, t, M, num, den, a, ⟨h1, h2, h3⟩, hr, hi => by
    subst h1
    have h8 := hg.le
    have ho := hg.ok
    have hxm := hr (b, e) (by simp)
    have he : e ≤ l.length := h3.le
    obtain ⟨k, hk⟩ : ∃ k, e = b + (k + 1) := ⟨e - b - 1, by omega⟩
    obtain ⟨i1, i2, i3, i4, i5, i6, i7⟩ := hi
    have hd8 : den ≤ 11019960576 := Nat.le_trans i2 (Nat.le_trans (Nat.pow_le_pow_right (by omega) (show b ≤ 8 by omega)) (by decide))
    have hsok : Ok ((l.take e).drop b) := (ho.take e).drop b
    have hlen : ((l.take e).drop b).length = e - b := by simp; omega
    have hsum := Ok.sums hsok.2
    rw [hlen] at hsum
    have hqsplit : q2s (l.take e) = q2s (l.take b) + q2s ((l.take e).drop b) := by
      conv => lhs; rw [take_split l (show b ≤ e by omega)]
      rw [q2s_app]
    have hqle := q2s_le (ho.take e).2
    have hqle2 : q2s (l.take e) ≤ 720000 := by
      have : (l.take e).length ≤ 8 := by simp; omega
      omega
    have i7' : num ≤ q2s (l.take b) * den := by exact_mod_cast i7
    have hnum : num + den * q2s ((l.take e).drop b) ≤ q2s (l.take e) * den := by
      rw [hqsplit, Nat.add_mul, Nat.mul_comm den]
      omega
    have hstep := c_in hg hK hV hb f s P R hxm k (M + (l.length - e)) b num den (by omega) (Nat.le_refl _) i1 hd8 (Nat.le_trans hnum (Nat.mul_le_mul_right _ hqle2))
    rw [show M + (l.length - e) + (k + 1) = M + (l.length - b) by omega] at hstep
    rw [hstep]
    have hm0 := dv_mean ho h2 he
    have F := Mx_Val ho h2 he
    obtain ⟨s1, s2⟩ := seg_sums l (Nat.le_of_lt h2)
    have hrss := rss_eq (Mx l b e) hsok.2
    have hrss0 : 0 ≤ rss (Mx l b e) ((l.take e).drop b) := by
      have : ∀ {u : List Src}, (∀ x ∈ u, 0 ≤ x.1 ∧ x.1 ≤ 100 ∧ 1 ≤ x.2 ∧ x.2 ≤ 9) → 0 ≤ rss (Mx l b e) u := by
        intro u
        induction u with
        | nil => intro _; exact Int.le_refl _
        | cons x u ih =>
          intro h
          have hx := h x (by simp)
          have h1 := ih fun y hy => h y (by simp [hy])
          have h2 : 0 ≤ x.2 * ((x.1 * (Mx l b e).2 - (Mx l b e).1) * (x.1 * (Mx l b e).2 - (Mx l b e).1)) := by
            refine Int.mul_nonneg (by omega) ?_
            rcases Int.le_total 0 (x.1 * (Mx l b e).2 - (Mx l b e).1) with h | h
            · exact Int.mul_nonneg h h
            · exact Int.mul_nonneg_of_nonpos_of_nonpos h h
          rw [← Int.mul_assoc] at h2
          show 0 ≤ x.2 * (x.1 * (Mx l b e).2 - (Mx l b e).1) * (x.1 * (Mx l b e).2 - (Mx l b e).1) + rss (Mx l b e) u
          omega
      exact this hsok.2
    unfold dv at hm0
    rw [← s1, ← s2] at hm0
    have hfold : ((b, e) :: r).foldl (cstep l) a = r.foldl (cstep l) (cstep l a (b, e)) := rfl
    rw [hfold]
    have hq0 := F.fr.dp
    obtain ⟨q, hq⟩ := Int.eq_ofNat_of_zero_le (Int.le_of_lt hq0)
    have hgp : 0 < Nat.gcd den (tsum ((l.take e).drop b)) := Nat.gcd_pos_of_pos_left _ i1
    obtain ⟨dd, hdd⟩ := Nat.gcd_dvd_left den (tsum ((l.take e).drop b))
    obtain ⟨tt, htt⟩ := Nat.gcd_dvd_right den (tsum ((l.take e).drop b))
    have edd : den / Nat.gcd den (tsum ((l.take e).drop b)) = dd := by
      conv => lhs; lhs; rw [hdd]
      exact Nat.mul_div_cancel_left _ hgp
    have ett : tsum ((l.take e).drop b) / Nat.gcd den (tsum ((l.take e).drop b)) = tt := by
      conv => lhs; lhs; rw [htt]
      exact Nat.mul_div_cancel_left _ hgp
    rw [edd, ett]
    have hcs : cstep l a (b, e) = (a.1 * (q : Int) + a.2 * (((q2s ((l.take e).drop b) : Nat) : Int) * (q : Int) - ((ysum ((l.take e).drop b) : Nat) : Int) * (Mx l b e).1), a.2 * q) := by
      unfold cstep
      simp only [hq, Int.toNat_natCast]
    rw [hq] at hm0 hrss hq0
    generalize hp : (Mx l b e).1 = p at *
    generalize tsum ((l.take e).drop b) = T at *
    generalize ysum ((l.take e).drop b) = Y at *
    generalize q2s ((l.take e).drop b) = Q at *
    generalize Nat.gcd den T = d at *
    have hdd0 : 0 < dd := Nat.pos_of_ne_zero (by rintro rfl; omega)
    have htt0 : 0 < tt := Nat.pos_of_ne_zero (by rintro rfl; simp at htt; omega)
    have hW : 0 ≤ (q : Int) * (((Q : Nat) : Int) * q - ((Y : Nat) : Int) * p) := by
      have : (q : Int) * (((Q : Nat) : Int) * q - ((Y : Nat) : Int) * p) = q * q * (Q : Int) - 2 * q * p * (Y : Int) + p * p * (T : Int) := by
        have h5 : p * (T : Int) = q * Y := by omega
        grind
      rw [this, ← hrss]
      exact hrss0
    have hW2 : 0 ≤ ((Q : Nat) : Int) * q - ((Y : Nat) : Int) * p := by
      refine Int.nonneg_of_mul_nonneg_left (b := (q : Int)) ?_ hq0
      rw [Int.mul_comm]
      exact hW
    have hden2 : dd * T ≤ 18 ^ e := by
      have h5 : dd ≤ den := by rw [hdd]; exact Nat.le_mul_of_pos_left _ hgp
      have h6 : T ≤ 18 ^ (e - b) := Nat.le_trans hsum.2.1 (nine_pow _)
      have := Nat.mul_le_mul (Nat.le_trans h5 i2) h6
      rw [← Nat.pow_add, show b + (e - b) = e by omega] at this
      exact this
    have hT0 : 0 < T := by omega
    have ha1 : 0 ≤ a.1 * (q : Int) + a.2 * (((Q : Nat) : Int) * (q : Int) - ((Y : Nat) : Int) * p) := Int.add_nonneg (Int.mul_nonneg i4 (by omega)) (Int.mul_nonneg (by omega) hW2)
    have hkey : ((((num + den * Q) * tt : Nat) : Int) - ((Y * Y * dd : Nat) : Int)) * ((a.2 * q : Nat) : Int) = (a.1 * (q : Int) + a.2 * (((Q : Nat) : Int) * (q : Int) - ((Y : Nat) : Int) * p)) * ((dd * T : Nat) : Int) := by
      have h5 : p * (T : Int) = q * Y := by omega
      have h6 : (den : Int) = d * dd := by exact_mod_cast hdd
      have h7 : (T : Int) = d * tt := by exact_mod_cast htt
      simp only [Int.natCast_mul, Int.natCast_add]
      have h8 : (num : Int) * a.2 = a.1 * (d * dd) := by rw [← h6]; exact i5
      have t1 : (((num : Int) + den * Q) * tt - Y * Y * dd) * (a.2 * q) = (num : Int) * a.2 * (tt * q) + den * Q * tt * (a.2 * q) - Y * dd * a.2 * (q * Y) := by grind
      rw [t1, h8, ← h5, h6, h7]
      grind
    have hnn : 0 ≤ (((num + den * Q) * tt : Nat) : Int) - ((Y * Y * dd : Nat) : Int) := by
      have hpos : 0 < ((a.2 * q : Nat) : Int) := by
        have : 0 < a.2 * q := Nat.mul_pos i3 (by omega)
        omega
      refine Int.nonneg_of_mul_nonneg_left (b := ((a.2 * q : Nat) : Int)) ?_ hpos
      rw [hkey]
      exact Int.mul_nonneg ha1 (by omega)
    obtain ⟨num', hn'⟩ := Int.eq_ofNat_of_zero_le hnn
    rw [hn'] at hkey ⊢
    have hi' : CInv l e (num' : Int) (dd * T) (cstep l a (b, e)) := by
      rw [hcs]
      refine ⟨Nat.mul_pos hdd0 hT0, hden2, Nat.mul_pos i3 (by omega), ha1, hkey, by omega, ?_⟩
      have h5 : (num + den * Q) * tt ≤ q2s (l.take e) * (dd * T) := by
        have h6 : dd * T = den * tt := by rw [hdd, htt]; grind
        rw [h6, ← Nat.mul_assoc]
        exact Nat.mul_le_mul_right _ hnum
      have : ((q2s (l.take e) * (dd * T) : Nat) : Int) = ((q2s (l.take e) : Nat) : Int) * ((dd * T : Nat) : Int) := by simp
      omega
    obtain ⟨num2, den2, z1, z2⟩ := c_out r e M num' (dd * T) (cstep l a (b, e)) h3 (fun x hx => hr x (by simp [hx])) hi'
    exact ⟨num2, den2, z1, z2⟩
end
end Go.Proofs.Ytombednapelokaa
