/- Reign: plain laws: sources shifted and doubled; sums of rests, exactly. -/
import Derived.Test.YtombednapelokaaMu
import Derived.Test.YtombednapelokaaMs
set_option linter.unusedVariables false
set_option linter.unusedSimpArgs false
namespace Go.Proofs.Ytombednapelokaa
open Go.Vi
theorem ChT.uniq3 : ∀ {K : List (Nat × Nat)} {t : Nat}, ChT K t → ∀ x ∈ K, ∀ y ∈ K, ∀ i, x.1 ≤ i → i < x.2 → y.1 ≤ i → i < y.2 → x = y
  | [], _, _, x, hx, _, _, _, _, _, _, _ => by cases hx
  | (b, e) :: r, t, ⟨h1, h2, h3⟩, x, hx, y, hy, i, a1, a2, a3, a4 => by
    rcases List.mem_cons.1 hx with rfl | hx <;> rcases List.mem_cons.1 hy with rfl | hy
    · rfl
    · have := h3.rng y hy
      simp only at a1 a2
      omega
    · have := h3.rng x hx
      simp only at a3 a4
      omega
    · exact ChT.uniq3 h3 x hx y hy i a1 a2 a3 a4
/-- Sources whose means go together with those of others. -/
theorem Blk.move {l l' : List Src} {K : List (Nat × Nat)} {t : Nat} (h : Blk l K t) {c : Int} (hc : 0 < c) (hd : ∀ x ∈ K, ∀ a b, dv l' (Mx l' x.1 x.2) a b = c * dv l (Mx l x.1 x.2) a b)
    (hlt : ∀ x ∈ K, ∀ y ∈ K, (Mx l y.1 y.2).1 * (Mx l x.1 x.2).2 < (Mx l x.1 x.2).1 * (Mx l y.1 y.2).2 → (Mx l' y.1 y.2).1 * (Mx l' x.1 x.2).2 < (Mx l' x.1 x.2).1 * (Mx l' y.1 y.2).2) : Blk l' K t := by
  refine ⟨h.ch, fun x hx k h1 h2 => ?_, ?_⟩
  · rw [hd x hx]
    exact Int.mul_nonneg (Int.le_of_lt hc) (h.loc x hx k h1 h2)
  · have : ∀ (r : List (Nat × Nat)), (∀ x ∈ r, x ∈ K) → IncT l r → IncT l' r := by
      intro r
      induction r with
      | nil => intro _ _; trivial
      | cons x r ih =>
        intro hm hi
        exact ⟨fun y hy => hlt x (hm x (by simp)) y (hm y (List.mem_cons_of_mem _ hy)) (hi.1 y hy), ih (fun y hy => hm y (List.mem_cons_of_mem _ hy)) hi.2⟩
    exact this K (fun x hx => hx) h.inc
/-! ### Shifted and doubled -/
def shift (c : Int) (l : List Src) : List Src := l.map fun s => (s.1 + c, s.2)
theorem shift_sums {c : Nat} : ∀ {l : List Src}, (∀ s ∈ l, 0 ≤ s.1 ∧ 1 ≤ s.2) → ysum (shift c l) = ysum l + c * tsum l ∧ tsum (shift c l) = tsum l
  | [], _ => by simp [shift, ysum, tsum]
  | s :: r, h => by
    obtain ⟨i1, i2⟩ := shift_sums (c := c) (l := r) fun x hx => h x (List.mem_cons_of_mem _ hx)
    have hs := h s (by simp)
    obtain ⟨y, hy⟩ := Int.eq_ofNat_of_zero_le hs.1
    have e : (s.1 + (c : Int)).toNat = y + c := by omega
    have e2 : s.1.toNat = y := by omega
    simp only [shift, List.map_cons, ysum, tsum] at i1 i2 ⊢
    rw [e, e2, i1, i2]
    refine ⟨?_, rfl⟩
    grind
theorem seg_ok {l : List Src} (ho : Ok l) (a c : Nat) : ∀ s ∈ (l.take c).drop a, 0 ≤ s.1 ∧ 1 ≤ s.2 := fun s hs => by
  have := ho.2 s (List.mem_of_mem_take (List.mem_of_mem_drop hs))
  omega
theorem shift_seg (c : Int) (l : List Src) (a b : Nat) : ((shift c l).take b).drop a = shift c ((l.take b).drop a) := by simp [shift, List.map_take, List.map_drop]
theorem red_shift (y t c : Nat) (ht : 0 < t) : red (y + c * t) t = ((red y t).1 + (c : Int) * (red y t).2, (red y t).2) := by
  have hg : Nat.gcd (y + c * t) t = Nat.gcd y t := by rw [Nat.gcd_add_mul_right_left]
  have h0 : 0 < Nat.gcd y t := Nat.gcd_pos_of_pos_right _ ht
  unfold red
  rw [hg]
  have e : (y + c * t) / Nat.gcd y t = y / Nat.gcd y t + c * (t / Nat.gcd y t) := by
    have d1 := Nat.gcd_dvd_left y t
    have d2 := Nat.gcd_dvd_right y t
    generalize Nat.gcd y t = g at d1 d2 h0 ⊢
    obtain ⟨y1, rfl⟩ := d1
    obtain ⟨t1, rfl⟩ := d2
    rw [Nat.mul_div_cancel_left _ h0, Nat.mul_div_cancel_left _ h0, Nat.mul_left_comm c g t1, ← Nat.mul_add, Nat.mul_div_cancel_left _ h0]
  rw [e]
  simp only [Int.natCast_add, Int.natCast_mul]
theorem Mx_shift {l : List Src} (ho : Ok l) {c a b : Nat} (h : a < b) (hb : b ≤ l.length) : Mx (shift c l) a b = ((Mx l a b).1 + (c : Int) * (Mx l a b).2, (Mx l a b).2) := by
  obtain ⟨e1, e2⟩ := shift_sums (c := c) (seg_ok ho a b)
  have hT := T_pos ho h hb
  rw [← (seg_sums l (Nat.le_of_lt h)).2] at hT
  unfold Mx mn
  rw [shift_seg, e1, e2]
  exact red_shift _ _ _ (by omega)
theorem Yk_shift {l : List Src} (ho : Ok l) (c k : Nat) : Yk (shift c l) k = Yk l k + (c : Int) * Tk l k ∧ Tk (shift c l) k = Tk l k := by
  obtain ⟨e1, e2⟩ := shift_sums (c := c) (l := l.take k) (fun s hs => by have := ho.2 s (List.mem_of_mem_take hs); omega)
  have e : (shift c l).take k = shift c (l.take k) := by simp [shift, List.map_take]
  unfold Yk Tk
  rw [e, e1, e2]
  simp only [Int.natCast_add, Int.natCast_mul]
  exact ⟨trivial, trivial⟩
theorem Blk.shift {l : List Src} (ho : Ok l) {K : List (Nat × Nat)} (h : Blk l K l.length) (c : Nat) : Blk (shift c l) K l.length := by
  refine h.move (c := 1) (by omega) (fun x hx a b => ?_) fun x hx y hy hlt => ?_
  · have r := h.ch.rng x hx
    rw [Mx_shift ho r.1 r.2]
    unfold dv
    rw [(Yk_shift ho c a).1, (Yk_shift ho c b).1, (Yk_shift ho c a).2, (Yk_shift ho c b).2]
    simp only
    grind
  · have rx := h.ch.rng x hx
    have ry := h.ch.rng y hy
    rw [Mx_shift ho rx.1 rx.2, Mx_shift ho ry.1 ry.2]
    simp only
    generalize (Mx l y.1 y.2).1 = p at *
    generalize (Mx l y.1 y.2).2 = q at *
    generalize (Mx l x.1 x.2).1 = r at *
    generalize (Mx l x.1 x.2).2 = s at *
    have e1 : (p + (c : Int) * q) * s = p * s + (c : Int) * q * s := by grind
    have e2 : (r + (c : Int) * s) * q = r * q + (c : Int) * q * s := by grind
    omega
/-! ### Sums of rests -/
/-- What a sum of rests is. -/
structure Rst (l : List Src) (v : Frc) (b k : Nat) (f : Frc) : Prop where
  dp : 0 < f.2
  cop : Nat.gcd f.1.natAbs f.2.toNat = 1
  eq : f.1 * v.2 = f.2 * dv l v b k
theorem rest_step {l : List Src} (v : Frc) {b k : Nat} (h : k < l.length) (hs : 0 ≤ l[k].1 ∧ l[k].1 ≤ 100 ∧ 1 ≤ l[k].2 ∧ l[k].2 ≤ 9) : dv l v b (k + 1) = dv l v b k + l[k].2 * (l[k].1 * v.2 - v.1) := by
  have h1 : Yk l (k + 1) = Yk l k + ((l[k].1.toNat * l[k].2.toNat : Nat) : Int) ∧ Tk l (k + 1) = Tk l k + ((l[k].2.toNat : Nat) : Int) := by
    unfold Yk Tk
    rw [List.take_succ_eq_append_getElem h, ysum_app, tsum_app]
    simp only [ysum, tsum]
    omega
  obtain ⟨y, hy⟩ := Int.eq_ofNat_of_zero_le hs.1
  obtain ⟨t, ht⟩ := Int.eq_ofNat_of_zero_le (show 0 ≤ l[k].2 by omega)
  have e1 : l[k].1.toNat = y := by omega
  have e2 : l[k].2.toNat = t := by omega
  unfold dv
  rw [h1.1, h1.2, e1, e2, hy, ht]
  simp only [Int.natCast_mul]
  grind
theorem rests_spec {n : Nat × Nat} (hn : 100000000000000000000 ≤ n.1) {l : List Src} (hg : Good l) {K : List (Nat × Nat)} (hK : Blk l K l.length) {V : List Frc} (hV : V.length = l.length) (hVb : ∀ x ∈ K, ∀ i (h : i < V.length), x.1 ≤ i → i < x.2 → V[i] = Mx l x.1 x.2)
    (hcov : ∀ i, i < l.length → ∃ x ∈ K, x.1 ≤ i ∧ i < x.2) : ∀ (m k : Nat) (P : Int) (R : Nat) (out : List Frc), k ≤ l.length → l.length - k < m → out.length = k → 0 < R → Nat.gcd P.natAbs R = 1 → P.natAbs ≤ 900 * k * R →
    (∀ x ∈ K, x.1 ≤ k → k < x.2 → P * (Mx l x.1 x.2).2 = R * dv l (Mx l x.1 x.2) x.1 k) → (∀ i (hi : i < out.length), ∀ x ∈ K, x.1 ≤ i → i < x.2 → Rst l (Mx l x.1 x.2) x.1 (i + 1) out[i]) →
    ∃ Rs, Rs.length = l.length ∧ DL83_1 n m V l (l.length : Int) (k : Int) P (R : Int) out = some Rs ∧ ∀ i (hi : i < Rs.length), ∀ x ∈ K, x.1 ≤ i → i < x.2 → Rst l (Mx l x.1 x.2) x.1 (i + 1) Rs[i]
  | 0, k, _, _, _, _, h, _, _, _, _, _, _ => by omega
  | m + 1, k, P, R, out, hk, h, ho, hR, hc, hP, hx, hout => by
    have hle := hg.le
    have hok := hg.ok
    rw [DL83_1_succ]
    unfold DF83_1
    by_cases hlt : k < l.length
    · obtain ⟨x, hxK, x1, x2⟩ := hcov k hlt
      have hr := hK.ch.rng x hxK
      have F := Mx_Val hok hr.1 hr.2
      have hltv : k < V.length := by omega
      have hs := hg.all l[k] (List.getElem_mem hlt)
      obtain ⟨e1, e2⟩ := rest_bound (f := Mx l x.1 x.2) hs ⟨by have := F.fr.dp; omega, F.fr.dl, F.fr.np, F.le⟩
      rw [show decide ((k : Int) < (l.length : Int)) = true by simpa using hlt, cond_true, idx_nat hlt, idx_nat hltv, hVb x hxK k hltv x1 x2]
      simp only [Option.bind_some]
      rw [e1]
      obtain ⟨q, hq⟩ := Int.eq_ofNat_of_zero_le (Int.le_of_lt F.fr.dp)
      have hq0 := F.fr.dp
      have hq72 := F.fr.dl
      have hst := rest_step (Mx l x.1 x.2) (b := x.1) hlt hs
      have hxk := hx x hxK x1 x2
      rw [hq] at hq0 hq72 e2 hst hxk ⊢
      rw [Int.toNat_natCast] at e2
      generalize hnum : l[k].2 * (l[k].1 * (q : Int) - (Mx l x.1 x.2).1) = num at e2 hst ⊢
      have hRq : R ∣ q := by
        have h5 : (R : Int) ∣ P * q := ⟨_, hxk⟩
        have h6 := Int.natAbs_dvd_natAbs.2 h5
        rw [Int.natAbs_natCast, Int.natAbs_mul, Int.natAbs_natCast] at h6
        exact Nat.Coprime.dvd_of_dvd_mul_left (Nat.Coprime.symm hc) h6
      have hB : (900 * k + 900) * q ≤ 4000000000000000000 := by
        have := Nat.mul_le_mul (show 900 * k + 900 ≤ 8100 by omega) (show q ≤ 72 by omega)
        omega
      obtain ⟨P', R', a1, a2, a3, a4, a5, a6⟩ := add_gen hn (P := P) (num := num) (R := R) (den := q) (D := q) (B := 900 * k) (C := 900) hR (by omega) hRq (Nat.dvd_refl _) (by omega) (by omega) hB hP e2
      rw [a1]
      simp only [Option.bind_some]
      rw [show decide (out.length + [(P', (R' : Int))].length ≤ lim) = true by simp [lim]; omega, cond_true, show wr .i64 ((k : Int) + 1) = ((k + 1 : Nat) : Int) by rw [wr_ok (by omega) (by omega)]; omega]
      have hval : P' * (Mx l x.1 x.2).2 = R' * dv l (Mx l x.1 x.2) x.1 (k + 1) := by
        rw [hst, hq]
        simp only [Int.natCast_mul] at a6
        have hRI : (R : Int) ≠ 0 := by omega
        refine Int.eq_of_mul_eq_mul_right hRI ?_
        generalize dv l (Mx l x.1 x.2) x.1 k = d at hxk ⊢
        have : P' * ((R : Int) * q) = R' * (R * d + num * R) := by rw [a6, hxk]
        grind
      refine rests_spec hn hg hK hV hVb hcov m (k + 1) P' R' (out ++ [(P', (R' : Int))]) (by omega) (by omega) (by simp; omega) a2 a5 ?_ ?_ ?_
      · have : 900 * (k + 1) = 900 * k + 900 := by omega
        rw [this]
        exact a4
      · intro y hy y1 y2
        by_cases hb : k + 1 < x.2
        · have := hK.ch.uniq3 x hxK y hy (k + 1) (by omega) hb y1 y2
          subst this
          exact hval
        · have hb' : k + 1 = x.2 := by omega
          have hm := dv_mean hok hr.1 hr.2
          rw [hb', hm, Int.mul_zero] at hval
          have hP0 : P' = 0 := by
            rcases Int.mul_eq_zero.1 hval with h0 | h0
            · exact h0
            · rw [hq] at h0; omega
          have hy0 : y.1 = k + 1 := by
            rcases Nat.lt_or_ge y.1 (k + 1) with hlt2 | hge
            · have := hK.ch.uniq3 x hxK y hy k x1 x2 (by omega) (by omega)
              subst this
              omega
            · omega
          rw [hP0, hy0, dv_self]
          simp
      · intro i hi y hy y1 y2
        rw [List.getElem_append]
        split
        · rename_i hlt3
          exact hout i hlt3 y hy y1 y2
        · have hik : i = k := by simp at hi; omega
          subst hik
          have := hK.ch.uniq3 x hxK y hy i x1 x2 y1 y2
          subst this
          simp only [ho, Nat.sub_self, List.getElem_cons_zero]
          exact ⟨by simp only; omega, by simpa using a5, hval⟩
    · rw [show decide ((k : Int) < (l.length : Int)) = false by simpa using hlt, cond_false]
      exact ⟨out, by omega, rfl, hout⟩
end Go.Proofs.Ytombednapelokaa
