/- Reign: plain laws: the cost together; blocks out of values; the law ReignNear. -/
import Derived.Test.YtombednapelokaaMu
import Derived.Test.YtombednapelokaaMs
import Derived.Test.YtombednapelokaaLG4
import Derived.Test.YtombednapelokaaViX
set_option linter.unusedVariables false
set_option linter.unusedSimpArgs false
namespace Go.Proofs.Ytombednapelokaa
open Go.Vi

abbrev N2 : Nat × Nat := (100000000000000000000, 1)
theorem works_val2 : D18 N2 = some true := by kernel_rfl

theorem ChT.uniq2 : ∀ {K : List (Nat × Nat)} {t : Nat}, ChT K t → ∀ x ∈ K, ∀ y ∈ K, ∀ i, x.1 ≤ i → i < x.2 → y.1 ≤ i → i < y.2 → x = y
  | [], _, _, x, hx, _, _, _, _, _, _, _ => by cases hx
  | (b, e) :: r, t, ⟨h1, h2, h3⟩, x, hx, y, hy, i, a1, a2, a3, a4 => by
    rcases List.mem_cons.1 hx with rfl | hx <;> rcases List.mem_cons.1 hy with rfl | hy
    · rfl
    · have := h3.rng y hy
      simp only at a1 a2
      omega
    · have := h3.rng x hx
      simp only at a3 a4
      omega
    · exact ChT.uniq2 h3 x hx y hy i a1 a2 a3 a4

/-- A chain, the first block first. -/
def ChB : Nat → List (Nat × Nat) → Nat → Prop
  | s, [], t => s = t
  | s, (b, e) :: r, t => b = s ∧ b < e ∧ ChB e r t

theorem ChB.app : ∀ {A B : List (Nat × Nat)} {s m t : Nat}, ChB s A m → ChB m B t → ChB s (A ++ B) t
  | [], B, s, m, t, h1, h2 => by
    have : s = m := h1
    subst this
    exact h2
  | (b, e) :: r, B, s, m, t, ⟨h1, h2, h3⟩, h4 => ⟨h1, h2, h3.app h4⟩

theorem ChT.toB : ∀ {K : List (Nat × Nat)} {t : Nat}, ChT K t → ChB 0 K.reverse t
  | [], t, h => by
    have : t = 0 := h
    subst this
    rfl
  | (b, e) :: r, t, ⟨h1, h2, h3⟩ => by
    rw [List.reverse_cons]
    exact h3.toB.app ⟨rfl, h2, h1⟩

theorem Blk.adj : ∀ {l : List Src} {K : List (Nat × Nat)} {t : Nat}, Blk l K t → ∀ x ∈ K, ∀ y ∈ K, x.2 = y.1 → (Mx l x.1 x.2).1 * (Mx l y.1 y.2).2 < (Mx l y.1 y.2).1 * (Mx l x.1 x.2).2
  | l, [], _, _, x, hx, _, _, _ => by cases hx
  | l, z :: r, t, h, x, hx, y, hy, e => by
    obtain ⟨b, en⟩ := z
    obtain ⟨⟨h1, h2, h3⟩, hl, hi, hinc⟩ := h
    rcases List.mem_cons.1 hx with rfl | hx <;> rcases List.mem_cons.1 hy with rfl | hy
    · simp only at e; omega
    · have := h3.rng y hy
      simp only at e
      omega
    · exact hi x hx
    · exact Blk.adj ⟨h3, fun w hw => hl w (List.mem_cons_of_mem _ hw), hinc⟩ x hx y hy e

theorem den_sq {l : List Src} (ho : Ok l) {b e : Nat} (h : b < e) (he : e ≤ l.length) {q : Nat} (hq : (Mx l b e).2 = q) : q * q ≤ 18 ^ (e - b) := by
  have h8 := ho.1
  have hseg : ((l.take e).drop b).length = e - b := by simp; omega
  have hs := Ok.sums ((ho.take e).drop b).2
  rw [hseg] at hs
  have hq' : q = tsum ((l.take e).drop b) / Nat.gcd (ysum ((l.take e).drop b)) (tsum ((l.take e).drop b)) := by
    have : (Mx l b e).2 = ((tsum ((l.take e).drop b) / Nat.gcd (ysum ((l.take e).drop b)) (tsum ((l.take e).drop b)) : Nat) : Int) := rfl
    rw [this] at hq
    exact_mod_cast hq.symm
  by_cases h1 : e - b = 1
  · have : ∃ x, (l.take e).drop b = [x] := List.length_eq_one_iff.1 (by omega)
    obtain ⟨x, hx⟩ := this
    have ht : 0 < x.2.toNat := by
      rw [hx] at hs
      simp only [tsum, Nat.add_zero] at hs
      omega
    rw [hx] at hq'
    simp only [ysum, tsum, Nat.add_zero] at hq'
    rw [Nat.gcd_eq_right (Nat.dvd_mul_left _ _), Nat.div_self ht] at hq'
    rw [hq', h1]
    decide
  · have hle : q ≤ 9 * (e - b) := by
      rw [hq']
      exact Nat.le_trans (Nat.div_le_self _ _) hs.2.1
    have h2 : q * q ≤ (9 * (e - b)) * (9 * (e - b)) := Nat.mul_le_mul hle hle
    have h3 : e - b = 2 ∨ e - b = 3 ∨ e - b = 4 ∨ e - b = 5 ∨ e - b = 6 ∨ e - b = 7 ∨ e - b = 8 := by omega
    refine Nat.le_trans h2 ?_
    rcases h3 with h3 | h3 | h3 | h3 | h3 | h3 | h3 <;> rw [h3] <;> decide

/-- One block: both come to the same. -/
theorem cost_block {l : List Src} (hg : Good l) {b e : Nat} (h : b < e) (he : e ≤ l.length) {p q : Nat} (hp : (Mx l b e).1 = p) (hq : (Mx l b e).2 = q) {P P1 P2 : Int} {R R1 R2 : Nat} (hR : 0 < R) (h1 : 0 < R1) (h2 : 0 < R2) (c1 : Nat.gcd P1.natAbs R1 = 1) (c2 : Nat.gcd P2.natAbs R2 = 1)
    (e1 : P1 * ((R * tsum ((l.take e).drop b) : Nat) : Int) = R1 * ((P + ((R * q2s ((l.take e).drop b) : Nat) : Int)) * ((tsum ((l.take e).drop b) : Nat) : Int) + -(((ysum ((l.take e).drop b) : Nat) : Int) * ((ysum ((l.take e).drop b) : Nat) : Int)) * R))
    (e2 : P2 * (R * (q * q)) = R2 * (P * (q * q) + rss ((p : Int), (q : Int)) ((l.take e).drop b) * R)) : P1 = P2 ∧ R1 = R2 := by
  have ho := hg.ok
  have hm := dv_mean ho h he
  obtain ⟨s1, s2⟩ := seg_sums l (Nat.le_of_lt h)
  unfold dv at hm
  rw [hp, hq, ← s1, ← s2] at hm
  have hr := rss_eq ((p : Int), (q : Int)) ((ho.take e).drop b).2
  have hT := T_pos ho h he
  have hq0 := (Mx_Fr ho h he).dp
  rw [hq] at hq0
  rw [← s2] at hT
  simp only at hr
  rw [hr] at e2
  generalize ((ysum ((l.take e).drop b) : Nat) : Int) = Y at *
  generalize hTT : tsum ((l.take e).drop b) = T at *
  generalize q2s ((l.take e).drop b) = Q at *
  simp only [Int.natCast_mul] at e1 e2
  refine frac_uniq h1 h2 c1 c2 ?_
  have hRI : (R : Int) ≠ 0 := by omega
  have hTI : (T : Int) ≠ 0 := by omega
  have hqI : (q : Int) ≠ 0 := by omega
  have hne : (R : Int) * (T : Int) * ((q : Int) * (q : Int)) ≠ 0 := Int.mul_ne_zero (Int.mul_ne_zero hRI hTI) (Int.mul_ne_zero hqI hqI)
  refine Int.eq_of_mul_eq_mul_right hne ?_
  have key : ((P + (R : Int) * (Q : Int)) * (T : Int) + -(Y * Y) * (R : Int)) * ((q : Int) * (q : Int)) = (P * ((q : Int) * (q : Int)) + ((q : Int) * q * Q - 2 * q * p * Y + (p : Int) * p * T) * R) * T := by
    have hm' : (q : Int) * Y = p * T := by omega
    grind
  have l1 : P1 * (R2 : Int) * ((R : Int) * T * ((q : Int) * q)) = (P1 * ((R : Int) * T)) * ((R2 : Int) * ((q : Int) * q)) := by grind
  have l2 : P2 * (R1 : Int) * ((R : Int) * T * ((q : Int) * q)) = (P2 * ((R : Int) * ((q : Int) * q))) * ((R1 : Int) * T) := by grind
  rw [l1, l2, e1, e2]
  have l3 : (R1 : Int) * ((P + (R : Int) * (Q : Int)) * (T : Int) + -(Y * Y) * (R : Int)) * ((R2 : Int) * ((q : Int) * q)) = (R1 : Int) * R2 * (((P + (R : Int) * (Q : Int)) * (T : Int) + -(Y * Y) * (R : Int)) * ((q : Int) * q)) := by grind
  rw [l3, key]
  grind

theorem cost_both {n : Nat × Nat} (hn : 100000000000000000000 ≤ n.1) {l : List Src} (hg : Good l) {V : List Frc} (hV : V.length = l.length) {L : List (Nat × Nat)} (hVb : ∀ x ∈ L, ∀ i (h : i < V.length), x.1 ≤ i → i < x.2 → V[i] = Mx l x.1 x.2) : ∀ (r pre : List (Nat × Nat)) (t m m' : Nat) (P : Int) (R D : Nat), L = pre ++ r → ChB t r l.length → t ≤ l.length → r.length < m → l.length - t < m' →
    0 < R → R ∣ D → 0 < D → D ≤ 18 ^ t → P.natAbs ≤ 180000 * t * R → Nat.gcd P.natAbs R = 1 → L.length ≤ 8 →
    ∃ o, DL35_1 n m l (L.length : Int) (pre.length : Int) 0 0 P (R : Int) (L.map (blk l)) = some o ∧ DL36_1 n m' l (t : Int) 0 0 V P (R : Int) = some o
  | [], pre, t, m, m', P, R, D, hL, hch, ht, hm, hm', hR, hRD, hD, hDb, hP, hc, h8 => by
    have : t = l.length := hch
    subst this
    obtain ⟨m, rfl⟩ : ∃ k, m = k + 1 := ⟨m - 1, by omega⟩
    obtain ⟨m', rfl⟩ : ∃ k, m' = k + 1 := ⟨m' - 1, by omega⟩
    rw [DL35_1_succ, DL36_1_succ]
    unfold DF35_1 DF36_1
    rw [List.append_nil] at hL
    subst hL
    rw [show decide ((L.length : Int) < (L.length : Int)) = false by simp, show decide ((l.length : Int) < (l.length : Int)) = false by simp, cond_false, cond_false]
    exact ⟨_, rfl, rfl⟩
  | (b, e) :: r, pre, t, m, m', P, R, D, hL, hch, ht, hm, hm', hR, hRD, hD, hDb, hP, hc, h8 => by
    obtain ⟨h1, h2, h3⟩ := hch
    subst h1
    have hl8 := hg.le
    have ho := hg.ok
    obtain ⟨m, rfl⟩ : ∃ k, m = k + 1 := ⟨m - 1, by omega⟩
    have hrng : ∀ {r : List (Nat × Nat)} {s t : Nat}, ChB s r t → s ≤ t := by
      intro r
      induction r with
      | nil => intro s t h; exact Nat.le_of_eq h
      | cons x r ih =>
        obtain ⟨b, e⟩ := x
        intro s t h
        obtain ⟨a1, a2, a3⟩ := h
        have := ih a3
        omega
    have he : e ≤ l.length := hrng h3
    have hmem : (b, e) ∈ L := by rw [hL]; simp
    have hlt : pre.length < L.length := by rw [hL]; simp
    have hget : L[pre.length] = (b, e) := by simp [hL]
    have hlt2 : pre.length < (L.map (blk l)).length := by simpa using hlt
    have F := Mx_Val ho h2 he
    obtain ⟨p, hp⟩ := Int.eq_ofNat_of_zero_le F.fr.np
    obtain ⟨q, hq⟩ := Int.eq_ofNat_of_zero_le (Int.le_of_lt F.fr.dp)
    have hq0 := F.fr.dp
    have hq72 := F.fr.dl
    have hp100 := F.le
    rw [hq] at hq0 hq72
    rw [hp, hq] at hp100
    have hsq := den_sq ho h2 he hq
    have h18 : 18 ^ e ≤ 11019960576 := by
      have : 18 ^ e ≤ 18 ^ 8 := Nat.pow_le_pow_right (by omega) (by omega)
      omega
    have h18b : 18 ^ b ≤ 18 ^ e := Nat.pow_le_pow_right (by omega) (by omega)
    have hD2 : D * (q * q) ≤ 18 ^ e := by
      have := Nat.mul_le_mul hDb hsq
      rwa [← Nat.pow_add, show b + (e - b) = e by omega] at this
    have hRle : R ≤ D := Nat.le_of_dvd hD hRD
    -- the segment
    have hsok : Ok ((l.take e).drop b) := (ho.take e).drop b
    have hslen : ((l.take e).drop b).length = e - b := by simp; omega
    have hss := Ok.sums hsok.2
    have hsq2 := q2s_le hsok.2
    rw [hslen] at hss hsq2
    have hTp := T_pos ho h2 he
    rw [← (seg_sums l (Nat.le_of_lt h2)).2] at hTp
    have hYT : ysum ((l.take e).drop b) ≤ 100 * tsum ((l.take e).drop b) := by
      have hle : ∀ (s : List Src), (∀ x ∈ s, 0 ≤ x.1 ∧ x.1 ≤ 100 ∧ 1 ≤ x.2 ∧ x.2 ≤ 9) → ysum s ≤ 100 * tsum s := by
        intro s
        induction s with
        | nil => intro _; simp [ysum]
        | cons x r ih =>
          intro hs
          have hx := hs x (by simp)
          have := ih fun y hy => hs y (List.mem_cons_of_mem _ hy)
          have h3 := Nat.mul_le_mul_right x.2.toNat (show x.1.toNat ≤ 100 by omega)
          simp only [ysum, tsum]
          omega
      exact hle _ hsok.2
    -- the program
    have hRq : R * q2s ((l.take e).drop b) ≤ 90000 * (e - b) * R := by
      rw [Nat.mul_comm R]
      exact Nat.mul_le_mul_right _ hsq2
    have hPb : 180000 * b * R ≤ 180000 * b * 11019960576 := Nat.mul_le_mul_left _ (by omega)
    have hPc : 90000 * (e - b) * R ≤ 720000 * 11019960576 := Nat.mul_le_mul (by omega) (by omega)
    have hPd : 180000 * b * 11019960576 ≤ 1440000 * 11019960576 := Nat.mul_le_mul_right _ (by omega)
    rw [DL35_1_succ]
    unfold DF35_1
    obtain ⟨sg1, sg2⟩ := seg_eq (n := n) (by omega) ho h2 he
    rw [show decide ((pre.length : Int) < (L.length : Int)) = true by simpa using hlt, cond_true, show inB (pre.length : Int) (L.map (blk l)).length = true by simp [inB]; omega, cond_true, idx_nat hlt2, List.getElem_map, hget]
    simp only [Option.bind_some, blk, sg1, cond_true]
    rw [Int.toNat_natCast, Int.toNat_natCast]
    have hRs : R ≤ 11019960576 := Nat.le_trans hRle (Nat.le_trans hDb (Nat.le_trans h18b h18))
    have hR7 : R * 720000 ≤ 1000000000000000000 := Nat.le_trans (Nat.mul_le_mul_right 720000 hRs) (by decide)
    have hY7 : 0 + ysum (((l.take e).drop b).drop 0) ≤ 7200 := by rw [List.drop_zero]; omega
    have hT7 : 0 + tsum (((l.take e).drop b).drop 0) ≤ 72 := by rw [List.drop_zero]; omega
    have hP7 : P.natAbs + R * q2s (((l.take e).drop b).drop 0) ≤ 4000000000000000000 := by rw [List.drop_zero]; omega
    have ci := cost_inner n (DL35_1 n m) l (L.length : Int) (pre.length : Int) 0 0 (L.map (blk l)) hsok (R := R) hR7 n.1 0 0 0 P (Nat.zero_le _) (by omega) hY7 hT7 hP7
    simp only [Int.natCast_zero, List.drop_zero, Nat.zero_add] at ci
    rw [show (L.map (blk l)) = L.map (fun x => ((x.1 : Int), (x.2 : Int), (Mx l x.1 x.2).1, (Mx l x.1 x.2).2)) from rfl] at ci
    have hfold : (L.map fun x => ((x.1 : Int), (x.2 : Int), (Mx l x.1 x.2).1, (Mx l x.1 x.2).2)) = L.map (blk l) := rfl
    have hT0 : 0 < tsum ((l.take e).drop b) := by omega
    have hDT : D * tsum ((l.take e).drop b) ≤ 11019960576 * 72 := Nat.mul_le_mul (by omega) (by omega)
    have hYY : ysum ((l.take e).drop b) * ysum ((l.take e).drop b) ≤ 10000 * tsum ((l.take e).drop b) * tsum ((l.take e).drop b) := by
      have := Nat.mul_le_mul hYT hYT
      have e5 : 100 * tsum ((l.take e).drop b) * (100 * tsum ((l.take e).drop b)) = 10000 * tsum ((l.take e).drop b) * tsum ((l.take e).drop b) := by grind
      omega
    have hBC : (180000 * b + 90000 * (e - b) + 10000 * tsum ((l.take e).drop b)) * (D * tsum ((l.take e).drop b)) ≤ 4000000000000000000 := by
      have := Nat.mul_le_mul (show 180000 * b + 90000 * (e - b) + 10000 * tsum ((l.take e).drop b) ≤ 2880000 by omega) hDT
      omega
    obtain ⟨P1, R1, a1, a2, a3, a4, a5, a6⟩ := add_gen hn (P := P + ((R * q2s ((l.take e).drop b) : Nat) : Int)) (num := -(((ysum ((l.take e).drop b) : Nat) : Int) * ((ysum ((l.take e).drop b) : Nat) : Int))) (R := R) (den := tsum ((l.take e).drop b)) (D := D * tsum ((l.take e).drop b)) (B := 180000 * b + 90000 * (e - b)) (C := 10000 * tsum ((l.take e).drop b))
      hR hT0 (Nat.dvd_trans hRD (Nat.dvd_mul_right _ _)) (Nat.dvd_mul_left _ _) (Nat.mul_pos hD hT0) (by omega) hBC (by rw [Nat.add_mul]; omega) (by rw [Int.natAbs_neg, ← Int.natCast_mul, Int.natAbs_natCast]; exact hYY)
    -- the reference
    obtain ⟨m', rfl⟩ : ∃ k, m' = k + (e - b) := ⟨m' - (e - b), by omega⟩
    obtain ⟨P2, R2, b1, b2, b3, b4, b5, b6⟩ := costr_inner hn hg hV he (p := p) (q := q) (by omega) (by omega) (by omega) (b := b) (fun i hi hb1 hb2 => by
      rw [hVb (b, e) hmem i hi hb1 hb2]
      simp only
      rw [← hp, ← hq]) 0 0 (P := P) (R := R) (D := D * (q * q)) hR (Nat.mul_pos hD (Nat.mul_pos (by omega) (by omega))) (by omega) (Nat.dvd_mul_left _ _) (e - b) b m' P R (by omega) (Nat.le_refl _) hR (Nat.dvd_trans hRD (Nat.dvd_mul_right _ _)) hP
      (by rw [List.drop_of_length_le (by rw [List.length_take]; exact Nat.min_le_left _ _)]; simp only [rss]; grind) (fun _ => hc) (fun h => by omega)
    obtain ⟨rfl, rfl⟩ := cost_block hg h2 he hp hq hR a2 b2 a5 b5 a6 b6
    obtain ⟨o, o1, o2⟩ := cost_both hn hg hV hVb r (pre ++ [(b, e)]) e m m' P1 R1 (D * (q * q)) (by rw [hL]; simp) h3 he (by simp at hm; omega) (by omega) a2 b3 (Nat.mul_pos hD (Nat.mul_pos (by omega) (by omega))) hD2 b4 a5 h8
    refine ⟨o, ?_, by rw [b1]; exact o2⟩
    rw [show (L.map fun x => ((x.1 : Int), (x.2 : Int), (Mx l x.1 x.2).1, (Mx l x.1 x.2).2)) = L.map (blk l) from rfl] at ci
    refine Eq.trans ci ?_
    rw [a1]
    simp only [Option.bind_some]
    rw [show wr .i64 ((pre.length : Int) + 1) = ((pre ++ [(b, e)]).length : Int) by rw [wr_ok (by omega) (by omega)]; simp]
    exact o1

end Go.Proofs.Ytombednapelokaa
