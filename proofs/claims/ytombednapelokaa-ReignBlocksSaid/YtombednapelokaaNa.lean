/- Reign: plain laws: the cost, exactly, whatever the trusts. -/
import Derived.Test.YtombednapelokaaMx
set_option linter.unusedVariables false
set_option linter.unusedSimpArgs false
namespace Go.Proofs.Ytombednapelokaa
open Go.Vi
theorem den_sq {l : List Src} (ho : Ok l) {b e : Nat} (h : b < e) (he : e ≤ l.length) {q : Nat} (hq : (Mx l b e).2 = q) : q * q ≤ 18 ^ (e - b) := by
  have h8 := ho.1
  have hseg : ((l.take e).drop b).length = e - b := by simp; omega
  have hs := Ok.sums ((ho.take e).drop b).2
  rw [hseg] at hs
  have hq' : q = tsum ((l.take e).drop b) / Nat.gcd (ysum ((l.take e).drop b)) (tsum ((l.take e).drop b)) := by
    have : (Mx l b e).2 = ((tsum ((l.take e).drop b) / Nat.gcd (ysum ((l.take e).drop b)) (tsum ((l.take e).drop b)) : Nat) : Int) := rfl
    rw [this] at hq
    exact_mod_cast hq.symm
  by_cases h1 : e - b = 1
  · have : ∃ x, (l.take e).drop b = [x] := List.length_eq_one_iff.1 (by omega)
    obtain ⟨x, hx⟩ := this
    have ht : 0 < x.2.toNat := by
      rw [hx] at hs
      simp only [tsum, Nat.add_zero] at hs
      omega
    rw [hx] at hq'
    simp only [ysum, tsum, Nat.add_zero] at hq'
    rw [Nat.gcd_eq_right (Nat.dvd_mul_left _ _), Nat.div_self ht] at hq'
    rw [hq', h1]
    decide
  · have hle : q ≤ 9 * (e - b) := by
      rw [hq']
      exact Nat.le_trans (Nat.div_le_self _ _) hs.2.1
    have h2 : q * q ≤ (9 * (e - b)) * (9 * (e - b)) := Nat.mul_le_mul hle hle
    have h3 : e - b = 2 ∨ e - b = 3 ∨ e - b = 4 ∨ e - b = 5 ∨ e - b = 6 ∨ e - b = 7 ∨ e - b = 8 := by omega
    refine Nat.le_trans h2 ?_
    rcases h3 with h3 | h3 | h3 | h3 | h3 | h3 | h3 <;> rw [h3] <;> decide
/-- A chain, the first block first. -/
def Cb : Nat → List (Nat × Nat) → Nat → Prop
  | s, [], t => s = t
  | s, (b, e) :: r, t => b = s ∧ b < e ∧ Cb e r t
theorem Cb.app : ∀ {A B : List (Nat × Nat)} {s m t : Nat}, Cb s A m → Cb m B t → Cb s (A ++ B) t
  | [], B, s, m, t, h1, h2 => by
    have : s = m := h1
    subst this
    exact h2
  | (b, e) :: r, B, s, m, t, ⟨h1, h2, h3⟩, h4 => ⟨h1, h2, h3.app h4⟩
theorem ChT.toCb : ∀ {K : List (Nat × Nat)} {t : Nat}, ChT K t → Cb 0 K.reverse t
  | [], t, h => by
    have : t = 0 := h
    subst this
    rfl
  | (b, e) :: r, t, ⟨h1, h2, h3⟩ => by
    rw [List.reverse_cons]
    exact h3.toCb.app ⟨rfl, h2, h1⟩
theorem Cb.le : ∀ {r : List (Nat × Nat)} {s t : Nat}, Cb s r t → s ≤ t
  | [], s, t, h => Nat.le_of_eq h
  | (b, e) :: r, s, t, ⟨h1, h2, h3⟩ => by have := h3.le; omega
/-- The cost, with the blocks' Dens together. -/
def cstep (l : List Src) (a : Int × Nat) (x : Nat × Nat) : Int × Nat :=
  (a.1 * (Mx l x.1 x.2).2 + a.2 * (((q2s ((l.take x.2).drop x.1) : Nat) : Int) * (Mx l x.1 x.2).2 - ((ysum ((l.take x.2).drop x.1) : Nat) : Int) * (Mx l x.1 x.2).1), a.2 * (Mx l x.1 x.2).2.toNat)
theorem cost_spec18 {n : Nat × Nat} (hn : 100000000000000000000 ≤ n.1) {l : List Src} (hg : Good l) {L : List (Nat × Nat)} : ∀ (r pre : List (Nat × Nat)) (t m : Nat) (P : Int) (R : Nat) (a : Int × Nat), L = pre ++ r → Cb t r l.length → t ≤ l.length → r.length < m →
    0 < R → 0 < a.2 → a.2 * a.2 ≤ 18 ^ t → P.natAbs ≤ 180000 * t * R → Nat.gcd P.natAbs R = 1 → P * a.2 = R * a.1 → L.length ≤ 8 → 0 ≤ a.1 →
    ∃ (P' : Int) (R' : Nat), DL35_1 n m l (L.length : Int) (pre.length : Int) 0 0 P (R : Int) (L.map (blk l)) = some ((P', (R' : Int)), 0) ∧ 0 < R' ∧ P'.natAbs ≤ 180000 * l.length * R' ∧ 0 < (r.foldl (cstep l) a).2 ∧ (r.foldl (cstep l) a).2 * (r.foldl (cstep l) a).2 ≤ 18 ^ l.length ∧ R' ∣ (r.foldl (cstep l) a).2 ∧ P' * (r.foldl (cstep l) a).2 = R' * (r.foldl (cstep l) a).1 ∧ 0 ≤ (r.foldl (cstep l) a).1 ∧ Nat.gcd P'.natAbs R' = 1
  | [], pre, t, m, P, R, a, hL, hch, ht, hm, hR, ha, hab, hP, hc, he, h8, hpos => by
    have : t = l.length := hch
    subst this
    obtain ⟨m, rfl⟩ : ∃ k, m = k + 1 := ⟨m - 1, by omega⟩
    rw [DL35_1_succ]
    unfold DF35_1
    rw [List.append_nil] at hL
    subst hL
    rw [show decide ((L.length : Int) < (L.length : Int)) = false by simp, cond_false]
    refine ⟨P, R, rfl, hR, hP, ha, hab, ?_, he, hpos, hc⟩
    have h5 : (R : Int) ∣ P * a.2 := ⟨_, he⟩
    have h6 := Int.natAbs_dvd_natAbs.2 h5
    rw [Int.natAbs_natCast, Int.natAbs_mul, Int.natAbs_natCast] at h6
    exact Nat.Coprime.dvd_of_dvd_mul_left (Nat.Coprime.symm hc) h6
  | (b, e) :: r, pre, t, m, P, R, a, hL, hch, ht, hm, hR, ha, hab, hP, hc, heq, h8, hpos => by
    obtain ⟨h1, h2, h3⟩ := hch
    subst h1
    have hl8 := hg.le
    have ho := hg.ok
    obtain ⟨m, rfl⟩ : ∃ k, m = k + 1 := ⟨m - 1, by omega⟩
    have he : e ≤ l.length := h3.le
    have hmem : (b, e) ∈ L := by rw [hL]; simp
    have hlt : pre.length < L.length := by rw [hL]; simp
    have hget : L[pre.length] = (b, e) := by simp [hL]
    have hlt2 : pre.length < (L.map (blk l)).length := by simpa using hlt
    have F := Mx_Val ho h2 he
    obtain ⟨p, hp⟩ := Int.eq_ofNat_of_zero_le F.fr.np
    obtain ⟨q, hq⟩ := Int.eq_ofNat_of_zero_le (Int.le_of_lt F.fr.dp)
    have hq0 := F.fr.dp
    rw [hq] at hq0
    have hqq := den_sq ho h2 he hq
    have h18b : a.2 ≤ 104976 := by
      have h1 : 18 ^ b ≤ 18 ^ 8 := Nat.pow_le_pow_right (by omega) (by omega)
      rcases Nat.lt_or_ge 104976 a.2 with h2 | h2
      · have := Nat.mul_le_mul (show 104977 ≤ a.2 by omega) (show 104977 ≤ a.2 by omega)
        omega
      · exact h2
    have hE2 : a.2 * q * (a.2 * q) ≤ 18 ^ e := by
      have := Nat.mul_le_mul hab hqq
      rw [← Nat.pow_add, show b + (e - b) = e by omega] at this
      have e1 : a.2 * q * (a.2 * q) = a.2 * a.2 * (q * q) := by grind
      omega
    have hRE : R ∣ a.2 := by
      have h5 : (R : Int) ∣ P * a.2 := ⟨_, heq⟩
      have h6 := Int.natAbs_dvd_natAbs.2 h5
      rw [Int.natAbs_natCast, Int.natAbs_mul, Int.natAbs_natCast] at h6
      exact Nat.Coprime.dvd_of_dvd_mul_left (Nat.Coprime.symm hc) h6
    have hRle : R ≤ a.2 := Nat.le_of_dvd ha hRE
    have hsok : Ok ((l.take e).drop b) := (ho.take e).drop b
    have hslen : ((l.take e).drop b).length = e - b := by simp; omega
    have hss := Ok.sums hsok.2
    have hsq2 := q2s_le hsok.2
    rw [hslen] at hss hsq2
    have hTp := T_pos ho h2 he
    obtain ⟨s1, s2⟩ := seg_sums l (Nat.le_of_lt h2)
    rw [← s2] at hTp
    have hm0 := dv_mean ho h2 he
    unfold dv at hm0
    rw [hp, hq, ← s1, ← s2] at hm0
    have hYT : ysum ((l.take e).drop b) ≤ 100 * tsum ((l.take e).drop b) := by
      have hle : ∀ (s : List Src), (∀ x ∈ s, 0 ≤ x.1 ∧ x.1 ≤ 100 ∧ 1 ≤ x.2 ∧ x.2 ≤ 9) → ysum s ≤ 100 * tsum s := by
        intro s
        induction s with
        | nil => intro _; simp [ysum]
        | cons x r ih =>
          intro hs
          have hx := hs x (by simp)
          have := ih fun y hy => hs y (List.mem_cons_of_mem _ hy)
          have h3 := Nat.mul_le_mul_right x.2.toNat (show x.1.toNat ≤ 100 by omega)
          simp only [ysum, tsum]
          omega
      exact hle _ hsok.2
    have hRq : R * q2s ((l.take e).drop b) ≤ 90000 * (e - b) * R := by
      rw [Nat.mul_comm R]
      exact Nat.mul_le_mul_right _ hsq2
    have hRs : R ≤ 104976 := by omega
    have hPb : 180000 * b * R ≤ 180000 * b * 104976 := Nat.mul_le_mul_left _ hRs
    have hPc : 90000 * (e - b) * R ≤ 720000 * 104976 := Nat.mul_le_mul (by omega) hRs
    have hPd : 180000 * b * 104976 ≤ 1440000 * 104976 := Nat.mul_le_mul_right _ (by omega)
    rw [DL35_1_succ]
    unfold DF35_1
    obtain ⟨sg1, sg2⟩ := seg_eq (n := n) (by omega) ho h2 he
    rw [show decide ((pre.length : Int) < (L.length : Int)) = true by simpa using hlt, cond_true, show inB (pre.length : Int) (L.map (blk l)).length = true by simp [inB]; omega, cond_true, idx_nat hlt2, List.getElem_map, hget]
    simp only [Option.bind_some, blk, sg1, cond_true]
    rw [Int.toNat_natCast, Int.toNat_natCast]
    have hR7 : R * 720000 ≤ 1000000000000000000 := Nat.le_trans (Nat.mul_le_mul_right 720000 hRs) (by decide)
    have hY7 : 0 + ysum (((l.take e).drop b).drop 0) ≤ 7200 := by rw [List.drop_zero]; omega
    have hT7 : 0 + tsum (((l.take e).drop b).drop 0) ≤ 72 := by rw [List.drop_zero]; omega
    have hP7 : P.natAbs + R * q2s (((l.take e).drop b).drop 0) ≤ 4000000000000000000 := by rw [List.drop_zero]; omega
    have ci := cost_inner n (DL35_1 n m) l (L.length : Int) (pre.length : Int) 0 0 (L.map (blk l)) hsok (R := R) hR7 n.1 0 0 0 P (Nat.zero_le _) (by omega) hY7 hT7 hP7
    simp only [Int.natCast_zero, List.drop_zero, Nat.zero_add] at ci
    have hT0 : 0 < tsum ((l.take e).drop b) := by omega
    have hDT : a.2 * tsum ((l.take e).drop b) ≤ 104976 * 72 := Nat.mul_le_mul (by omega) (by omega)
    have hYY : ysum ((l.take e).drop b) * ysum ((l.take e).drop b) ≤ 10000 * tsum ((l.take e).drop b) * tsum ((l.take e).drop b) := by
      have := Nat.mul_le_mul hYT hYT
      have e5 : 100 * tsum ((l.take e).drop b) * (100 * tsum ((l.take e).drop b)) = 10000 * tsum ((l.take e).drop b) * tsum ((l.take e).drop b) := by grind
      omega
    have hBC : (180000 * b + 90000 * (e - b) + 10000 * tsum ((l.take e).drop b)) * (a.2 * tsum ((l.take e).drop b)) ≤ 4000000000000000000 := by
      have := Nat.mul_le_mul (show 180000 * b + 90000 * (e - b) + 10000 * tsum ((l.take e).drop b) ≤ 2880000 by omega) hDT
      omega
    obtain ⟨P1, R1, a1, a2, a3, a4, a5, a6⟩ := add_gen hn (P := P + ((R * q2s ((l.take e).drop b) : Nat) : Int)) (num := -(((ysum ((l.take e).drop b) : Nat) : Int) * ((ysum ((l.take e).drop b) : Nat) : Int))) (R := R) (den := tsum ((l.take e).drop b)) (D := a.2 * tsum ((l.take e).drop b)) (B := 180000 * b + 90000 * (e - b)) (C := 10000 * tsum ((l.take e).drop b))
      hR hT0 (Nat.dvd_trans hRE (Nat.dvd_mul_right _ _)) (Nat.dvd_mul_left _ _) (Nat.mul_pos ha hT0) (by omega) hBC (by rw [Nat.add_mul]; omega) (by rw [Int.natAbs_neg, ← Int.natCast_mul, Int.natAbs_natCast]; exact hYY)
    have hstep : cstep l a (b, e) = (a.1 * q + a.2 * (((q2s ((l.take e).drop b) : Nat) : Int) * q - ((ysum ((l.take e).drop b) : Nat) : Int) * p), a.2 * q) := by
      unfold cstep
      simp only [hp, hq, Int.toNat_natCast]
    have hterm : 0 ≤ ((q2s ((l.take e).drop b) : Nat) : Int) * q - ((ysum ((l.take e).drop b) : Nat) : Int) * p := by
      have hr := rss_eq ((p : Int), (q : Int)) hsok.2
      have hpos2 : ∀ (s : List Src), (∀ x ∈ s, 0 ≤ x.1 ∧ x.1 ≤ 100 ∧ 1 ≤ x.2 ∧ x.2 ≤ 9) → 0 ≤ rss ((p : Int), (q : Int)) s := by
        intro s
        induction s with
        | nil => intro _; simp [rss]
        | cons x r ih =>
          intro hs
          have hx := hs x (by simp)
          have := ih fun y hy => hs y (List.mem_cons_of_mem _ hy)
          have h9 : 0 ≤ x.2 * ((x.1 * (q : Int) - p) * (x.1 * (q : Int) - p)) := by
            refine Int.mul_nonneg (by omega) ?_
            rcases Int.le_total 0 (x.1 * (q : Int) - p) with h | h
            · exact Int.mul_nonneg h h
            · exact Int.mul_nonneg_of_nonpos_of_nonpos h h
          simp only [rss]
          rw [Int.mul_assoc]
          omega
      have h0 := hpos2 _ hsok.2
      rw [hr] at h0
      simp only at h0
      generalize ((ysum ((l.take e).drop b) : Nat) : Int) = Y at *
      generalize ((tsum ((l.take e).drop b) : Nat) : Int) = T at *
      generalize ((q2s ((l.take e).drop b) : Nat) : Int) = Q at *
      have h1 : (q : Int) * q * Q - 2 * q * p * Y + p * p * T = q * (Q * q - Y * p) := by
        have hm' : (q : Int) * Y = p * T := by omega
        grind
      rw [h1] at h0
      exact Int.nonneg_of_mul_nonneg_right h0 (by omega)
    have hval : P1 * ((a.2 * q : Nat) : Int) = R1 * (a.1 * q + a.2 * (((q2s ((l.take e).drop b) : Nat) : Int) * q - ((ysum ((l.take e).drop b) : Nat) : Int) * p)) := by
      generalize hYg : ((ysum ((l.take e).drop b) : Nat) : Int) = Y at *
      generalize hTg : tsum ((l.take e).drop b) = T at *
      simp only [Int.natCast_mul] at a6 ⊢
      generalize ((q2s ((l.take e).drop b) : Nat) : Int) = Q at *
      have hm' : (q : Int) * Y = p * T := by omega
      have hRI : (R : Int) ≠ 0 := by omega
      have hTI : (T : Int) ≠ 0 := by omega
      refine Int.eq_of_mul_eq_mul_right (Int.mul_ne_zero hRI hTI) ?_
      have l1 : P1 * ((a.2 : Int) * q) * ((R : Int) * T) = (P1 * ((R : Int) * T)) * ((a.2 : Int) * q) := by grind
      rw [l1, a6]
      have l2 : (R1 : Int) * ((P + (R : Int) * Q) * (T : Int) + -(Y * Y) * (R : Int)) * ((a.2 : Int) * q) = R1 * ((P * a.2) * T * q + (R : Int) * Q * T * a.2 * q - (q * Y) * Y * R * a.2) := by grind
      rw [l2, heq, hm']
      grind
    obtain ⟨P', R', o1, o2, o3, o4, o5, o6, o7, o8, o9⟩ := cost_spec18 hn hg r (pre ++ [(b, e)]) e m P1 R1 (cstep l a (b, e)) (by rw [hL]; simp) h3 he (by simp at hm; omega) a2 (by rw [hstep]; exact Nat.mul_pos ha (by omega)) (by rw [hstep]; exact hE2) (Nat.le_trans a4 (Nat.mul_le_mul_right _ (by omega))) a5 (by rw [hstep]; exact hval) h8 (by
      rw [hstep]
      exact Int.add_nonneg (Int.mul_nonneg hpos (by omega)) (Int.mul_nonneg (by omega) hterm))
    refine ⟨P', R', ?_, o2, o3, o4, o5, o6, o7, o8, o9⟩
    refine Eq.trans ci ?_
    rw [a1]
    simp only [Option.bind_some]
    rw [show wr .i64 ((pre.length : Int) + 1) = ((pre ++ [(b, e)]).length : Int) by rw [wr_ok (by omega) (by omega)]; simp]
    exact o1
end Go.Proofs.Ytombednapelokaa
