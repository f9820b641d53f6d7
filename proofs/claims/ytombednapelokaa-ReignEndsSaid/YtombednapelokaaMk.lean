/- Reign: plain laws: values between two bounds, of the program and of the reference. -/
import Derived.Test.YtombednapelokaaMs
set_option linter.unusedVariables false
set_option linter.unusedSimpArgs false
namespace Go.Proofs.Ytombednapelokaa
open Go.Vi

theorem bound_loop {n : Nat × Nat} {lo hi : Int} (hlo : 0 ≤ lo) (hhi : hi ≤ 100) (hlh : lo ≤ hi) : ∀ (m k : Nat) (O : List Frc), O.length ≤ 8 → k ≤ O.length → O.length - k < m → (∀ i (h : i < O.length), k ≤ i → Val O[i]) →
    ∃ R : List Frc, R.length = O.length ∧ DL42_1 n m lo hi (O.length : Int) (k : Int) O = some (R, 0) ∧ DL43_1 n m lo hi (k : Int) O = some (R, 0)
  | 0, k, O, _, _, h, _ => by omega
  | m + 1, k, O, h8, hk, h, hv => by
    rw [DL42_1_succ, DL43_1_succ]
    unfold DF42_1 DF43_1 DL42_2 DL43_2
    by_cases hlt : k < O.length
    · have V := hv k hlt (Nat.le_refl _)
      have v1 := V.fr.dp
      have v2 := V.fr.dl
      have v3 := V.fr.np
      have v4 := V.le
      have p1 : 0 ≤ lo * O[k].2 := Int.mul_nonneg hlo (by omega)
      have p2 : lo * O[k].2 ≤ 7200 := by
        have := Int.mul_le_mul (show lo ≤ 100 by omega) v2 (by omega) (by omega)
        omega
      have p3 : 0 ≤ hi * O[k].2 := Int.mul_nonneg (by omega) (by omega)
      have p4 : hi * O[k].2 ≤ 7200 := by
        have := Int.mul_le_mul hhi v2 (by omega) (by omega)
        omega
      have hin : inB (k : Int) O.length = true := by simp [inB]; omega
      have hw : wr .i64 ((k : Int) + 1) = ((k + 1 : Nat) : Int) := by rw [wr_ok (by omega) (by omega)]; omega
      have next : ∀ x : Frc, ∃ R : List Frc, R.length = (O.set k x).length ∧ DL42_1 n m lo hi (O.length : Int) ((k + 1 : Nat) : Int) (O.set k x) = some (R, 0) ∧ DL43_1 n m lo hi ((k + 1 : Nat) : Int) (O.set k x) = some (R, 0) := by
        intro x
        obtain ⟨R, r1, r2, r3⟩ := bound_loop (n := n) hlo hhi hlh m (k + 1) (O.set k x) (by simpa using h8) (by simp; omega) (by simp; omega) (fun i hi hki => by
          rw [List.getElem_set_ne (by omega)]
          exact hv i (by simpa using hi) (by omega))
        rw [List.length_set] at r2
        exact ⟨R, r1, r2, r3⟩
      have l1 : D89 n O[k] (lo, 1) = some (decide (O[k].1 < lo * O[k].2)) := by
        unfold D89
        rw [wr_ok (x := O[k].1 * 1) (by omega) (by omega), wr_ok (x := lo * O[k].2) (by omega) (by omega), Int.mul_one]
      have l2 : D89 n (hi, 1) O[k] = some (decide (hi * O[k].2 < O[k].1)) := by
        unfold D89
        rw [wr_ok (x := O[k].1 * 1) (by omega) (by omega), wr_ok (x := hi * O[k].2) (by omega) (by omega), Int.mul_one]
      have l3 : D89 n (hi, 1) (lo, 1) = some false := by
        unfold D89
        rw [wr_ok (x := hi * 1) (by omega) (by omega), wr_ok (x := lo * 1) (by omega) (by omega), decide_eq_false (by omega)]
      have hks : k < (O.set k (lo, 1)).length := by simpa using hlt
      have hins : inB (k : Int) (O.set k (lo, 1)).length = true := by simp [inB]; omega
      rw [show decide ((k : Int) < (O.length : Int)) = true by simpa using hlt, cond_true, cond_true, hin, cond_true, cond_true, idx_nat hlt]
      simp only [Option.bind_some]
      rw [wr_ok (x := lo * O[k].2) (by omega) (by omega), wr_ok (x := hi * O[k].2) (by omega) (by omega), l1, hw, Int.toNat_natCast]
      simp only [Option.bind_some]
      by_cases c1 : O[k].1 < lo * O[k].2
      · obtain ⟨R, r1, r2, r3⟩ := next (lo, 1)
        rw [decide_eq_true c1]
        simp only [cond_true, Option.bind_some, hins, idx_nat hks, List.getElem_set_self, l3, cond_false]
        exact ⟨R, by simpa using r1, r2, r3⟩
      · rw [decide_eq_false c1]
        simp only [cond_false, cond_true, Option.bind_some, l2]
        by_cases c2 : hi * O[k].2 < O[k].1
        · obtain ⟨R, r1, r2, r3⟩ := next (hi, 1)
          rw [decide_eq_true c2]
          simp only [cond_true]
          exact ⟨R, by simpa using r1, r2, r3⟩
        · rw [decide_eq_false c2]
          simp only [cond_false]
          exact bound_loop hlo hhi hlh m (k + 1) O h8 hlt (by omega) fun i hi hki => hv i hi (by omega)
    · rw [show decide ((k : Int) < (O.length : Int)) = false by simpa using hlt, cond_false, cond_false]
      exact ⟨O, rfl, rfl, rfl⟩

theorem bounded_eq {n : Nat × Nat} (hn : 4611686018427387904 ≤ n.1) (l : List Src) (lo hi : Int) : ∃ r, D42 n l lo hi = some r ∧ D43 n l lo hi = some r ∧ r.1.length ≤ 8 := by
  unfold D42 D43
  rw [chk_eq (by omega), chkr_eq (by omega)]
  simp only [Option.bind_some, in_eq, orB, andB]
  by_cases h : chk l = 0
  · have hg := chk_good h
    have h8 := hg.le
    rw [h]
    simp only [bne_self_eq_false, cond_false, beq_self_eq_true, show (true == true) = true from rfl, cond_true, Option.bind_some]
    by_cases hin : (0 ≤ lo ∧ lo ≤ 100) ∧ (0 ≤ hi ∧ hi ≤ 100)
    · have hA : (decide ((if hi < lo then hi else lo) < 0) || decide ((if hi > lo then hi else lo) > 100)) = false := by
        rw [Bool.or_eq_false_iff]
        constructor <;> split <;> simp <;> omega
      have hB : (!(decide (0 ≤ lo) && decide (lo ≤ 100)) || !(decide (0 ≤ hi) && decide (hi ≤ 100))) = false := by
        simp
        omega
      rw [hA, hB]
      simp only [cond_false, Bool.true_and]
      by_cases hlh : lo > hi
      · rw [decide_eq_true hlh]
        exact ⟨([], 7), rfl, rfl, by simp⟩
      · rw [decide_eq_false hlh]
        simp only [cond_false]
        obtain ⟨K, k1, k2, k3⟩ := near_eq hn hg.ok
        obtain ⟨g1, g2⟩ := vals_get l k1.ch
        obtain ⟨R, r1, r2, r3⟩ := bound_loop (n := n) hin.1.1 hin.2.2 (by omega) n.1 0 (vals l K.reverse) (by omega) (by omega) (by omega) (fun i hi' _ => by
          obtain ⟨x, hx, _, _, e⟩ := g2 i _ (List.getElem?_eq_getElem hi')
          rw [e]
          have := k1.ch.rng x hx
          exact Mx_Val hg.ok this.1 this.2)
        rw [k3, nearr_eq hn hg k1]
        simp only [Option.bind_some]
        exact ⟨(R, 0), r2, r3, by simp only; omega⟩
    · have hA : (decide ((if hi < lo then hi else lo) < 0) || decide ((if hi > lo then hi else lo) > 100)) = true := by
        rw [Bool.or_eq_true]
        by_cases c : (if hi < lo then hi else lo) < 0
        · exact .inl (by simpa using c)
        · refine .inr ?_
          simp only [gt_iff_lt, decide_eq_true_eq]
          split at c <;> split <;> omega
      have hB : (!(decide (0 ≤ lo) && decide (lo ≤ 100)) || !(decide (0 ≤ hi) && decide (hi ≤ 100))) = true := by
        simp
        omega
      rw [hA, hB]
      exact ⟨([], 1), rfl, rfl, by simp⟩
  · have h' : (chk l != 0) = true := by simpa using h
    have h'' : (chk l == 0) = false := by simpa using h
    simp only [h', h'', cond_true, cond_false, Bool.false_and, show (false == true) = false from rfl, Option.bind_some]
    exact ⟨([], chk l), rfl, rfl, by simp⟩

end Go.Proofs.Ytombednapelokaa
