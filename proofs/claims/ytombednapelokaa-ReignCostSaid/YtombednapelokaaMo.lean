/- Reign: plain laws: which values are proved. -/
import Derived.Test.YtombednapelokaaMp
set_option linter.unusedVariables false
set_option linter.unusedSimpArgs false
namespace Go.Proofs.Ytombednapelokaa
open Go.Vi
/-! ### What is proved -/
/-- Values that do not fall. -/
def Up (v : List Frc) : Prop := ∀ j (h : j + 1 < v.length), ltB v[j + 1] v[j] = false
theorem sorted_loop (n : Nat × Nat) {v : List Frc} (hv : ∀ f ∈ v, Bd f) (hl : v.length ≤ 1000) : ∀ (m k : Nat), k < v.length → k < m → ∃ b, DL87c88_1 n m v (k : Int) = some b ∧ (b = true ↔ ∀ j (h : j + 1 < v.length), j < k → ltB v[j + 1] v[j] = false)
  | 0, k, _, h => by omega
  | m + 1, k, hk, h => by
    rw [DL87c88_1_succ]
    unfold DF87c88_1
    cases k with
    | zero => exact ⟨true, rfl, by simp⟩
    | succ k =>
      have hk1 : k < v.length := by omega
      have hw : wr .i64 (((k + 1 : Nat) : Int) - 1) = (k : Int) := by rw [wr_ok (by omega) (by omega)]; omega
      rw [show decide (((k + 1 : Nat) : Int) > 0) = true by simp <;> omega, cond_true, idx_nat hk]
      simp only [Option.bind_some, hw, idx_nat hk1, cmpB_eq n (hv _ (List.getElem_mem hk)) (hv _ (List.getElem_mem hk1)), lt_neg]
      cases hb : ltB v[k + 1] v[k] with
      | true =>
        refine ⟨false, rfl, ?_⟩
        simp only [Bool.false_eq_true, false_iff]
        intro hh
        have := hh k hk (by omega)
        rw [hb] at this
        cases this
      | false =>
        obtain ⟨b, h1, h2⟩ := sorted_loop n hv hl m k hk1 (by omega)
        refine ⟨b, h1, h2.trans ⟨fun hh j hj hjk => ?_, fun hh j hj hjk => hh j hj (by omega)⟩⟩
        by_cases e : j = k
        · subst e; exact hb
        · exact hh j hj (by omega)
theorem sorted_eq {n : Nat × Nat} (hn : 2000 ≤ n.1) {v : List Frc} (hv : ∀ f ∈ v, Bd f) (hl : v.length ≤ 1000) (h0 : 0 < v.length) : ∃ b, D87c88 n v = some b ∧ (b = true ↔ Up v) := by
  unfold D87c88
  obtain ⟨b, h1, h2⟩ := sorted_loop n hv hl n.1 (v.length - 1) (by omega) (by omega)
  rw [wr_ok (by omega) (by omega), show (v.length : Int) - 1 = ((v.length - 1 : Nat) : Int) by omega]
  exact ⟨b, h1, h2.trans ⟨fun hh j hj => hh j hj (by omega), fun hh j hj _ => hh j hj⟩⟩
theorem anybad_loop (n : Nat × Nat) {v : List Frc} (hl : v.length ≤ 1000) : ∀ (m k : Nat), k ≤ v.length → v.length - k < m → ∃ r, DL106c86_1 n m v (v.length : Int) (k : Int) = some r ∧ decide (r ≥ 0) = (v.drop k).any badB
  | 0, k, _, h => by omega
  | m + 1, k, hk, h => by
    rw [DL106c86_1_succ]
    unfold DF106c86_1
    by_cases hlt : k < v.length
    · have hw : wr .i64 ((k : Int) + 1) = ((k + 1 : Nat) : Int) := by rw [wr_ok (by omega) (by omega)]; omega
      rw [show decide ((k : Int) < (v.length : Int)) = true by simpa using hlt, cond_true, idx_nat hlt, drop_cons hlt]
      simp only [Option.bind_some, bad_eq, hw, List.any_cons]
      cases hb : badB v[k] with
      | true => exact ⟨(k : Int), rfl, by simp⟩
      | false =>
        simp only [Bool.false_or, cond_false]
        exact anybad_loop n hl m (k + 1) hlt (by omega)
    · rw [show decide ((k : Int) < (v.length : Int)) = false by simpa using hlt, cond_false, List.drop_of_length_le (by omega)]
      exact ⟨-1, rfl, rfl⟩
theorem anybad_eq {n : Nat × Nat} (hn : 2000 ≤ n.1) {v : List Frc} (hl : v.length ≤ 1000) : D85c86 n v = some (v.any badB) := by
  unfold D85c86 D106c86
  obtain ⟨r, h1, h2⟩ := anybad_loop n hl n.1 0 (by omega) (by omega)
  simp only [Int.natCast_zero] at h1
  rw [h1]
  simp only [Option.bind_some, h2, List.drop_zero]
/-! The reference -/
end Go.Proofs.Ytombednapelokaa
