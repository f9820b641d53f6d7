/- Reign: the law ReignEnds, joined. -/
import Derived.Test.YtombednapelokaaMl
import Derived.Test.YtombednapelokaaMk
import Derived.Test.YtombednapelokaaLG6
set_option linter.unusedVariables false
set_option linter.unusedSimpArgs false
namespace Go.Proofs.Ytombednapelokaa
open Go.Vi

theorem eqf_loop (n : Nat × Nat) {v : List Frc} (hl : v.length ≤ 1000) : ∀ (m k : Nat), k ≤ v.length → v.length - k < m → DL34_1 n m v v (k : Int) = some true
  | 0, k, _, h => by omega
  | m + 1, k, hk, h => by
    rw [DL34_1_succ]
    unfold DF34_1
    by_cases hlt : k < v.length
    · rw [show decide ((k : Int) < (v.length : Int)) = true by simpa using hlt, cond_true, idx_nat hlt]
      simp only [Option.bind_some]
      rw [show wr .i64 ((k : Int) + 1) = ((k + 1 : Nat) : Int) by rw [wr_ok (by omega) (by omega)]; omega]
      simp only [beq_self_eq_true, Bool.and_self, Bool.not_true, cond_false]
      exact eqf_loop n hl m (k + 1) hlt (by omega)
    · rw [show decide ((k : Int) < (v.length : Int)) = false by simpa using hlt, cond_false]
theorem eqi_loop (n : Nat × Nat) {v : List Int} (hl : v.length ≤ 1000) : ∀ (m k : Nat), k ≤ v.length → v.length - k < m → DL46_1 n m v v (k : Int) = some true
  | 0, k, _, h => by omega
  | m + 1, k, hk, h => by
    rw [DL46_1_succ]
    unfold DF46_1
    by_cases hlt : k < v.length
    · rw [show decide ((k : Int) < (v.length : Int)) = true by simpa using hlt, cond_true, idx_nat hlt]
      simp only [Option.bind_some]
      rw [show wr .i64 ((k : Int) + 1) = ((k + 1 : Nat) : Int) by rw [wr_ok (by omega) (by omega)]; omega]
      simp only [bne_self_eq_false, cond_false]
      exact eqi_loop n hl m (k + 1) hlt (by omega)
    · rw [show decide ((k : Int) < (v.length : Int)) = false by simpa using hlt, cond_false]
theorem eqf_eq {v : List Frc} (hl : v.length ≤ 1000) : D34 N4 v v = some true := by
  have := eqf_loop N4 hl N4.1 0 (by omega) (by show _ < 100000000000000000000; omega)
  unfold D34
  rw [show (((v.length : Int)) != (v.length : Int)) = false by simp, cond_false]
  exact this
theorem eqi_eq {v : List Int} (hl : v.length ≤ 1000) : D46 N4 v v = some true := by
  have := eqi_loop N4 hl N4.1 0 (by omega) (by show _ < 100000000000000000000; omega)
  unfold D46
  rw [show (((v.length : Int)) != (v.length : Int)) = false by simp, cond_false]
  exact this

theorem wrong_both (l : List Src) : ∃ r, D44 N4 l = some r ∧ D45 N4 l = some r ∧ r.1.length ≤ 8 := by
  by_cases h : chk l = 0
  · have hg := chk_good h
    have h8 := hg.le
    refine ⟨_, wrong_eq hg, wrongr_eq hg, ?_⟩
    simp only
    cases hf : (Rn l (2 ^ l.length)).1 with
    | true =>
      obtain ⟨σ, s1, s2, s3⟩ := (Rn_spec l (2 ^ l.length)).1 hf
      rw [s3]
      have := outs_len σ 0 l
      omega
    | false => rw [(Rn_spec l (2 ^ l.length)).2.1 hf]; simp
  · have h' : (chk l != 0) = true := by simpa using h
    refine ⟨([], chk l), ?_, ?_, by simp⟩
    · unfold D44
      rw [chk_eq (n := N4) (by decide)]
      simp only [Option.bind_some, h', cond_true]
    · unfold D45
      rw [chkr_eq (n := N4) (by decide)]
      simp only [Option.bind_some, h', cond_true]

theorem copy4_eq {l : List Src} (h : l.length ≤ 40) : D19 N4 l = some l := copy_eq (by decide) h

theorem ends_val (l : List Src) (lo hi : Int) : D6 N4 l lo hi = some true := by
  unfold D6
  by_cases h40 : (l.length : Int) > 40
  · rw [decide_eq_true h40, cond_true, works_val4]
    rfl
  · have hl : l.length ≤ 40 := by omega
    obtain ⟨r, r1, r2, r3⟩ := bounded_eq (n := N4) (by decide) l lo hi
    obtain ⟨w, w1, w2, w3⟩ := wrong_both l
    rw [decide_eq_false h40, cond_false, copy4_eq hl, r1]
    simp only [Option.bind_some]
    rw [r2, w1]
    simp only [Option.bind_some]
    rw [w2]
    simp only [Option.bind_some]
    rw [eqf_eq (by omega), eqi_eq (by omega)]
    simp only [Option.bind_some, show (true == true) = true from rfl, beq_self_eq_true, cond_true, works_val4]

theorem ends_ok (xs : pksDen (pks [.sl (.pair (.int .i64) (.int .i64)), .int .i64, .int .i64])) (h : WfL [.sl (.pair (.int .i64) (.int .i64)), .int .i64, .int .i64] xs) : ∃ n, S6 n xs.1 xs.2.1 xs.2.2.1 = some true :=
  ⟨N4, by rw [S6_D N4 rfl]; exact ends_val _ _ _⟩
end Go.Proofs.Ytombednapelokaa
