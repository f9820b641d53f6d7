/- Reign: plain laws: which values are proved. -/
import Derived.Test.YtombednapelokaaMp
set_option linter.unusedVariables false
set_option linter.unusedSimpArgs false
namespace Go.Proofs.Ytombednapelokaa
open Go.Vi

/-! ### What is proved -/
theorem last_loop {n : Nat × Nat} {l : List Src} {v R : List Frc} (hg : Good l) (hl : v.length = l.length) (hR : R.length = l.length) (hv : ∀ f ∈ v, Bd f) : ∀ (m k : Nat), k ≤ l.length → l.length - k < m →
    ∃ e, DL39_1 n m l v (l.length : Int) (k : Int) R = some e ∧ DL40_5 n m l v (k : Int) R = some e
  | 0, k, _, h => by omega
  | m + 1, k, hk, h => by
    have hle := hg.le
    rw [DL39_1_succ, DL40_5_succ]
    unfold DF39_1 DF40_5
    by_cases hlt : k < l.length
    · have hltR : k < R.length := by omega
      have hltv : k < v.length := by omega
      have hin : inB (k : Int) R.length = true := by simp [inB]; omega
      have hw : wr .i64 ((k : Int) + 1) = ((k + 1 : Nat) : Int) := by rw [wr_ok (by omega) (by omega)]; omega
      obtain ⟨e, h1, h2⟩ := last_loop hg hl hR hv m (k + 1) (by omega) (by omega)
      rw [show decide ((k : Int) < (l.length : Int)) = true by simpa using hlt]
      simp only [cond_true, hin, idx_nat hltR, idx_nat hltv, Option.bind_some, hw]
      rw [wr_ok (x := (l.length : Int) - 1) (by omega) (by omega)]
      generalize hx : R[k] = x
      by_cases hend : k + 1 = l.length
      · rw [show (((k + 1 : Nat) : Int) == (l.length : Int)) = true by simp; omega, show ((k : Int) == (l.length : Int) - 1) = true by simp; omega]
        simp only [show (true == false) = false from rfl, cond_false, Option.bind_some, show (true == true) = true from rfl, cond_true, orB]
        by_cases hx0 : x.1 < 0
        · simp only [hx0, decide_true, Bool.true_or, cond_true]
          exact ⟨14, rfl, rfl⟩
        · by_cases hx1 : x.1 = 0
          · simp only [hx1, gt_iff_lt, Int.lt_irrefl, decide_false, bne_self_eq_false, Bool.or_false, cond_false]
            exact ⟨e, h1, h2⟩
          · have : (x.1 != 0) = true := by simpa using hx1
            simp only [this, show decide (x.1 > 0) = true by simp; omega, Bool.or_true, cond_true]
            exact ⟨14, rfl, rfl⟩
      · have hlt2 : k + 1 < v.length := by omega
        have hb1 := hv v[k] (List.getElem_mem hltv)
        have hb2 := hv v[k + 1] (List.getElem_mem hlt2)
        rw [show (((k + 1 : Nat) : Int) == (l.length : Int)) = false by simp; omega, show ((k : Int) == (l.length : Int) - 1) = false by simp; omega]
        simp only [show (false == false) = true from rfl, cond_true, Option.bind_some, idx_nat hlt2, cmpB_eq n hb1 hb2, lessB_eq n hb1 hb2, lt_neg, andB, orB]
        generalize ltB v[k] v[k + 1] = b
        by_cases hx0 : x.1 < 0
        · simp only [hx0, decide_true, Bool.true_or, cond_true]
          exact ⟨14, rfl, rfl⟩
        · by_cases hx1 : x.1 = 0
          · simp only [hx1, gt_iff_lt, Int.lt_irrefl, decide_false, bne_self_eq_false, Bool.and_false, Bool.or_false, cond_false]
            exact ⟨e, h1, h2⟩
          · have h5 : (x.1 != 0) = true := by simpa using hx1
            simp only [h5, show decide (x.1 > 0) = true by simp; omega, hx0, decide_false, Bool.and_true, Bool.false_or]
            cases b with
            | true => exact ⟨14, rfl, rfl⟩
            | false => exact ⟨e, h1, h2⟩
    · rw [show decide ((k : Int) < (l.length : Int)) = false by simpa using hlt, cond_false, cond_false]
      exact ⟨0, rfl, rfl⟩

/-- Values that do not fall. -/
def Up (v : List Frc) : Prop := ∀ j (h : j + 1 < v.length), ltB v[j + 1] v[j] = false

theorem sorted_loop (n : Nat × Nat) {v : List Frc} (hv : ∀ f ∈ v, Bd f) (hl : v.length ≤ 1000) : ∀ (m k : Nat), k < v.length → k < m → ∃ b, DL87c88_1 n m v (k : Int) = some b ∧ (b = true ↔ ∀ j (h : j + 1 < v.length), j < k → ltB v[j + 1] v[j] = false)
  | 0, k, _, h => by omega
  | m + 1, k, hk, h => by
    rw [DL87c88_1_succ]
    unfold DF87c88_1
    cases k with
    | zero => exact ⟨true, rfl, by simp⟩
    | succ k =>
      have hk1 : k < v.length := by omega
      have hw : wr .i64 (((k + 1 : Nat) : Int) - 1) = (k : Int) := by rw [wr_ok (by omega) (by omega)]; omega
      rw [show decide (((k + 1 : Nat) : Int) > 0) = true by simp <;> omega, cond_true, idx_nat hk]
      simp only [Option.bind_some, hw, idx_nat hk1, cmpB_eq n (hv _ (List.getElem_mem hk)) (hv _ (List.getElem_mem hk1)), lt_neg]
      cases hb : ltB v[k + 1] v[k] with
      | true =>
        refine ⟨false, rfl, ?_⟩
        simp only [Bool.false_eq_true, false_iff]
        intro hh
        have := hh k hk (by omega)
        rw [hb] at this
        cases this
      | false =>
        obtain ⟨b, h1, h2⟩ := sorted_loop n hv hl m k hk1 (by omega)
        refine ⟨b, h1, h2.trans ⟨fun hh j hj hjk => ?_, fun hh j hj hjk => hh j hj (by omega)⟩⟩
        by_cases e : j = k
        · subst e; exact hb
        · exact hh j hj (by omega)

theorem sorted_eq {n : Nat × Nat} (hn : 2000 ≤ n.1) {v : List Frc} (hv : ∀ f ∈ v, Bd f) (hl : v.length ≤ 1000) (h0 : 0 < v.length) : ∃ b, D87c88 n v = some b ∧ (b = true ↔ Up v) := by
  unfold D87c88
  obtain ⟨b, h1, h2⟩ := sorted_loop n hv hl n.1 (v.length - 1) (by omega) (by omega)
  rw [wr_ok (by omega) (by omega), show (v.length : Int) - 1 = ((v.length - 1 : Nat) : Int) by omega]
  exact ⟨b, h1, h2.trans ⟨fun hh j hj => hh j hj (by omega), fun hh j hj _ => hh j hj⟩⟩

theorem anybad_loop (n : Nat × Nat) {v : List Frc} (hl : v.length ≤ 1000) : ∀ (m k : Nat), k ≤ v.length → v.length - k < m → ∃ r, DL106c86_1 n m v (v.length : Int) (k : Int) = some r ∧ decide (r ≥ 0) = (v.drop k).any badB
  | 0, k, _, h => by omega
  | m + 1, k, hk, h => by
    rw [DL106c86_1_succ]
    unfold DF106c86_1
    by_cases hlt : k < v.length
    · have hw : wr .i64 ((k : Int) + 1) = ((k + 1 : Nat) : Int) := by rw [wr_ok (by omega) (by omega)]; omega
      rw [show decide ((k : Int) < (v.length : Int)) = true by simpa using hlt, cond_true, idx_nat hlt, drop_cons hlt]
      simp only [Option.bind_some, bad_eq, hw, List.any_cons]
      cases hb : badB v[k] with
      | true => exact ⟨(k : Int), rfl, by simp⟩
      | false =>
        simp only [Bool.false_or, cond_false]
        exact anybad_loop n hl m (k + 1) hlt (by omega)
    · rw [show decide ((k : Int) < (v.length : Int)) = false by simpa using hlt, cond_false, List.drop_of_length_le (by omega)]
      exact ⟨-1, rfl, rfl⟩

theorem anybad_eq {n : Nat × Nat} (hn : 2000 ≤ n.1) {v : List Frc} (hl : v.length ≤ 1000) : D85c86 n v = some (v.any badB) := by
  unfold D85c86 D106c86
  obtain ⟨r, h1, h2⟩ := anybad_loop n hl n.1 0 (by omega) (by omega)
  simp only [Int.natCast_zero] at h1
  rw [h1]
  simp only [Option.bind_some, h2, List.drop_zero]

/-! The reference -/
theorem r3_stop (n : Nat × Nat) (l : List Src) (v : List Frc) {e : Int} (he : e ≠ 0) (i : Int) (m : Nat) : DL40_3 n (m + 1) l v e i = some e := by
  rw [DL40_3_succ]
  unfold DF40_3
  have h1 : (e == 0) = false := by simpa using he
  have h2 : (e != 0) = true := by simpa using he
  simp only [andB, Option.bind_some, h1, h2, Bool.and_false, cond_false, cond_true]

theorem r1_stop {n : Nat × Nat} (hn : 0 < n.1) (l : List Src) (v : List Frc) {e : Int} (he : e ≠ 0) (i : Int) (m : Nat) : DL40_1 n (m + 1) l v e i = some e := by
  rw [DL40_1_succ]
  unfold DF40_1
  have h1 : (e == 0) = false := by simpa using he
  simp only [andB, Option.bind_some, h1, Bool.and_false, cond_false]
  obtain ⟨k, hk⟩ : ∃ k, n.1 = k + 1 := ⟨n.1 - 1, by omega⟩
  rw [hk]
  exact r3_stop n l v he 1 k

theorem r1_loop {n : Nat × Nat} (hn : 0 < n.1) (l : List Src) {v : List Frc} (hl : v.length ≤ 1000) : ∀ (m k : Nat), k ≤ v.length → v.length - k + 1 < m → DL40_1 n m l v 0 (k : Int) = bif (v.drop k).any badB then some 1 else DL40_3 n n.1 l v 0 1
  | 0, k, _, h => by omega
  | m + 1, k, hk, h => by
    rw [DL40_1_succ]
    unfold DF40_1 DL40_2
    by_cases hlt : k < v.length
    · have hw : wr .i64 ((k : Int) + 1) = ((k + 1 : Nat) : Int) := by rw [wr_ok (by omega) (by omega)]; omega
      rw [show decide ((k : Int) < (v.length : Int)) = true by simpa using hlt, drop_cons hlt, idx_nat hlt]
      simp only [show (true == true) = true from rfl, cond_true, Option.bind_some, beq_self_eq_true, in_eq, orB, badr_eq, hw, List.any_cons]
      cases hb : badB v[k] with
      | true =>
        obtain ⟨j, rfl⟩ : ∃ j, m = j + 1 := ⟨m - 1, by omega⟩
        simp only [cond_true, Bool.true_or]
        exact r1_stop hn l v (by omega) _ j
      | false =>
        simp only [cond_false, Bool.false_or]
        exact r1_loop hn l hl m (k + 1) hlt (by omega)
    · rw [show decide ((k : Int) < (v.length : Int)) = false by simpa using hlt, List.drop_of_length_le (by omega)]
      simp only [show (false == true) = false from rfl, cond_false, Option.bind_some, List.any_nil]

theorem r3_loop {n : Nat × Nat} (l : List Src) {v : List Frc} (hv : ∀ f ∈ v, Bd f) (hl : v.length ≤ 1000) : ∀ (m k : Nat), k < v.length → v.length - k + 1 < m → (∀ j (h : j + 1 < v.length), j < k → ltB v[j + 1] v[j] = false) →
    (Up v → DL40_3 n m l v 0 ((k + 1 : Nat) : Int) = (D84 n l v).bind fun r => DL40_5 n n.1 l v 0 r) ∧ (¬ Up v → DL40_3 n m l v 0 ((k + 1 : Nat) : Int) = some 7)
  | 0, k, _, h, _ => by omega
  | m + 1, k, hk, h, hup => by
    rw [DL40_3_succ]
    unfold DF40_3 DL40_4
    by_cases hlt : k + 1 < v.length
    · have hw : wr .i64 (((k + 1 : Nat) : Int) + 1) = ((k + 1 + 1 : Nat) : Int) := by rw [wr_ok (by omega) (by omega)]; omega
      have hw2 : wr .i64 (((k + 1 : Nat) : Int) - 1) = (k : Int) := by rw [wr_ok (by omega) (by omega)]; omega
      rw [show decide (((k + 1 : Nat) : Int) < (v.length : Int)) = true by simp; omega, idx_nat hlt]
      simp only [show (true == true) = true from rfl, cond_true, Option.bind_some, beq_self_eq_true, hw, hw2, idx_nat hk, lessB_eq n (hv _ (List.getElem_mem hlt)) (hv _ (List.getElem_mem hk))]
      cases hb : ltB v[k + 1] v[k] with
      | true =>
        obtain ⟨j, rfl⟩ : ∃ j, m = j + 1 := ⟨m - 1, by omega⟩
        simp only [cond_true]
        refine ⟨fun hu => ?_, fun _ => r3_stop n l v (by omega) _ j⟩
        have := hu k hlt
        rw [hb] at this
        cases this
      | false =>
        simp only [cond_false]
        exact r3_loop l hv hl m (k + 1) hlt (by omega) fun j hj hjk => by
          by_cases e : j = k
          · subst e; exact hb
          · exact hup j hj (by omega)
    · rw [show decide (((k + 1 : Nat) : Int) < (v.length : Int)) = false by simp; omega]
      simp only [show (false == true) = false from rfl, cond_false, Option.bind_some, bne_self_eq_false]
      refine ⟨fun _ => trivial, fun hu => ?_⟩
      exact absurd (fun j hj => hup j hj (by omega)) hu

theorem proves_eq {n : Nat × Nat} (hn : 100000000000000000000 ≤ n.1) (l : List Src) {v : List Frc} (hvl : v.length ≤ 40) (hll : l.length ≤ 40) : ∃ e, D39 n l v = some e ∧ D40 n l v = some e := by
  obtain ⟨N, hN⟩ : ∃ k, n.1 = k + 1 := ⟨n.1 - 1, by omega⟩
  unfold D39 D40
  rw [chk_eq (by omega), chkr_eq (by omega)]
  simp only [Option.bind_some, andB]
  by_cases h : chk l = 0
  · have hg := chk_good h
    have h1 := hg.pos
    rw [h]
    simp only [bne_self_eq_false, cond_false, beq_self_eq_true, Bool.true_and]
    by_cases hl : v.length = l.length
    · rw [show (((v.length : Int)) != (l.length : Int)) = false by simp; omega, cond_false, cond_false, anybad_eq (by omega) (by omega)]
      have hr1 := r1_loop (n := n) (by omega) l (v := v) (by omega) n.1 0 (by omega) (by omega)
      simp only [Int.natCast_zero, List.drop_zero] at hr1
      rw [hr1]
      simp only [Option.bind_some]
      cases hb : v.any badB with
      | true => exact ⟨1, rfl, rfl⟩
      | false =>
        have hv : ∀ f ∈ v, Bd f := by
          intro f hf
          refine badB_Bd ?_
          have := List.any_eq_false.1 hb f hf
          simpa using this
        simp only [cond_false]
        obtain ⟨b, hs1, hs2⟩ := sorted_eq (n := n) (by omega) hv (by omega) (by omega)
        rw [hs1]
        obtain ⟨hu1, hu2⟩ := r3_loop (n := n) l hv (by omega) n.1 0 (by omega) (by omega) (by omega)
        simp only [Option.bind_some]
        cases b with
        | true =>
          have hu := hs2.1 rfl
          have hu1 := hu1 hu
          rw [show ((0 + 1 : Nat) : Int) = 1 from rfl] at hu1
          rw [hu1]
          obtain ⟨R, hR, e1, e2⟩ := rests_eq hn hg hl hv
          rw [e1, e2]
          obtain ⟨e, f1, f2⟩ := last_loop (n := n) hg hl hR hv n.1 0 (by omega) (by omega)
          simp only [Int.natCast_zero] at f1 f2
          simp only [Option.bind_some, Bool.not_true, cond_false, hR]
          exact ⟨e, f1, f2⟩
        | false =>
          have hu : ¬ Up v := fun hh => by have := hs2.2 hh; cases this
          have hu2 := hu2 hu
          rw [show ((0 + 1 : Nat) : Int) = 1 from rfl] at hu2
          rw [hu2]
          exact ⟨7, rfl, rfl⟩
    · rw [show (((v.length : Int)) != (l.length : Int)) = true by simp; omega, cond_true, cond_true, hN]
      exact ⟨5, rfl, r1_stop (n := n) (by omega) l v (by omega) _ N⟩
  · have h' : (chk l != 0) = true := by simpa using h
    have h'' : (chk l == 0) = false := by simpa using h
    simp only [h', h'', cond_true, cond_false, Bool.false_and]
    rw [hN]
    exact ⟨chk l, rfl, r1_stop (n := n) (by omega) l v h _ N⟩

theorem copyv_loop (n : Nat × Nat) (l : List Frc) (hl : l.length ≤ 40) : ∀ (m k : Nat) (out : List Frc), k ≤ l.length → l.length - k < m → out.length = k → DL41_1 n m l (k : Int) out = some (out ++ l.drop k)
  | 0, k, out, _, h, _ => by omega
  | m + 1, k, out, hk, h, ho => by
    rw [DL41_1_succ]
    unfold DF41_1
    by_cases hlt : k < l.length
    · rw [show decide ((k : Int) < (l.length : Int)) = true by simpa using hlt, cond_true, idx_nat hlt]
      simp only [Option.bind_some]
      rw [show decide (out.length + [l[k]].length ≤ lim) = true by simp [lim]; omega, cond_true, wr_ok (by omega) (by omega), drop_cons hlt]
      have := copyv_loop n l hl m (k + 1) (out ++ [l[k]]) (by omega) (by omega) (by simp [ho])
      rw [show ((k : Int) + 1) = ((k + 1 : Nat) : Int) by omega, this]
      simp
    · rw [show decide ((k : Int) < (l.length : Int)) = false by simpa using hlt, cond_false, List.drop_of_length_le (by omega)]
      simp

theorem copyv_eq {n : Nat × Nat} (hn : 100 ≤ n.1) {l : List Frc} (hl : l.length ≤ 40) : D41 n l = some l := by
  unfold D41
  have := copyv_loop n l hl n.1 0 [] (by omega) (by omega) rfl
  simpa using this

end Go.Proofs.Ytombednapelokaa
