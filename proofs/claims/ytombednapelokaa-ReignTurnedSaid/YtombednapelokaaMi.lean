/- Reign: the law ReignWrong. -/
import Derived.Test.YtombednapelokaaMh
import Derived.Test.YtombednapelokaaMs
import Derived.Test.YtombednapelokaaViX
set_option linter.unusedVariables false
set_option linter.unusedSimpArgs false
namespace Go.Proofs.Ytombednapelokaa
open Go.Vi

abbrev N4 : Nat × Nat := (100000000000000000000, 1)
theorem works_val4 : D18 N4 = some true := by kernel_rfl

noncomputable def cv (a b : List Int) : Int := (D64 N4 a b).getD 0
theorem cv_eq {a b : List Int} (h : a.length ≤ 1000) : D64 N4 a b = some (cv a b) := by
  obtain ⟨c, hc⟩ := compare_total (n := N4) (by decide) (b := b) h
  unfold cv
  rw [hc]
  rfl

noncomputable def bet (f : Bool) (out best : List Int) : Bool := !f || (decide (out.length < best.length) || (decide (out.length = best.length) && decide (cv out best < 0)))

/-- The best of the sets before a number. -/
noncomputable def Rn (l : List Src) : Nat → Bool × List Int
  | 0 => (false, [])
  | j + 1 => if (rises j 0 0 l && bet (Rn l j).1 (outs j 0 l) (Rn l j).2) = true then (true, outs j 0 l) else Rn l j

theorem rises_low (set : Nat) : ∀ (k : Nat) (l : List Src), (∀ s ∈ l, 0 ≤ s.1) → rises set k (-1) l = rises set k 0 l
  | _, [], _ => rfl
  | k, s :: r, h => by
    simp only [rises]
    split
    · exact rises_low set (k + 1) r fun x hx => h x (List.mem_cons_of_mem _ hx)
    · have := h s (by simp)
      rw [decide_eq_true (show (-1 : Int) ≤ s.1 by omega), decide_eq_true this]

theorem outs_ne {set : Nat} : ∀ (k : Nat) (l : List Src), (∃ i, k ≤ i ∧ i < k + l.length ∧ Nat.testBit set i = true) → outs set k l ≠ []
  | k, [], h => by
    obtain ⟨i, h1, h2, _⟩ := h
    simp at h2
    omega
  | k, s :: r, h => by
    simp only [outs]
    split
    · simp
    · rename_i hb
      refine outs_ne (k + 1) r ?_
      obtain ⟨i, h1, h2, h3⟩ := h
      refine ⟨i, ?_, by simp at h2; omega, h3⟩
      rcases Nat.eq_or_lt_of_le h1 with rfl | h4
      · exact absurd h3 hb
      · exact h4

theorem outs_ne' {set : Nat} {l : List Src} (h0 : 0 < set) (h : set < 2 ^ l.length) : outs set 0 l ≠ [] := by
  refine outs_ne 0 l ?_
  obtain ⟨i, hi⟩ := Nat.exists_testBit_of_ne_zero (by omega : set ≠ 0)
  refine ⟨i, by omega, ?_, hi⟩
  rcases Nat.lt_or_ge i l.length with h1 | h1
  · omega
  · have : set < 2 ^ i := Nat.lt_of_lt_of_le h (Nat.pow_le_pow_right (by omega) h1)
    rw [Nat.testBit_lt_two_pow this] at hi
    cases hi

theorem outs_zero : ∀ (k : Nat) (l : List Src), outs 0 k l = []
  | _, [] => rfl
  | k, s :: r => by simp only [outs, Nat.zero_testBit, Bool.false_eq_true, if_false]; exact outs_zero (k + 1) r

/-- What the best is. -/
theorem Rn_spec (l : List Src) : ∀ j, ((Rn l j).1 = true → ∃ σ, σ < j ∧ rises σ 0 0 l = true ∧ (Rn l j).2 = outs σ 0 l) ∧ ((Rn l j).1 = false → (Rn l j).2 = []) ∧ ∀ τ, τ < j → rises τ 0 0 l = true → (Rn l j).1 = true ∧ (Rn l j).2.length ≤ (outs τ 0 l).length
  | 0 => ⟨by simp [Rn], by simp [Rn], by omega⟩
  | j + 1 => by
    obtain ⟨i1, i2, i3⟩ := Rn_spec l j
    simp only [Rn]
    by_cases hc : (rises j 0 0 l && bet (Rn l j).1 (outs j 0 l) (Rn l j).2) = true
    · rw [if_pos hc]
      simp only [Bool.and_eq_true] at hc
      refine ⟨fun _ => ⟨j, by omega, hc.1, rfl⟩, by simp, fun τ hτ hr => ⟨rfl, ?_⟩⟩
      by_cases hj : τ = j
      · subst hj
        exact Nat.le_refl _
      · obtain ⟨a1, a2⟩ := i3 τ (by omega) hr
        have hb := hc.2
        unfold bet at hb
        rw [a1] at hb
        simp only [Bool.not_true, Bool.false_or, Bool.or_eq_true, Bool.and_eq_true, decide_eq_true_eq] at hb
        show (outs j 0 l).length ≤ _
        omega
    · rw [if_neg hc]
      refine ⟨fun h => ?_, i2, fun τ hτ hr => ?_⟩
      · obtain ⟨σ, s1, s2⟩ := i1 h
        exact ⟨σ, by omega, s2⟩
      · by_cases hj : τ = j
        · subst hj
          rw [hr] at hc
          simp only [Bool.true_and, Bool.not_eq_true] at hc
          unfold bet at hc
          simp only [Bool.or_eq_false_iff, Bool.not_eq_false', decide_eq_false_iff_not] at hc
          exact ⟨hc.1, by omega⟩
        · exact i3 τ (by omega) hr

/-! ### The program -/
theorem wfin_bet (f1 : (List (Int × Int)) → Int → Int → List Int → Option R44) (l : List Src) (v19 v20 : Int) (best : List Int) (good : Bool) {out : List Int} (ho : out.length ≤ 1000) (hne : out ≠ [] ∨ good = false) : wfin N4 f1 l v19 v20 best good out = if (good && bet (!best.isEmpty) out best) = true then f1 l v19 (wr .i64 (v20 + 1)) out else f1 l v19 (wr .i64 (v20 + 1)) best := by
  unfold wfin bet
  cases good with
  | false => rfl
  | true =>
    have hne' : out.isEmpty = false := by
      rcases hne with h | h
      · cases out with
        | nil => exact absurd rfl h
        | cons x r => rfl
      · cases h
    rw [hne']
    cases hb : best with
    | nil => rfl
    | cons x r =>
      simp only [List.isEmpty_cons, show (false == false) = true from rfl, show (true == true) = true from rfl, cond_true, Option.bind_some, Bool.not_false, Bool.not_true, Bool.false_or, Bool.true_and, cond_false]
      by_cases h1 : out.length < (x :: r).length
      · rw [decide_eq_true (show (out.length : Int) < ((x :: r).length : Int) by omega), decide_eq_true h1]
        rfl
      · rw [decide_eq_false (show ¬ (out.length : Int) < ((x :: r).length : Int) by omega), decide_eq_false h1]
        simp only [show (false == false) = true from rfl, cond_true, Bool.false_or]
        by_cases h2 : out.length = (x :: r).length
        · rw [show ((out.length : Int) == ((x :: r).length : Int)) = true by rw [beq_iff_eq]; omega, cv_eq ho, decide_eq_true h2]
          simp only [show (true == true) = true from rfl, cond_true, Option.bind_some, Bool.true_and]
          cases hd : decide (cv out (x :: r) < 0) <;> rfl
        · rw [show ((out.length : Int) == ((x :: r).length : Int)) = false by rw [beq_eq_false_iff_ne]; omega, decide_eq_false h2]
          rfl

theorem wrong_outer {l : List Src} (hg : Good l) (h0 : rises 0 0 0 l = false) : ∀ (m j : Nat), 1 ≤ j → j ≤ 2 ^ l.length → 2 ^ l.length - j < m → DL44_1 N4 m l ((2 ^ l.length : Nat) : Int) (j : Int) (Rn l j).2 = some ((Rn l (2 ^ l.length)).2, 0)
  | 0, j, _, _, h => by omega
  | m + 1, j, hj1, hj, h => by
    have h8 := hg.le
    have h256 : 2 ^ l.length ≤ 256 := by
      have : 2 ^ l.length ≤ 2 ^ 8 := Nat.pow_le_pow_right (by omega) (by omega)
      omega
    rw [DL44_1_succ]
    unfold DF44_1
    by_cases hlt : j < 2 ^ l.length
    · rw [show decide ((j : Int) < ((2 ^ l.length : Nat) : Int)) = true by rw [decide_eq_true_eq]; omega, cond_true]
      have hi := wrong_inner N4 (DL44_1 N4 m) h8 (set := j) (by omega) ((2 ^ l.length : Nat) : Int) (j : Int) (Rn l j).2 N4.1 0 (-1) true [] (by omega) (by show _ < 100000000000000000000; omega) (by simp)
      simp only [Int.natCast_zero, List.drop_zero, Bool.true_and, List.nil_append] at hi
      rw [hi, rises_low j 0 l (fun s hs => (hg.all s hs).1), wfin_bet _ _ _ _ _ _ (by have := outs_len j 0 l; omega) (.inl (outs_ne' (by omega) hlt)), show wr .i64 ((j : Int) + 1) = ((j + 1 : Nat) : Int) by rw [wr_ok (by omega) (by omega)]; omega]
      have hfe : (!(Rn l j).2.isEmpty) = (Rn l j).1 := by
        obtain ⟨i1, i2, _⟩ := Rn_spec l j
        cases hf : (Rn l j).1 with
        | false => rw [i2 hf]; rfl
        | true =>
          obtain ⟨σ, s1, s2, s3⟩ := i1 hf
          have hσ : σ ≠ 0 := by
            rintro rfl
            rw [h0] at s2
            cases s2
          have := outs_ne' (l := l) (set := σ) (by omega) (by omega)
          rw [s3]
          cases ho : outs σ 0 l with
          | nil => exact absurd ho this
          | cons x r => rfl
      rw [hfe]
      have ih := wrong_outer hg h0 m (j + 1) (by omega) (by omega) (by omega)
      simp only [Rn] at ih
      by_cases hc : (rises j 0 0 l && bet (Rn l j).1 (outs j 0 l) (Rn l j).2) = true
      · rw [if_pos hc] at ih ⊢
        exact ih
      · rw [if_neg hc] at ih ⊢
        exact ih
    · have : j = 2 ^ l.length := by omega
      rw [show decide ((j : Int) < ((2 ^ l.length : Nat) : Int)) = false by rw [decide_eq_false_iff_not]; omega, cond_false, this]

theorem Rn_zero {l : List Src} (h0 : rises 0 0 0 l = true) : ∀ j, 1 ≤ j → j ≤ 2 ^ l.length → Rn l j = (true, [])
  | 0, h, _ => by omega
  | 1, _, _ => by
    simp only [Rn, h0, bet, Bool.not_false, Bool.true_or, Bool.and_self, if_true, outs_zero]
  | j + 2, _, h => by
    have ih := Rn_zero h0 (j + 1) (by omega) (by omega)
    have hne := outs_ne' (l := l) (set := j + 1) (by omega) (by omega)
    rw [show Rn l (j + 2) = if (rises (j + 1) 0 0 l && bet (Rn l (j + 1)).1 (outs (j + 1) 0 l) (Rn l (j + 1)).2) = true then (true, outs (j + 1) 0 l) else Rn l (j + 1) from rfl, ih, if_neg]
    unfold bet
    have : 0 < (outs (j + 1) 0 l).length := List.length_pos_iff.2 hne
    have h1 : decide ((outs (j + 1) 0 l).length < ([] : List Int).length) = false := by rw [decide_eq_false_iff_not, List.length_nil]; omega
    have h2 : decide ((outs (j + 1) 0 l).length = ([] : List Int).length) = false := by rw [decide_eq_false_iff_not, List.length_nil]; omega
    rw [h1, h2]
    simp

theorem two_pow {k : Nat} (h : k ≤ 8) : wr .i64 (1 * 2 ^ (min (Int.toNat (k : Int)) (IntKind.bits .i64))) = ((2 ^ k : Nat) : Int) := by
  have h64 : IntKind.bits .i64 = 64 := rfl
  rw [h64, Int.toNat_natCast, Nat.min_eq_left (by omega), Int.one_mul, show ((2 : Int) ^ k) = ((2 ^ k : Nat) : Int) by simp]
  have : 2 ^ k ≤ 2 ^ 8 := Nat.pow_le_pow_right (by omega) h
  exact wr_nat (by omega)

theorem wrong_eq {l : List Src} (hg : Good l) : D44 N4 l = some ((Rn l (2 ^ l.length)).2, 0) := by
  have h8 := hg.le
  have h256 : 2 ^ l.length ≤ 256 := by
    have : 2 ^ l.length ≤ 2 ^ 8 := Nat.pow_le_pow_right (by omega) (by omega)
    omega
  have hpos : 0 < 2 ^ l.length := Nat.two_pow_pos _
  unfold D44
  rw [chk_eq (n := N4) (by decide), good_chk hg]
  simp only [Option.bind_some, bne_self_eq_false, cond_false]
  rw [show decide ((l.length : Int) < 0) = false by rw [decide_eq_false_iff_not]; omega, cond_false, two_pow h8]
  -- the first set
  rw [show DL44_1 N4 N4.1 = DF44_1 N4 (DL44_1 N4 99999999999999999999) from DL44_1_succ N4 99999999999999999999]
  unfold DF44_1
  rw [show decide ((0 : Int) < ((2 ^ l.length : Nat) : Int)) = true by rw [decide_eq_true_eq]; omega, cond_true]
  have hi := wrong_inner N4 (DL44_1 N4 99999999999999999999) h8 (set := 0) (by omega) ((2 ^ l.length : Nat) : Int) 0 [] N4.1 0 (-1) true [] (by omega) (by show _ < 100000000000000000000; omega) (by simp)
  simp only [Int.natCast_zero, List.drop_zero, Bool.true_and, List.nil_append, outs_zero] at hi
  rw [hi, rises_low 0 0 l (fun s hs => (hg.all s hs).1)]
  cases h0 : rises 0 0 0 l with
  | true =>
    rw [Rn_zero h0 _ (by omega) (Nat.le_refl _)]
    rfl
  | false =>
    rw [wfin_bet _ _ _ _ _ _ (by simp) (.inr rfl)]
    have := wrong_outer hg h0 99999999999999999999 1 (by omega) (by omega) (by omega)
    have e : (Rn l 1).2 = [] := by simp [Rn, h0]
    rw [e] at this
    simp only [Bool.false_and, Bool.false_eq_true, if_false]
    rw [show wr .i64 ((0 : Int) + 1) = 1 from by rw [wr_ok (by omega) (by omega)]; rfl]
    exact this

end Go.Proofs.Ytombednapelokaa
