/- Texts of this claim, joined: Pf to Pw. -/
import Derived.KernelRfl
import Derived.Test.YtnlbhjmbaedadaaProg
import Derived.WalkKit
import Derived.Test.YtnlbhjmbaedadaaQPressNamed1
set_option linter.unusedVariables false
set_option linter.unusedSimpArgs false
namespace Go.Proofs.Ytnlbhjmbaedadaa
open Go.Vi

def sh (l : List (Int × Int)) (i : Int) : Int × Int := l.getD i.toNat (0, 0)
theorem idx_sh {l : List (Int × Int)} {i : Int} (h0 : 0 ≤ i) (h1 : i < l.length) : idx l i = some (sh l i) := by
  rw [idx_int (k := i.toNat) (by omega) (by omega)]
  simp [sh, show i.toNat < l.length by omega]
theorem sh_mem {l : List (Int × Int)} {i : Int} (h0 : 0 ≤ i) (h1 : i < l.length) : sh l i ∈ l := by
  unfold sh
  rw [List.getD_eq_getElem?_getD, List.getElem?_eq_getElem (by omega), Option.getD_some]
  exact List.getElem_mem _
/-- A sheet is before another one in the order of the rule. -/
def Bef (l : List (Int × Int)) (i j : Int) : Prop :=
  ((sh l i).1 < (sh l i).2 ∧ ¬ (sh l j).1 < (sh l j).2) ∨ ((sh l i).1 < (sh l i).2 ∧ (sh l j).1 < (sh l j).2 ∧ ((sh l i).1 < (sh l j).1 ∨ (sh l i).1 = (sh l j).1 ∧ i < j)) ∨
  (¬ (sh l i).1 < (sh l i).2 ∧ ¬ (sh l j).1 < (sh l j).2 ∧ ((sh l j).2 < (sh l i).2 ∨ (sh l j).2 = (sh l i).2 ∧ i < j))
instance (l : List (Int × Int)) (i j : Int) : Decidable (Bef l i j) := by unfold Bef; exact inferInstance
theorem Bef.trans {l : List (Int × Int)} {i j k : Int} (h1 : Bef l i j) (h2 : Bef l j k) : Bef l i k := by
  unfold Bef at *
  omega
theorem Bef.irrefl {l : List (Int × Int)} {i : Int} : ¬ Bef l i i := by
  unfold Bef
  omega
theorem Bef.asymm {l : List (Int × Int)} {i j : Int} (h1 : Bef l i j) : ¬ Bef l j i := fun h2 => (h1.trans h2).irrefl.elim
theorem Bef.bf {l : List (Int × Int)} {i j : Int} (h : Bef l i j) : Bf (sh l i) (sh l j) := by
  unfold Bef at h
  unfold Bf
  omega
theorem before_eq (n : Nat × Nat) {l : List (Int × Int)} {i j : Int} (hi : 0 ≤ i ∧ i < l.length) (hj : 0 ≤ j ∧ j < l.length) : D70 n l i j = some (decide (Bef l i j)) := by
  unfold D70
  rw [idx_sh hi.1 hi.2, idx_sh hj.1 hj.2, Option.bind_some, Option.bind_some]
  have hb : decide (Bef l i j) = true ↔ Bef l i j := decide_eq_true_iff
  revert hb
  generalize decide (Bef l i j) = b
  unfold Bef
  generalize sh l i = s
  generalize sh l j = t
  intro hb
  by_cases f : s.1 < s.2 <;> by_cases g : t.1 < t.2
  · rw [decide_eq_true f, decide_eq_true g]
    simp only [bne_self_eq_false, cond_false, beq_self_eq_true, cond_true, Option.bind_some, decide_eq_false (show ¬ s.1 ≥ s.2 by omega)]
    by_cases e : s.1 = t.1
    · simp only [e, bne_self_eq_false, cond_false, show (false == true) = false from rfl, Option.bind_some]
      congr 1
      rw [Bool.eq_iff_iff, hb, decide_eq_true_iff]
      omega
    · rw [show (s.1 != t.1) = true by simpa using e, cond_true]
      congr 1
      rw [Bool.eq_iff_iff, hb, decide_eq_true_iff]
      omega
  · rw [decide_eq_true f, decide_eq_false g]
    simp only [show (true != false) = true from rfl, cond_true]
    congr 1
    rw [Bool.eq_iff_iff, hb]
    simp only [true_iff]
    omega
  · rw [decide_eq_false f, decide_eq_true g]
    simp only [show (false != true) = true from rfl, cond_true]
    congr 1
    rw [Bool.eq_iff_iff, hb]
    simp only [Bool.false_eq_true, false_iff]
    omega
  · rw [decide_eq_false f, decide_eq_false g]
    simp only [bne_self_eq_false, cond_false, beq_self_eq_true, cond_true, Option.bind_some, show (false == true) = false from rfl, decide_eq_true (show s.1 ≥ s.2 by omega)]
    by_cases e : s.2 = t.2
    · simp only [e, bne_self_eq_false, cond_false]
      congr 1
      rw [Bool.eq_iff_iff, hb, decide_eq_true_iff]
      omega
    · rw [show (s.2 != t.2) = true by simpa using e, cond_true]
      congr 1
      rw [Bool.eq_iff_iff, hb, decide_eq_true_iff]
      omega

/-- Numbers are put into a list that falls, and numbers one after the other. -/
def insR (c : Int → Int → Bool) (x : Int) : List Int → List Int
  | [] => [x]
  | y :: Q => bif c x y then y :: insR c x Q else x :: y :: Q
def srt (c : Int → Int → Bool) : List Int → List Int → List Int
  | Q, [] => Q
  | Q, x :: r => srt c (insR c x Q) r
theorem insR_perm (c : Int → Int → Bool) (x : Int) : ∀ Q, (insR c x Q).Perm (x :: Q)
  | [] => List.Perm.refl _
  | y :: Q => by
    unfold insR
    cases c x y
    · exact List.Perm.refl _
    · exact (List.Perm.cons y (insR_perm c x Q)).trans (List.Perm.swap x y Q)
theorem insR_len (c : Int → Int → Bool) (x : Int) (Q : List Int) : (insR c x Q).length = Q.length + 1 := (insR_perm c x Q).length_eq
theorem srt_perm (c : Int → Int → Bool) : ∀ r Q, (srt c Q r).Perm (r ++ Q)
  | [], Q => List.Perm.refl _
  | x :: r, Q => by
    unfold srt
    refine (srt_perm c r _).trans (((insR_perm c x Q).append_left r).trans ?_)
    exact List.perm_middle
theorem insR_sort {c : Int → Int → Bool} {R : Int → Int → Prop} (ht : ∀ i j k, R i j → R j k → R i k) {x : Int} : ∀ {Q : List Int}, (∀ y ∈ Q, (c x y = true → R x y) ∧ (c x y = false → R y x)) → Q.Pairwise (fun a b => R b a) → (insR c x Q).Pairwise (fun a b => R b a)
  | [], _, _ => by simp [insR]
  | y :: Q, h, hp => by
    rw [List.pairwise_cons] at hp
    unfold insR
    cases e : c x y
    · rw [cond_false]
      have hy := (h y (by simp)).2 e
      refine List.pairwise_cons.2 ⟨fun z hz => ?_, List.pairwise_cons.2 hp⟩
      rcases List.mem_cons.1 hz with e' | hz
      · subst e'; exact hy
      · exact ht _ _ _ (hp.1 z hz) hy
    · rw [cond_true]
      refine List.pairwise_cons.2 ⟨fun z hz => ?_, insR_sort ht (fun y hy => h y (by simp [hy])) hp.2⟩
      rcases List.mem_cons.1 ((insR_perm c x Q).mem_iff.1 hz) with e' | hz
      · subst e'; exact (h y (by simp)).1 e
      · exact hp.1 z hz
theorem srt_sort {c : Int → Int → Bool} {R : Int → Int → Prop} (ht : ∀ i j k, R i j → R j k → R i k) {P : Int → Prop} (hc : ∀ x y, P x → P y → y < x → (c x y = true → R x y) ∧ (c x y = false → R y x)) : ∀ {r Q : List Int}, (∀ x ∈ r, P x) → (∀ x ∈ Q, P x) → (∀ x ∈ r, ∀ y ∈ Q, y < x) → r.Pairwise (· < ·) → Q.Pairwise (fun a b => R b a) → (srt c Q r).Pairwise (fun a b => R b a)
  | [], Q, _, _, _, _, hQ => hQ
  | x :: r, Q, pr, pQ, hlt, hr, hQ => by
    unfold srt
    rw [List.pairwise_cons] at hr
    refine srt_sort ht hc (fun y hy => pr y (by simp [hy])) (fun y hy => ?_) (fun y hy z hz => ?_) hr.2 (insR_sort ht (fun y hy => hc x y (pr x (by simp)) (pQ y hy) (hlt x (by simp) y hy)) hQ)
    · rcases List.mem_cons.1 ((insR_perm c x Q).mem_iff.1 hy) with e | hy
      · subst e; exact pr y (by simp)
      · exact pQ y hy
    · rcases List.mem_cons.1 ((insR_perm c x Q).mem_iff.1 hz) with e | hz
      · subst e; exact hr.1 y hy
      · exact hlt y (by simp [hy]) z hz

theorem idx_at {α : Type} {A r : List α} {y : α} {k : Nat} (h : A.length = k) : idx (A ++ y :: r) (k : Int) = some y := by
  rw [idx_nat (by simp; omega)]
  simp [← h]
theorem set_at {α : Type} {A r : List α} {y z : α} {k : Nat} (h : A.length = k) : (A ++ y :: r).set k z = A ++ z :: r := by
  subst h
  induction A with
  | nil => rfl
  | cons a A ih => simp only [List.cons_append, List.length_cons, List.set_cons_succ, ih]
def cm86 (l : List (Int × Int)) (x y : Int) : Bool := decide ((sh l x).1 < (sh l y).1)
def cm87 (l : List (Int × Int)) (x y : Int) : Bool := decide ((sh l y).2 < (sh l x).2)
theorem cmp86 (n : Nat × Nat) {l : List (Int × Int)} (hb : ∀ s ∈ l, Ok s) {i j : Int} (hi : 0 ≤ i ∧ i < l.length) (hj : 0 ≤ j ∧ j < l.length) : ∃ r : Int, D86 n i j l = some r ∧ decide (r < 0) = cm86 l i j := by
  unfold D86 cm86
  rw [idx_sh hi.1 hi.2, idx_sh hj.1 hj.2]
  have o1 := hb _ (sh_mem hi.1 hi.2)
  have o2 := hb _ (sh_mem hj.1 hj.2)
  unfold Ok at o1 o2
  refine ⟨(sh l i).1 - (sh l j).1, ?_, ?_⟩
  · simp only [Option.bind_some]
    rw [wr_ok (by omega) (by omega)]
  · exact decide_eq_decide.2 (by omega)
theorem cmp87 (n : Nat × Nat) {l : List (Int × Int)} (hb : ∀ s ∈ l, Ok s) {i j : Int} (hi : 0 ≤ i ∧ i < l.length) (hj : 0 ≤ j ∧ j < l.length) : ∃ r : Int, D87 n i j l = some r ∧ decide (r < 0) = cm87 l i j := by
  unfold D87 cm87
  rw [idx_sh hi.1 hi.2, idx_sh hj.1 hj.2]
  have o1 := hb _ (sh_mem hi.1 hi.2)
  have o2 := hb _ (sh_mem hj.1 hj.2)
  unfold Ok at o1 o2
  refine ⟨(sh l j).2 - (sh l i).2, ?_, ?_⟩
  · simp only [Option.bind_some]
    rw [wr_ok (by omega) (by omega)]
  · exact decide_eq_decide.2 (by omega)

theorem in86_loop (n : Nat × Nat) (l : List (Int × Int)) (hb : ∀ s ∈ l, Ok s) (f : Int → Int → Int → List Int → List (Int × Int) → Option R95c86io1001) (b i : Int) (x : Int) (hx : 0 ≤ x ∧ x < l.length) : ∀ (m : Nat) (Q T : List Int), Q.length < m → Q.length < 1000 → (∀ y ∈ Q, 0 ≤ y ∧ y < l.length) →
    DL95c86io1001_2 n f m 0 b i (Q.length : Int) (Q.reverse ++ x :: T) l = f 0 b (wr .i64 (i + 1)) ((insR (cm86 l) x Q).reverse ++ T) l
  | 0, Q, T, h, _, _ => by omega
  | m + 1, [], T, h, _, hQ => by
    rw [DL95c86io1001_2_succ]
    unfold DF95c86io1001_2
    simp [insR]
  | m + 1, y :: Q, T, h, h8, hQ => by
    rw [DL95c86io1001_2_succ]
    unfold DF95c86io1001_2
    rw [List.length_cons] at h h8
    have hy := hQ y (by simp)
    obtain ⟨r, hr, hd⟩ := cmp86 n hb hx hy
    have ih := in86_loop n l hb f b i x hx m Q (y :: T) (by omega) (by omega) (fun z hz => hQ z (by simp [hz]))
    have e : (y :: Q).reverse ++ x :: T = Q.reverse ++ y :: x :: T := by simp
    have w : wr .i64 (((y :: Q).length : Int) - 1) = (Q.length : Int) := by rw [List.length_cons, wr_ok (by omega) (by omega)]; omega
    have a1 : ∀ T' : List Int, idx (Q.reverse ++ y :: x :: T') ((y :: Q).length : Int) = some x := fun T' => by
      have := idx_at (A := Q.reverse ++ [y]) (r := T') (y := x) (k := (y :: Q).length) (by simp)
      simpa using this
    have a2 : ∀ T' : List Int, idx (Q.reverse ++ y :: T') (Q.length : Int) = some y := fun T' => idx_at (by simp)
    have a3 : (Q.reverse ++ y :: x :: T).set (y :: Q).length y = Q.reverse ++ y :: y :: T := by
      have := set_at (A := Q.reverse ++ [y]) (r := T) (y := x) (z := y) (k := (y :: Q).length) (by simp)
      rw [List.append_assoc, List.append_assoc] at this
      exact this
    have a4 : (Q.reverse ++ y :: y :: T).set Q.length x = Q.reverse ++ x :: y :: T := set_at (by simp)
    rw [e]
    rw [decide_eq_true (show (((y :: Q).length : Nat) : Int) > 0 by rw [List.length_cons]; omega), w]
    simp only [beq_self_eq_true, cond_true]
    rw [inB_nat (show (y :: Q).length < (Q.reverse ++ y :: x :: T).length by simp <;> omega), inB_nat (show Q.length < (Q.reverse ++ y :: x :: T).length by simp <;> omega)]
    simp only [cond_true, a1, a2, Option.bind_some, hr, hd]
    unfold insR
    cases cm86 l x y
    · simp only [cond_false]
      congr 1
      simp
    · simp only [cond_true]
      rw [Int.toNat_natCast, Int.toNat_natCast, a3, a2, inB_nat (show Q.length < (Q.reverse ++ y :: y :: T).length by simp <;> omega)]
      simp only [cond_true, Option.bind_some, a4, ih]
      congr 1
      simp
theorem so86_loop (n : Nat × Nat) (hn : 1000 ≤ n.1) (l : List (Int × Int)) (hb : ∀ s ∈ l, Ok s) : ∀ (m : Nat) (r Q : List Int), r.length < m → Q.length + r.length < 900 → (∀ y ∈ Q, 0 ≤ y ∧ y < l.length) → (∀ y ∈ r, 0 ≤ y ∧ y < l.length) →
    DL95c86io1001_1 n m 0 ((Q.length + r.length : Nat) : Int) (Q.length : Int) (Q.reverse ++ r) l = some ((), (srt (cm86 l) Q r).reverse, l, ())
  | 0, r, Q, h, _, _, _ => by omega
  | m + 1, [], Q, h, _, _, _ => by
    rw [DL95c86io1001_1_succ]
    unfold DF95c86io1001_1
    rw [dlt_f (by simp), cond_false]
    simp [srt]
  | m + 1, x :: r, Q, h, h8, hQ, hr => by
    rw [DL95c86io1001_1_succ]
    unfold DF95c86io1001_1
    rw [List.length_cons] at h h8
    have ih := so86_loop n hn l hb m r (insR (cm86 l) x Q) (by omega) (by rw [insR_len]; omega) (fun y hy => by
      rcases List.mem_cons.1 ((insR_perm _ x Q).mem_iff.1 hy) with e | hy
      · subst e; exact hr y (by simp)
      · exact hQ y hy) (fun y hy => hr y (by simp [hy]))
    rw [dlt_t (by simp), cond_true, in86_loop n l hb _ _ _ x (hr x (by simp)) n.1 Q r (by omega) (by omega) hQ, wr_succ (by omega)]
    rw [insR_len] at ih
    rw [show Q.length + 1 + r.length = Q.length + (x :: r).length by rw [List.length_cons]; omega] at ih
    rw [ih]
    rfl
theorem sort86_eq {n : Nat × Nat} (hn : 1000 ≤ n.1) {l : List (Int × Int)} (hb : ∀ s ∈ l, Ok s) {r : List Int} (h7 : r.length ≤ 7) (hr : ∀ y ∈ r, 0 ≤ y ∧ y < l.length) : D85c86io11 n r l = some ((), (srt (cm86 l) [] r).reverse, l, ()) := by
  have h95 : D95c86io1001 n r 0 (r.length : Int) l = some ((), (srt (cm86 l) [] r).reverse, l, ()) := by
    unfold D95c86io1001
    match r, h7, hr with
    | [], _, _ =>
      have : n.1 = (n.1 - 1) + 1 := by omega
      rw [this, DL95c86io1001_1_succ]
      unfold DF95c86io1001_1
      rw [show wr .i64 ((0 : Int) + 1) = 1 by rw [wr_ok (by omega) (by omega)]; omega]
      rfl
    | x :: r, h7, hr =>
      have := so86_loop n hn l hb n.1 r [x] (by simp at h7; omega) (by simp at h7 ⊢; omega) (fun y hy => by rw [List.mem_singleton] at hy; subst hy; exact hr y (by simp)) (fun y hy => hr y (by simp [hy]))
      rw [show wr .i64 ((0 : Int) + 1) = 1 by rw [wr_ok (by omega) (by omega)]; omega]
      simpa [srt, insR, Nat.add_comm] using this
  have hl : (srt (cm86 l) [] r).reverse.length = r.length := by
    rw [List.length_reverse, (srt_perm (cm86 l) r []).length_eq]
    simp
  have h94 : D94c86io101 n r (r.length : Int) l = some ((), (srt (cm86 l) [] r).reverse, l, ()) := by
    unfold D94c86io101
    obtain ⟨k, hk⟩ : ∃ k, n.1 = k + 1 := ⟨n.1 - 1, by omega⟩
    rw [hk, DL94c86io101_1_succ]
    unfold DF94c86io101_1
    rw [decide_eq_false (show ¬ (20 : Int) ≤ (r.length : Int) by omega), cond_false, h95]
    simp only [Option.bind_some]
    rw [show Nat.beq (srt (cm86 l) [] r).reverse.length r.length = true by rw [hl]; exact Nat.beq_refl _, cond_true, hk, DL94c86io101_2_succ]
    unfold DF94c86io101_2
    rw [decide_eq_false (show ¬ (20 : Int) < (r.length : Int) by omega), cond_false]
  unfold D85c86io11
  rw [h94]
  simp only [Option.bind_some]
  rw [show Nat.beq (srt (cm86 l) [] r).reverse.length r.length = true by rw [hl]; exact Nat.beq_refl _, cond_true]

theorem in87_loop (n : Nat × Nat) (l : List (Int × Int)) (hb : ∀ s ∈ l, Ok s) (f : Int → Int → Int → List Int → List (Int × Int) → Option R95c87io1001) (b i : Int) (x : Int) (hx : 0 ≤ x ∧ x < l.length) : ∀ (m : Nat) (Q T : List Int), Q.length < m → Q.length < 1000 → (∀ y ∈ Q, 0 ≤ y ∧ y < l.length) →
    DL95c87io1001_2 n f m 0 b i (Q.length : Int) (Q.reverse ++ x :: T) l = f 0 b (wr .i64 (i + 1)) ((insR (cm87 l) x Q).reverse ++ T) l
  | 0, Q, T, h, _, _ => by omega
  | m + 1, [], T, h, _, hQ => by
    rw [DL95c87io1001_2_succ]
    unfold DF95c87io1001_2
    simp [insR]
  | m + 1, y :: Q, T, h, h8, hQ => by
    rw [DL95c87io1001_2_succ]
    unfold DF95c87io1001_2
    rw [List.length_cons] at h h8
    have hy := hQ y (by simp)
    obtain ⟨r, hr, hd⟩ := cmp87 n hb hx hy
    have ih := in87_loop n l hb f b i x hx m Q (y :: T) (by omega) (by omega) (fun z hz => hQ z (by simp [hz]))
    have e : (y :: Q).reverse ++ x :: T = Q.reverse ++ y :: x :: T := by simp
    have w : wr .i64 (((y :: Q).length : Int) - 1) = (Q.length : Int) := by rw [List.length_cons, wr_ok (by omega) (by omega)]; omega
    have a1 : ∀ T' : List Int, idx (Q.reverse ++ y :: x :: T') ((y :: Q).length : Int) = some x := fun T' => by
      have := idx_at (A := Q.reverse ++ [y]) (r := T') (y := x) (k := (y :: Q).length) (by simp)
      simpa using this
    have a2 : ∀ T' : List Int, idx (Q.reverse ++ y :: T') (Q.length : Int) = some y := fun T' => idx_at (by simp)
    have a3 : (Q.reverse ++ y :: x :: T).set (y :: Q).length y = Q.reverse ++ y :: y :: T := by
      have := set_at (A := Q.reverse ++ [y]) (r := T) (y := x) (z := y) (k := (y :: Q).length) (by simp)
      rw [List.append_assoc, List.append_assoc] at this
      exact this
    have a4 : (Q.reverse ++ y :: y :: T).set Q.length x = Q.reverse ++ x :: y :: T := set_at (by simp)
    rw [e]
    rw [decide_eq_true (show (((y :: Q).length : Nat) : Int) > 0 by rw [List.length_cons]; omega), w]
    simp only [beq_self_eq_true, cond_true]
    rw [inB_nat (show (y :: Q).length < (Q.reverse ++ y :: x :: T).length by simp <;> omega), inB_nat (show Q.length < (Q.reverse ++ y :: x :: T).length by simp <;> omega)]
    simp only [cond_true, a1, a2, Option.bind_some, hr, hd]
    unfold insR
    cases cm87 l x y
    · simp only [cond_false]
      congr 1
      simp
    · simp only [cond_true]
      rw [Int.toNat_natCast, Int.toNat_natCast, a3, a2, inB_nat (show Q.length < (Q.reverse ++ y :: y :: T).length by simp <;> omega)]
      simp only [cond_true, Option.bind_some, a4, ih]
      congr 1
      simp
theorem so87_loop (n : Nat × Nat) (hn : 1000 ≤ n.1) (l : List (Int × Int)) (hb : ∀ s ∈ l, Ok s) : ∀ (m : Nat) (r Q : List Int), r.length < m → Q.length + r.length < 900 → (∀ y ∈ Q, 0 ≤ y ∧ y < l.length) → (∀ y ∈ r, 0 ≤ y ∧ y < l.length) →
    DL95c87io1001_1 n m 0 ((Q.length + r.length : Nat) : Int) (Q.length : Int) (Q.reverse ++ r) l = some ((), (srt (cm87 l) Q r).reverse, l, ())
  | 0, r, Q, h, _, _, _ => by omega
  | m + 1, [], Q, h, _, _, _ => by
    rw [DL95c87io1001_1_succ]
    unfold DF95c87io1001_1
    rw [dlt_f (by simp), cond_false]
    simp [srt]
  | m + 1, x :: r, Q, h, h8, hQ, hr => by
    rw [DL95c87io1001_1_succ]
    unfold DF95c87io1001_1
    rw [List.length_cons] at h h8
    have ih := so87_loop n hn l hb m r (insR (cm87 l) x Q) (by omega) (by rw [insR_len]; omega) (fun y hy => by
      rcases List.mem_cons.1 ((insR_perm _ x Q).mem_iff.1 hy) with e | hy
      · subst e; exact hr y (by simp)
      · exact hQ y hy) (fun y hy => hr y (by simp [hy]))
    rw [dlt_t (by simp), cond_true, in87_loop n l hb _ _ _ x (hr x (by simp)) n.1 Q r (by omega) (by omega) hQ, wr_succ (by omega)]
    rw [insR_len] at ih
    rw [show Q.length + 1 + r.length = Q.length + (x :: r).length by rw [List.length_cons]; omega] at ih
    rw [ih]
    rfl
theorem sort87_eq {n : Nat × Nat} (hn : 1000 ≤ n.1) {l : List (Int × Int)} (hb : ∀ s ∈ l, Ok s) {r : List Int} (h7 : r.length ≤ 7) (hr : ∀ y ∈ r, 0 ≤ y ∧ y < l.length) : D85c87io11 n r l = some ((), (srt (cm87 l) [] r).reverse, l, ()) := by
  have h95 : D95c87io1001 n r 0 (r.length : Int) l = some ((), (srt (cm87 l) [] r).reverse, l, ()) := by
    unfold D95c87io1001
    match r, h7, hr with
    | [], _, _ =>
      have : n.1 = (n.1 - 1) + 1 := by omega
      rw [this, DL95c87io1001_1_succ]
      unfold DF95c87io1001_1
      rw [show wr .i64 ((0 : Int) + 1) = 1 by rw [wr_ok (by omega) (by omega)]; omega]
      rfl
    | x :: r, h7, hr =>
      have := so87_loop n hn l hb n.1 r [x] (by simp at h7; omega) (by simp at h7 ⊢; omega) (fun y hy => by rw [List.mem_singleton] at hy; subst hy; exact hr y (by simp)) (fun y hy => hr y (by simp [hy]))
      rw [show wr .i64 ((0 : Int) + 1) = 1 by rw [wr_ok (by omega) (by omega)]; omega]
      simpa [srt, insR, Nat.add_comm] using this
  have hl : (srt (cm87 l) [] r).reverse.length = r.length := by
    rw [List.length_reverse, (srt_perm (cm87 l) r []).length_eq]
    simp
  have h94 : D94c87io101 n r (r.length : Int) l = some ((), (srt (cm87 l) [] r).reverse, l, ()) := by
    unfold D94c87io101
    obtain ⟨k, hk⟩ : ∃ k, n.1 = k + 1 := ⟨n.1 - 1, by omega⟩
    rw [hk, DL94c87io101_1_succ]
    unfold DF94c87io101_1
    rw [decide_eq_false (show ¬ (20 : Int) ≤ (r.length : Int) by omega), cond_false, h95]
    simp only [Option.bind_some]
    rw [show Nat.beq (srt (cm87 l) [] r).reverse.length r.length = true by rw [hl]; exact Nat.beq_refl _, cond_true, hk, DL94c87io101_2_succ]
    unfold DF94c87io101_2
    rw [decide_eq_false (show ¬ (20 : Int) < (r.length : Int) by omega), cond_false]
  unfold D85c87io11
  rw [h94]
  simp only [Option.bind_some]
  rw [show Nat.beq (srt (cm87 l) [] r).reverse.length r.length = true by rw [hl]; exact Nat.beq_refl _, cond_true]

def ix (n : Nat) : List Int := (List.range n).map fun i : Nat => (i : Int)
theorem ix_succ (n : Nat) : ix (n + 1) = ix n ++ [(n : Int)] := by simp [ix, List.range_succ]
theorem ix_mem {n : Nat} {i : Int} : i ∈ ix n ↔ 0 ≤ i ∧ i < n := by
  unfold ix
  rw [List.mem_map]
  constructor
  · rintro ⟨k, hk, e⟩
    rw [List.mem_range] at hk
    omega
  · intro h
    exact ⟨i.toNat, List.mem_range.2 (by omega), by omega⟩
theorem ix_lt (n : Nat) : (ix n).Pairwise (· < ·) := by
  unfold ix
  rw [List.pairwise_map]
  exact List.Pairwise.imp (fun h => by omega) (List.pairwise_lt_range (n := n))
theorem ix_len (n : Nat) : (ix n).length = n := by simp [ix]
def fa (l : List (Int × Int)) (i : Int) : Bool := decide ((sh l i).1 < (sh l i).2)
def frt (l : List (Int × Int)) (k : Nat) : List Int := (ix k).filter (fa l)
def bck (l : List (Int × Int)) (k : Nat) : List Int := (ix k).filter fun i => !fa l i
/-- The order of the rule. -/
def rl (l : List (Int × Int)) : List Int := (srt (cm86 l) [] (frt l l.length)).reverse ++ (srt (cm87 l) [] (bck l l.length)).reverse
theorem frt_len (l : List (Int × Int)) (k : Nat) : (frt l k).length ≤ k := by
  have := List.length_filter_le (fa l) (ix k)
  rw [ix_len] at this
  exact this
theorem bck_len (l : List (Int × Int)) (k : Nat) : (bck l k).length ≤ k := by
  have := List.length_filter_le (fun i => !fa l i) (ix k)
  rw [ix_len] at this
  exact this

theorem rl_perm (l : List (Int × Int)) : (rl l).Perm (ix l.length) := by
  unfold rl
  have h1 := (List.reverse_perm (srt (cm86 l) [] (frt l l.length))).trans (srt_perm (cm86 l) (frt l l.length) [])
  have h2 := (List.reverse_perm (srt (cm87 l) [] (bck l l.length))).trans (srt_perm (cm87 l) (bck l l.length) [])
  rw [List.append_nil] at h1 h2
  exact (h1.append h2).trans (List.filter_append_perm (fa l) (ix l.length))
theorem rl_ord (l : List (Int × Int)) : Ord l.length (rl l) := by
  have h := rl_perm l
  refine ⟨by rw [h.length_eq, ix_len], fun i hi => ix_mem.1 (h.mem_iff.1 hi), ?_⟩
  refine h.symm.nodup ?_
  exact List.Pairwise.imp (fun h => by omega) (ix_lt l.length)
theorem rl_sort (l : List (Int × Int)) : (rl l).Pairwise (Bef l) := by
  unfold rl
  have p1 := srt_perm (cm86 l) (frt l l.length) []
  have p2 := srt_perm (cm87 l) (bck l l.length) []
  rw [List.append_nil] at p1 p2
  have ff : ∀ x ∈ frt l l.length, fa l x = true := fun x hx => (List.mem_filter.1 hx).2
  have fb : ∀ x ∈ bck l l.length, fa l x = false := fun x hx => by simpa using (List.mem_filter.1 hx).2
  refine List.pairwise_append.2 ⟨List.pairwise_reverse.2 ?_, List.pairwise_reverse.2 ?_, fun a ha b hb => ?_⟩
  · refine srt_sort (R := Bef l) (fun i j k => Bef.trans) (P := fun x => fa l x = true) (fun x y hx hy hlt => ?_) ff (fun x hx => by simp at hx) (fun x hx y hy => by simp at hy) (List.Pairwise.filter _ (ix_lt _)) List.Pairwise.nil
    unfold fa at hx hy
    unfold cm86 Bef
    rw [decide_eq_true_iff] at hx hy
    rw [decide_eq_true_iff, decide_eq_false_iff_not]
    omega
  · refine srt_sort (R := Bef l) (fun i j k => Bef.trans) (P := fun x => fa l x = false) (fun x y hx hy hlt => ?_) fb (fun x hx => by simp at hx) (fun x hx y hy => by simp at hy) (List.Pairwise.filter _ (ix_lt _)) List.Pairwise.nil
    unfold fa at hx hy
    unfold cm87 Bef
    rw [decide_eq_false_iff_not] at hx hy
    rw [decide_eq_true_iff, decide_eq_false_iff_not]
    omega
  · rw [List.mem_reverse] at ha hb
    have h1 := ff a (p1.mem_iff.1 ha)
    have h2 := fb b (p2.mem_iff.1 hb)
    unfold fa at h1 h2
    rw [decide_eq_true_iff] at h1
    rw [decide_eq_false_iff_not] at h2
    exact .inl ⟨h1, h2⟩

theorem rule_loop (n : Nat × Nat) (hn : 1000 ≤ n.1) (l : List (Int × Int)) (hl : l.length ≤ 7) (hb : ∀ s ∈ l, Ok s) : ∀ (m k : Nat), k ≤ l.length → l.length - k < m →
    DL69_1 n m l (l.length : Int) (k : Int) l (frt l k) (bck l k) = some (rl l)
  | 0, k, _, h => by omega
  | m + 1, k, hk, h => by
    rw [DL69_1_succ]
    unfold DF69_1
    by_cases hlt : k < l.length
    · have ih := rule_loop n hn l hl hb m (k + 1) (by omega) (by omega)
      have hj2 : ∀ a b, DL69_2 n (DL69_1 n m) l (l.length : Int) (k : Int) l a b = DL69_1 n m l (l.length : Int) (wr .i64 ((k : Int) + 1)) l a b := fun a b => rfl
      have e1 := frt_len l k
      have e2 := bck_len l k
      rw [dlt_t hlt, cond_true, idx_nat hlt, Option.bind_some, hj2, hj2, wr_succ (by omega), lim_dec (by omega), lim_dec (by omega), cond_true, cond_true, ← ih]
      have hsh : sh l (k : Int) = l[k] := by simp [sh, hlt]
      by_cases f : l[k].1 < l[k].2
      · rw [decide_eq_true f, cond_true]
        have hf : fa l (k : Int) = true := by unfold fa; rw [hsh]; exact decide_eq_true f
        unfold frt bck
        rw [ix_succ, List.filter_append, List.filter_append]
        simp [hf]
      · rw [decide_eq_false f, cond_false]
        have hf : fa l (k : Int) = false := by unfold fa; rw [hsh]; exact decide_eq_false f
        unfold frt bck
        rw [ix_succ, List.filter_append, List.filter_append]
        simp [hf]
    · have : k = l.length := by omega
      subst this
      have e1 := frt_len l l.length
      have e2 := bck_len l l.length
      have p1 := (srt_perm (cm86 l) (frt l l.length) []).length_eq
      have p2 := (srt_perm (cm87 l) (bck l l.length) []).length_eq
      rw [List.append_nil] at p1 p2
      rw [dlt_f (by omega), cond_false, sort86_eq (r := frt l l.length) hn hb (by omega) (fun y hy => ix_mem.1 (List.mem_filter.1 hy).1), Option.bind_some]
      simp only []
      rw [show Nat.beq (srt (cm86 l) [] (frt l l.length)).reverse.length (frt l l.length).length = true by rw [List.length_reverse, p1]; exact Nat.beq_refl _, cond_true, sort87_eq (r := bck l l.length) hn hb (by omega) (fun y hy => ix_mem.1 (List.mem_filter.1 hy).1), Option.bind_some]
      simp only []
      rw [show Nat.beq (srt (cm87 l) [] (bck l l.length)).reverse.length (bck l l.length).length = true by rw [List.length_reverse, p2]; exact Nat.beq_refl _, cond_true, decide_eq_true (by simp [lim, p1, p2]; omega), cond_true]
      rfl
theorem rule_eq {n : Nat × Nat} (hn : 1000 ≤ n.1) {l : List (Int × Int)} (hg : Good l) : D69 n l = some (rl l) := by
  unfold D69
  exact rule_loop n hn l hg.len hg.ok n.1 0 (by omega) (by have := hg.len; omega)
def ruleS (l : List (Int × Int)) : List Int × Int := if chk l ≠ 0 then ([], chk l) else (rl l, 0)
theorem Rule_eq {n : Nat × Nat} (hn : 1000 ≤ n.1) (l : List (Int × Int)) : D27 n l = some (ruleS l) := by
  unfold D27 ruleS
  rw [chk_eq hn, Option.bind_some]
  by_cases h : chk l = 0
  · rw [show (chk l != 0) = false by simp [h], cond_false, if_neg (by simpa using h), rule_eq hn (chk_good.1 h)]
    rfl
  · rw [show (chk l != 0) = true by simpa using h, cond_true, if_pos h]

/-- How many of the first k are before one. -/
def cnt (l : List (Int × Int)) (i : Int) (k : Nat) : Nat := ((ix k).filter fun j => decide (j ≠ i) && decide (Bef l j i)).length
theorem place_loop (n : Nat × Nat) (l : List (Int × Int)) (hl : l.length ≤ 7) (f : List (Int × Int) → Int → List Int → Option R28) (i : Int) (hi : 0 ≤ i ∧ i < l.length) (out : List Int) (ho : out.length = l.length) (hc : cnt l i l.length < l.length) : ∀ (m k : Nat), k ≤ l.length → l.length - k < m →
    DL28_2 n f m l i (cnt l i k : Int) (k : Int) out = f l (wr .i64 (i + 1)) (out.set (cnt l i l.length) i)
  | 0, k, _, h => by omega
  | m + 1, k, hk, h => by
    rw [DL28_2_succ]
    unfold DF28_2
    by_cases hlt : k < l.length
    · have ih := place_loop n l hl f i hi out ho hc m (k + 1) (by omega) (by omega)
      have hj3 : ∀ v : Int, DL28_3 n f (DL28_2 n f m) l i v (k : Int) out = DL28_2 n f m l i v (wr .i64 ((k : Int) + 1)) out := fun v => rfl
      have hle : cnt l i k ≤ k := by
        have := List.length_filter_le (fun j => decide (j ≠ i) && decide (Bef l j i)) (ix k)
        rw [ix_len] at this
        exact this
      rw [dlt_t hlt, cond_true, before_eq n ⟨by omega, by omega⟩ hi, hj3, hj3, wr_succ (k := k) (by omega), wr_succ (k := cnt l i k) (by omega)]
      have e : cnt l i (k + 1) = cnt l i k + (if (k : Int) ≠ i ∧ Bef l (k : Int) i then 1 else 0) := by
        unfold cnt
        rw [ix_succ, List.filter_append, List.length_append]
        congr 1
        by_cases c : (k : Int) ≠ i ∧ Bef l (k : Int) i
        · rw [if_pos c]; simp [c]
        · rw [if_neg c]
          have : (decide ((k : Int) ≠ i) && decide (Bef l (k : Int) i)) = false := by
            rw [← Bool.not_eq_true, Bool.and_eq_true, decide_eq_true_iff, decide_eq_true_iff]
            exact c
          rw [List.filter_cons, this]; rfl
      simp only [Option.bind_some]
      by_cases c1 : (k : Int) = i
      · rw [show ((k : Int) != i) = false by simp [c1]]
        simp only [show (false == true) = false from rfl, cond_false, Option.bind_some]
        rw [if_neg (by simp [c1])] at e
        rw [← ih, e]
        rfl
      · rw [show ((k : Int) != i) = true by simpa using c1]
        simp only [beq_self_eq_true, cond_true, Option.bind_some]
        by_cases c2 : Bef l (k : Int) i
        · rw [if_pos ⟨c1, c2⟩] at e
          rw [decide_eq_true c2, cond_true, ← ih, e]
        · rw [if_neg (fun h => c2 h.2)] at e
          rw [decide_eq_false c2, cond_false, ← ih, e]
          rfl
    · have : k = l.length := by omega
      subst this
      rw [dlt_f (by omega), cond_false, inB_nat (by omega), cond_true, idx_nat (by omega), Option.bind_some, Int.toNat_natCast]
/-- At its place in the rule's order stands each sheet. -/
theorem cnt_place {l : List (Int × Int)} {k : Nat} (hk : k < (rl l).length) : cnt l (rl l)[k] l.length = k := by
  have hs := rl_sort l
  have hp := rl_perm l
  unfold cnt
  have := (hp.filter fun j => decide (j ≠ (rl l)[k]) && decide (Bef l j (rl l)[k])).length_eq
  rw [← this]
  have hl : rl l = (rl l).take k ++ (rl l)[k] :: (rl l).drop (k + 1) := by rw [← drop_cons hk, List.take_append_drop]
  have hlen : ((rl l).take k).length = k := by rw [List.length_take]; omega
  generalize (rl l)[k] = x at hl ⊢
  rw [hl] at hs ⊢
  generalize (rl l).take k = A at hs hlen ⊢
  generalize (rl l).drop (k + 1) = B at hs ⊢
  rw [List.pairwise_append, List.pairwise_cons] at hs
  obtain ⟨_, ⟨pB, _⟩, pA⟩ := hs
  rw [List.filter_append, List.filter_cons]
  have eA : A.filter (fun j => decide (j ≠ x) && decide (Bef l j x)) = A := List.filter_eq_self.2 fun a ha => by
    have := pA a ha x (by simp)
    have hne : a ≠ x := fun e => by subst e; exact this.irrefl
    simp [hne, this]
  have eB : B.filter (fun j => decide (j ≠ x) && decide (Bef l j x)) = [] := List.filter_eq_nil_iff.2 fun b hb => by
    have := (pB b hb).asymm
    simp [this]
  rw [eA, eB]
  simp [hlen]
theorem rrule_loop (n : Nat × Nat) (hn : 1000 ≤ n.1) (l : List (Int × Int)) (hl : l.length ≤ 7) : ∀ (m k : Nat) (out : List Int), k ≤ l.length → l.length - k < m → out.length = l.length →
    (∀ p (hp : p < (rl l).length), (rl l)[p] < k → out[p]? = some (rl l)[p]) → DL28_1 n m l (k : Int) out = some (rl l, 0)
  | 0, k, out, _, h, _, _ => by omega
  | m + 1, k, out, hk, h, ho, hp => by
    have hrl := (rl_ord l).len
    rw [DL28_1_succ]
    unfold DF28_1
    by_cases hlt : k < l.length
    · have hin : (k : Int) ∈ rl l := (rl_perm l).mem_iff.2 (ix_mem.2 ⟨by omega, by omega⟩)
      obtain ⟨q, hq, eq⟩ := List.getElem_of_mem hin
      have hc : cnt l (k : Int) l.length = q := by rw [← eq]; exact cnt_place hq
      have c0 : cnt l (k : Int) 0 = 0 := rfl
      have := place_loop n l hl (DL28_1 n m) (k : Int) ⟨by omega, by omega⟩ out ho (by omega) n.1 0 (by omega) (by omega)
      rw [c0] at this
      rw [dlt_t hlt, cond_true]
      refine this.trans ?_
      rw [hc, wr_succ (by omega)]
      refine rrule_loop n hn l hl m (k + 1) _ (by omega) (by omega) (by simp [ho]) (fun p hp' hlt' => ?_)
      by_cases e : p = q
      · subst e
        rw [List.getElem?_set_self (by omega), eq]
      · rw [List.getElem?_set_ne (fun h => e h.symm)]
        refine hp p hp' ?_
        have hne : (rl l)[p] ≠ (k : Int) := fun e' => by
          have hnd := (rl_ord l).nodup
          rw [← eq] at e'
          exact e ((List.getElem_inj hnd).1 e')
        omega
    · rw [dlt_f hlt, cond_false]
      congr 2
      apply List.ext_getElem?
      intro p
      by_cases h' : p < (rl l).length
      · have := (rl_ord l).rng _ (List.getElem_mem h')
        rw [hp p h' (by omega), List.getElem?_eq_getElem h']
      · rw [List.getElem?_eq_none (by omega), List.getElem?_eq_none (by omega)]
theorem rRule_eq {n : Nat × Nat} (hn : 1000 ≤ n.1) (l : List (Int × Int)) : D28 n l = some (ruleS l) := by
  unfold D28 ruleS
  rw [chkr_eq hn, Option.bind_some]
  by_cases h : chk l = 0
  · have hg := chk_good.1 h
    have h7 := hg.len
    rw [show (chk l != 0) = false by simp [h], cond_false, if_neg (by simpa using h)]
    rw [decide_eq_true (show (0 : Int) ≤ (l.length : Int) by omega), decide_eq_true (Int.le_refl _), decide_eq_true (show (l.length : Int) ≤ lim by simp [lim]; omega), Bool.and_self, Bool.and_self, cond_true, Int.toNat_natCast]
    exact rrule_loop n hn l h7 n.1 0 _ (by omega) (by omega) (by simp) (fun p hp hlt => by
      have := (rl_ord l).rng _ (List.getElem_mem hp)
      omega)
  · rw [show (chk l != 0) = true by simpa using h, cond_true, if_pos h]

/-- The sheets of the rule's order, and their time: that of the best orders. -/
theorem rl_bf (l : List (Int × Int)) : (pk l (rl l)).Pairwise Bf := by
  unfold pk
  rw [List.pairwise_map]
  exact List.Pairwise.imp (fun h => h.bf) (rl_sort l)
theorem johnson {l : List (Int × Int)} (hg : Good l) : ∃ m s, (m = 0 ∨ m = 1) ∧ s ∈ l ∧ tm 0 0 (pk l (rl l)) = bnd l m (hr m s) := by
  have ho := rl_ord l
  obtain ⟨m, s, hm, hs, e⟩ := strong (ord_pk hg ho).1 (pk_ok hg ho) (rl_bf l)
  exact ⟨m, s, hm, (pk_perm ho).mem_iff.1 hs, by rw [e, bnd_perm m (hr m s) (pk_perm ho)]⟩
theorem bnd_le {l : List (Int × Int)} {o : List Int} (ho : Ord l.length o) {m : Int} (hm : m = 0 ∨ m = 1) {s : Int × Int} (hs : s ∈ l) : bnd l m (hr m s) ≤ tm 0 0 (pk l o) := by
  rw [← bnd_perm m (hr m s) (pk_perm ho)]
  exact weak hm ((pk_perm ho).mem_iff.2 hs)
theorem rl_best {l : List (Int × Int)} (hg : Good l) {o : List Int} (ho : Ord l.length o) : tm 0 0 (pk l (rl l)) ≤ tm 0 0 (pk l o) := by
  obtain ⟨m, s, hm, hs, e⟩ := johnson hg
  rw [e]
  exact bnd_le ho hm hs
end Go.Proofs.Ytnlbhjmbaedadaa
set_option linter.unusedVariables false
set_option linter.unusedSimpArgs false
set_option maxRecDepth 100000
namespace Go.Proofs.Ytnlbhjmbaedadaa
open Go.Vi
abbrev R34 := Bool × Int
noncomputable def c34 : Code := bodyOf Try.f34
noncomputable def an34 : Ann := (.s .l (.s .l (.s (.s .l (.j [0, 1, 2, 8] .l .l)) (.s (.s .l (.j [0, 1, 2] .l .l)) .l))))
def pk34 : List PK := [.c (.sl (.pair (.int .i64) (.int .i64))), .c (.int .i64), .c (.int .i64)]
def rk34 : List RK := [.c .bool 6, .c (.int .i64) 7]
noncomputable def rt34 (st : St) : Option R34 := rtG rk34 st
noncomputable def E34 (n : Nat × Nat) : Env := { T := tab, phi := (consPhi 26 (fun _ => true) (P26 n) (consPhi 68 (fun _ => true) (P68 n) noPhi)), eff := fun _ => false, fuel := n.1, hold := n.2 }
noncomputable def kq34_1 (n : Nat × Nat) : St → Option R34 := run (E34 n) (cB (cB (cB c34))) (Ann.snd (Ann.snd (Ann.snd an34))) rt34 (fun _ _ => none) rt34
noncomputable def kc34_2 (n : Nat × Nat) : St → Option R34 := fun s => normC [0, 1, 2, 8] s (kq34_1 n)
noncomputable def kq34_3 (n : Nat × Nat) : St → Option R34 := run (E34 n) (cB (cB (cB (cB c34)))) (Ann.snd (Ann.snd (Ann.snd (Ann.snd an34)))) rt34 (fun _ _ => none) rt34
noncomputable def kc34_4 (n : Nat × Nat) : St → Option R34 := fun s => normC [0, 1, 2] s (kq34_3 n)
noncomputable def S34 (n : Nat × Nat) (sheets0 : List (Int × Int)) (i1 : Int) (j2 : Int) : Option R34 := run (E34 n) c34 an34 rt34 (fun _ _ => none) rt34 { tm := [.c (.sl (.pair (.int .i64) (.int .i64)) sheets0 false), .c (.int .i64 i1), .c (.int .i64 j2), uu, uu, uu, uu, uu, uu, uu, uu, uu, uu, uu, uu, uu, uu, uu, uu, uu, uu, uu, uu, uu, uu, uu, uu, uu, uu, uu, uu, uu, uu, uu, uu, uu, uu, uu, uu, uu, uu, uu, uu, uu, uu, uu, uu, uu, uu, uu, uu, uu, uu, uu, uu], hp := emp }
theorem S34_eq (n : Nat × Nat) (sheets0 : List (Int × Int)) (i1 : Int) (j2 : Int) : S34 n sheets0 i1 j2 =
    (S26 n sheets0).bind fun r1' =>
    ((bif ((r1' == 0) == true) then (S68 n i1 0 (wr .i64 ((sheets0.length : Int) - 1))).bind fun r2' =>
        ((bif ((!r2') == false) then (S68 n j2 0 (wr .i64 ((sheets0.length : Int) - 1))).bind fun r3' =>
            some (!r3')
          else some true)).bind fun b4' =>
        some b4'
      else some false)).bind fun b5' =>
    (bif b5' then (bif (2 != 0) then some (false, 2)
      else (idx sheets0 i1).bind fun x6' =>
        (idx sheets0 j2).bind fun x7' =>
        (idx sheets0 j2).bind fun x8' =>
        (idx sheets0 i1).bind fun x9' =>
        some (decide ((if x7'.2 < x6'.1 then x7'.2 else x6'.1) ≤ (if x9'.2 < x8'.1 then x9'.2 else x8'.1)), 0))
    else (bif (r1' != 0) then some (false, r1')
      else (idx sheets0 i1).bind fun x10' =>
        (idx sheets0 j2).bind fun x11' =>
        (idx sheets0 j2).bind fun x12' =>
        (idx sheets0 i1).bind fun x13' =>
        some (decide ((if x11'.2 < x10'.1 then x11'.2 else x10'.1) ≤ (if x13'.2 < x12'.1 then x13'.2 else x12'.1)), 0))) := by kernel_rfl
theorem S34_run (n : Nat × Nat) (xs : pksDen pk34) : S34 n xs.1 xs.2.1 xs.2.2.1 = runG (E34 n) noScope c34 an34 (rtG rk34) (fun _ _ => none) (rtG rk34) (st0 pk34 xs Try.f34.ntmps) := by kernel_rfl
noncomputable def P34 (n : Nat × Nat) := phiOf pk34 rk34 (fun xs => S34 n xs.1 xs.2.1 xs.2.2.1)
theorem call34 : CallOK Try.prog 34 := callOK_of Try.func34 (by kernel_rfl) (by kernel_rfl)
theorem env34 (n : Nat × Nat) : EnvOK Try.prog (E34 n) := envOK0 (consPhi_ok (FC26 n) call26 (consPhi_ok (FC68 n) call68 noPhi_ok)) rfl rfl
theorem par34 (n : Nat × Nat) : EnvPar (E34 n) := envPar0 (consPhi_par phiOf_Par1 (consPhi_par phiOf_Par1 noPhi_par)) rfl
theorem FC34 (n : Nat × Nat) : FCs Try.prog 34 (P34 n) := phiOf_FCs fun xs r h vs hv => FC.of_runG tabOK eqsOK (env34 n) (par34 n) mixed (fun _ => noScope_ok) Try.func34 (c := c34) (an := an34) (pks := pk34) (rks := rk34) (by kernel_rfl) (by kernel_rfl) hv ((S34_run n xs).symm.trans h)
/-D 34 -/
noncomputable def D34 (n : Nat × Nat) (sheets0 : List (Int × Int)) (i1 : Int) (j2 : Int) : Option R34 :=
    (D26 n sheets0).bind fun r1' =>
    ((bif ((r1' == 0) == true) then (D68 n i1 0 (wr .i64 ((sheets0.length : Int) - 1))).bind fun r2' =>
        ((bif ((!r2') == false) then (D68 n j2 0 (wr .i64 ((sheets0.length : Int) - 1))).bind fun r3' =>
            some (!r3')
          else some true)).bind fun b4' =>
        some b4'
      else some false)).bind fun b5' =>
    (bif b5' then (bif (2 != 0) then some (false, 2)
      else (idx sheets0 i1).bind fun x6' =>
        (idx sheets0 j2).bind fun x7' =>
        (idx sheets0 j2).bind fun x8' =>
        (idx sheets0 i1).bind fun x9' =>
        some (decide ((if x7'.2 < x6'.1 then x7'.2 else x6'.1) ≤ (if x9'.2 < x8'.1 then x9'.2 else x8'.1)), 0))
    else (bif (r1' != 0) then some (false, r1')
      else (idx sheets0 i1).bind fun x10' =>
        (idx sheets0 j2).bind fun x11' =>
        (idx sheets0 j2).bind fun x12' =>
        (idx sheets0 i1).bind fun x13' =>
        some (decide ((if x11'.2 < x10'.1 then x11'.2 else x10'.1) ≤ (if x13'.2 < x12'.1 then x13'.2 else x12'.1)), 0)))
theorem S34_D (n : Nat × Nat) (hn : n.2 = 1) : S34 n = D34 n := by
  funext sheets0 i1 j2; refine (S34_eq n sheets0 i1 j2).trans ?_
  unfold D34
  (try simp only [S26_D n hn, S68_D n hn]) <;> first | with_reducible rfl | rfl
abbrev R91 := Int
noncomputable def c91 : Code := bodyOf Try.f91
noncomputable def an91 : Ann := (.s .l (.s (.s .l (.j [2] .l .l)) .l))
def pk91 : List PK := [.c (.pair (.int .i64) (.int .i64)), .c (.int .i64)]
def rk91 : List RK := [.c (.int .i64) 4]
noncomputable def rt91 (st : St) : Option R91 := rtG rk91 st
noncomputable def E91 (n : Nat × Nat) : Env := { T := tab, phi := noPhi, eff := fun _ => false, fuel := n.1, hold := n.2 }
noncomputable def kq91_1 (n : Nat × Nat) : St → Option R91 := run (E91 n) (cB (cB c91)) (Ann.snd (Ann.snd an91)) rt91 (fun _ _ => none) rt91
noncomputable def kc91_2 (n : Nat × Nat) : St → Option R91 := fun s => normC [2] s (kq91_1 n)
noncomputable def S91 (n : Nat × Nat) (s0 : Int × Int) (machine1 : Int) : Option R91 := run (E91 n) c91 an91 rt91 (fun _ _ => none) rt91 { tm := [.agg [.int .i64 s0.1, .int .i64 s0.2], .c (.int .i64 machine1), uu, uu, uu, uu, uu, uu, uu, uu, uu], hp := emp }
theorem S91_eq (n : Nat × Nat) (s0 : Int × Int) (machine1 : Int) : S91 n s0 machine1 =
    (bif (machine1 == 0) then some s0.1
    else some s0.2) := by kernel_rfl
theorem S91_run (n : Nat × Nat) (xs : pksDen pk91) : S91 n xs.1 xs.2.1 = runG (E91 n) noScope c91 an91 (rtG rk91) (fun _ _ => none) (rtG rk91) (st0 pk91 xs Try.f91.ntmps) := by kernel_rfl
noncomputable def P91 (n : Nat × Nat) := phiOf pk91 rk91 (fun xs => S91 n xs.1 xs.2.1)
theorem call91 : CallOK Try.prog 91 := callOK_of Try.func91 (by kernel_rfl) (by kernel_rfl)
theorem env91 (n : Nat × Nat) : EnvOK Try.prog (E91 n) := envOK0 noPhi_ok rfl rfl
theorem par91 (n : Nat × Nat) : EnvPar (E91 n) := envPar0 noPhi_par rfl
theorem FC91 (n : Nat × Nat) : FCs Try.prog 91 (P91 n) := phiOf_FCs fun xs r h vs hv => FC.of_runG tabOK eqsOK (env91 n) (par91 n) mixed (fun _ => noScope_ok) Try.func91 (c := c91) (an := an91) (pks := pk91) (rks := rk91) (by kernel_rfl) (by kernel_rfl) hv ((S91_run n xs).symm.trans h)
abbrev R76 := Int
noncomputable def c76 : Code := bodyOf Try.f76
noncomputable def an76 : Ann := (.s .l (.s .l (.s .l (.s (.s .l (.j [8] (.j [0, 1, 7, 8, 9] (.s (.s .l (.j [0, 1, 7, 8, 9] .l .l)) (.j [] (.j [0, 1, 7, 8, 9] (.s .l (.j [0, 1, 7, 8, 9] .l .l)) .l) .l)) .l) .l)) .l))))
def pk76 : List PK := [.c (.sl (.pair (.int .i64) (.int .i64))), .c (.int .i64), .c (.int .i64)]
def rk76 : List RK := [.c (.int .i64) 6]
noncomputable def rt76 (st : St) : Option R76 := rtG rk76 st
noncomputable def E76 (n : Nat × Nat) : Env := { T := tab, phi := (consPhi 91 (fun _ => true) (P91 n) noPhi), eff := fun _ => false, fuel := n.1, hold := n.2 }
noncomputable def kq76_1 (n : Nat × Nat) : St → Option R76 := run (E76 n) (cB (cB (cB (cB c76)))) (Ann.snd (Ann.snd (Ann.snd (Ann.snd an76)))) rt76 (fun _ _ => none) rt76
noncomputable def kc76_2 (n : Nat × Nat) : St → Option R76 := fun s => normC [8] s (kq76_1 n)
noncomputable def xb76_3 (n : Nat × Nat) : Nat → St → Option R76 := fun j s => bif Nat.beq j 0 then normC [8] s (kq76_1 n) else (fun _ _ => none) j s
noncomputable def F76_4 (n : Nat × Nat) : (St → Option R76) → St → Option R76 := fun K s => run (E76 n) (cA (cA (cB (cA (cB (cB (cB c76))))))) (Ann.fst (Ann.fst (Ann.snd (Ann.fst (Ann.snd (Ann.snd (Ann.snd an76))))))) (fun s => normC [0, 1, 7, 8, 9] s K) (xb76_3 n) rt76 s
noncomputable def kq76_5 (n : Nat × Nat) (m1 : Nat) : St → Option R76 := run (E76 n) (cB (cA (cA (cB (cA (cB (cB (cB c76)))))))) (Ann.snd (Ann.fst (Ann.fst (Ann.snd (Ann.fst (Ann.snd (Ann.snd (Ann.snd an76)))))))) (fun s => normC [0, 1, 7, 8, 9] s (loopN (F76_4 n) m1)) (xb76_3 n) rt76
noncomputable def kc76_6 (n : Nat × Nat) (m1 : Nat) : St → Option R76 := fun s => normC [0, 1, 7, 8, 9] s (kq76_5 n m1)
noncomputable def kq76_7 (n : Nat × Nat) (m1 : Nat) : St → Option R76 := run (E76 n) (cB (cB (cA (cA (cB (cA (cB (cB (cB c76))))))))) (Ann.snd (Ann.snd (Ann.fst (Ann.fst (Ann.snd (Ann.fst (Ann.snd (Ann.snd (Ann.snd an76))))))))) (fun s => normC [0, 1, 7, 8, 9] s (loopN (F76_4 n) m1)) (xb76_3 n) rt76
noncomputable def kc76_8 (n : Nat × Nat) (m1 : Nat) : St → Option R76 := fun s => normC [0, 1, 7, 8, 9] s (loopN (fun _ => (kq76_7 n m1)) n.2)
noncomputable def xb76_9 (n : Nat × Nat) (m1 : Nat) : Nat → St → Option R76 := fun j s => bif Nat.beq j 1 then normC [0, 1, 7, 8, 9] s (loopN (fun _ => (kq76_7 n m1)) n.2) else (xb76_3 n) j s
noncomputable def kc76_10 (n : Nat × Nat) (m1 : Nat) : St → Option R76 := fun s => normC [0, 1, 7, 8, 9] s (kc76_8 n m1)
noncomputable def L76_1 (n : Nat × Nat) (m : Nat) (sheets0 : List (Int × Int)) (machine1 : Int) (h7 : Int) (v8 : Int) (i9 : Int) : Option R76 := loopN (F76_4 n) m { tm := [.c (.sl (.pair (.int .i64) (.int .i64)) sheets0 false), .c (.int .i64 machine1), uu, uu, uu, uu, uu, .c (.int .i64 h7), .c (.int .i64 v8), .c (.int .i64 i9), uu, uu, uu, uu, uu, uu, uu, uu, uu, uu, uu, uu, uu, uu, uu, uu, uu, uu, uu, uu, uu, uu, uu, uu, uu, uu, uu, uu, uu, uu, uu, uu, uu, uu, uu, uu, uu, uu, uu, uu, uu, uu, uu, uu], hp := emp }
noncomputable def L76_2 (n : Nat × Nat) (m1 : Nat) (sheets0 : List (Int × Int)) (machine1 : Int) (h7 : Int) (v8 : Int) (i9 : Int) : Option R76 := loopN (fun _ => (kq76_7 n m1)) n.2 { tm := [.c (.sl (.pair (.int .i64) (.int .i64)) sheets0 false), .c (.int .i64 machine1), uu, uu, uu, uu, uu, .c (.int .i64 h7), .c (.int .i64 v8), .c (.int .i64 i9), uu, uu, uu, uu, uu, uu, uu, uu, uu, uu, uu, uu, uu, uu, uu, uu, uu, uu, uu, uu, uu, uu, uu, uu, uu, uu, uu, uu, uu, uu, uu, uu, uu, uu, uu, uu, uu, uu, uu, uu, uu, uu, uu, uu], hp := emp }
theorem L76_1_eq (n : Nat × Nat) (m1 : Nat) (sheets0 : List (Int × Int)) (machine1 : Int) (h7 : Int) (v8 : Int) (i9 : Int) : L76_1 n (m1 + 1) sheets0 machine1 h7 v8 i9 =
    (bif decide (i9 < (sheets0.length : Int)) then (idx sheets0 i9).bind fun x3' =>
      (S91 n x3' machine1).bind fun r4' =>
      (bif decide (r4' < h7) then (idx sheets0 i9).bind fun x5' =>
        (idx sheets0 i9).bind fun x6' =>
        L76_2 n m1 sheets0 machine1 h7 (wr .i64 (v8 + (if x6'.2 < x5'.1 then x6'.2 else x5'.1))) i9
      else (idx sheets0 i9).bind fun x7' =>
        (S91 n x7' (wr .i64 (1 - machine1))).bind fun r8' =>
        L76_2 n m1 sheets0 machine1 h7 (wr .i64 (v8 + r8')) i9)
    else some v8) := by kernel_rfl
theorem L76_2_raw (n : Nat × Nat) (m1 : Nat) (sheets0 : List (Int × Int)) (machine1 : Int) (h7 : Int) (v8 : Int) (i9 : Int) : (kq76_7 n m1) { tm := [.c (.sl (.pair (.int .i64) (.int .i64)) sheets0 false), .c (.int .i64 machine1), uu, uu, uu, uu, uu, .c (.int .i64 h7), .c (.int .i64 v8), .c (.int .i64 i9), uu, uu, uu, uu, uu, uu, uu, uu, uu, uu, uu, uu, uu, uu, uu, uu, uu, uu, uu, uu, uu, uu, uu, uu, uu, uu, uu, uu, uu, uu, uu, uu, uu, uu, uu, uu, uu, uu, uu, uu, uu, uu, uu, uu], hp := emp } =
    L76_1 n m1 sheets0 machine1 h7 v8 (wr .i64 (i9 + 1)) := by kernel_rfl
noncomputable def S76 (n : Nat × Nat) (sheets0 : List (Int × Int)) (machine1 : Int) (k2 : Int) : Option R76 := run (E76 n) c76 an76 rt76 (fun _ _ => none) rt76 { tm := [.c (.sl (.pair (.int .i64) (.int .i64)) sheets0 false), .c (.int .i64 machine1), .c (.int .i64 k2), uu, uu, uu, uu, uu, uu, uu, uu, uu, uu, uu, uu, uu, uu, uu, uu, uu, uu, uu, uu, uu, uu, uu, uu, uu, uu, uu, uu, uu, uu, uu, uu, uu, uu, uu, uu, uu, uu, uu, uu, uu, uu, uu, uu, uu, uu, uu, uu, uu, uu, uu], hp := emp }
theorem S76_eq (n : Nat × Nat) (sheets0 : List (Int × Int)) (machine1 : Int) (k2 : Int) : S76 n sheets0 machine1 k2 =
    (idx sheets0 k2).bind fun x1' =>
    (S91 n x1' machine1).bind fun r2' =>
    L76_1 n n.1 sheets0 machine1 r2' r2' 0 := by kernel_rfl
theorem S76_run (n : Nat × Nat) (xs : pksDen pk76) : S76 n xs.1 xs.2.1 xs.2.2.1 = runG (E76 n) noScope c76 an76 (rtG rk76) (fun _ _ => none) (rtG rk76) (st0 pk76 xs Try.f76.ntmps) := by kernel_rfl
noncomputable def P76 (n : Nat × Nat) := phiOf pk76 rk76 (fun xs => S76 n xs.1 xs.2.1 xs.2.2.1)
theorem call76 : CallOK Try.prog 76 := callOK_of Try.func76 (by kernel_rfl) (by kernel_rfl)
theorem env76 (n : Nat × Nat) : EnvOK Try.prog (E76 n) := envOK0 (consPhi_ok (FC91 n) call91 noPhi_ok) rfl rfl
theorem par76 (n : Nat × Nat) : EnvPar (E76 n) := envPar0 (consPhi_par phiOf_Par1 noPhi_par) rfl
theorem FC76 (n : Nat × Nat) : FCs Try.prog 76 (P76 n) := phiOf_FCs fun xs r h vs hv => FC.of_runG tabOK eqsOK (env76 n) (par76 n) mixed (fun _ => noScope_ok) Try.func76 (c := c76) (an := an76) (pks := pk76) (rks := rk76) (by kernel_rfl) (by kernel_rfl) hv ((S76_run n xs).symm.trans h)
abbrev R36 := Int × Int
noncomputable def c36 : Code := bodyOf Try.f36
noncomputable def an36 : Ann := (.s .l (.s .l (.s (.s .l (.j [0, 1, 2, 8] .l .l)) (.s (.s .l (.j [0, 1, 2] .l .l)) .l))))
def pk36 : List PK := [.c (.sl (.pair (.int .i64) (.int .i64))), .c (.int .i64), .c (.int .i64)]
def rk36 : List RK := [.c (.int .i64) 6, .c (.int .i64) 7]
noncomputable def rt36 (st : St) : Option R36 := rtG rk36 st
noncomputable def E36 (n : Nat × Nat) : Env := { T := tab, phi := (consPhi 26 (fun _ => true) (P26 n) (consPhi 68 (fun _ => true) (P68 n) (consPhi 76 (fun _ => true) (P76 n) noPhi))), eff := fun _ => false, fuel := n.1, hold := n.2 }
noncomputable def kq36_1 (n : Nat × Nat) : St → Option R36 := run (E36 n) (cB (cB (cB c36))) (Ann.snd (Ann.snd (Ann.snd an36))) rt36 (fun _ _ => none) rt36
noncomputable def kc36_2 (n : Nat × Nat) : St → Option R36 := fun s => normC [0, 1, 2, 8] s (kq36_1 n)
noncomputable def kq36_3 (n : Nat × Nat) : St → Option R36 := run (E36 n) (cB (cB (cB (cB c36)))) (Ann.snd (Ann.snd (Ann.snd (Ann.snd an36)))) rt36 (fun _ _ => none) rt36
noncomputable def kc36_4 (n : Nat × Nat) : St → Option R36 := fun s => normC [0, 1, 2] s (kq36_3 n)
noncomputable def S36 (n : Nat × Nat) (sheets0 : List (Int × Int)) (machine1 : Int) (k2 : Int) : Option R36 := run (E36 n) c36 an36 rt36 (fun _ _ => none) rt36 { tm := [.c (.sl (.pair (.int .i64) (.int .i64)) sheets0 false), .c (.int .i64 machine1), .c (.int .i64 k2), uu, uu, uu, uu, uu, uu, uu, uu, uu, uu, uu, uu, uu, uu, uu, uu, uu, uu, uu, uu, uu, uu, uu, uu, uu, uu, uu, uu, uu, uu], hp := emp }
theorem S36_eq (n : Nat × Nat) (sheets0 : List (Int × Int)) (machine1 : Int) (k2 : Int) : S36 n sheets0 machine1 k2 =
    (S26 n sheets0).bind fun r1' =>
    ((bif ((r1' == 0) == true) then (S68 n machine1 0 1).bind fun r2' =>
        ((bif ((!r2') == false) then (S68 n k2 0 (wr .i64 ((sheets0.length : Int) - 1))).bind fun r3' =>
            some (!r3')
          else some true)).bind fun b4' =>
        some b4'
      else some false)).bind fun b5' =>
    (bif b5' then (bif (2 != 0) then some (0, 2)
      else (S76 n sheets0 machine1 k2).bind fun r6' =>
        some (r6', 0))
    else (bif (r1' != 0) then some (0, r1')
      else (S76 n sheets0 machine1 k2).bind fun r7' =>
        some (r7', 0))) := by kernel_rfl
theorem S36_run (n : Nat × Nat) (xs : pksDen pk36) : S36 n xs.1 xs.2.1 xs.2.2.1 = runG (E36 n) noScope c36 an36 (rtG rk36) (fun _ _ => none) (rtG rk36) (st0 pk36 xs Try.f36.ntmps) := by kernel_rfl
noncomputable def P36 (n : Nat × Nat) := phiOf pk36 rk36 (fun xs => S36 n xs.1 xs.2.1 xs.2.2.1)
theorem call36 : CallOK Try.prog 36 := callOK_of Try.func36 (by kernel_rfl) (by kernel_rfl)
theorem env36 (n : Nat × Nat) : EnvOK Try.prog (E36 n) := envOK0 (consPhi_ok (FC26 n) call26 (consPhi_ok (FC68 n) call68 (consPhi_ok (FC76 n) call76 noPhi_ok))) rfl rfl
theorem par36 (n : Nat × Nat) : EnvPar (E36 n) := envPar0 (consPhi_par phiOf_Par1 (consPhi_par phiOf_Par1 (consPhi_par phiOf_Par1 noPhi_par))) rfl
theorem FC36 (n : Nat × Nat) : FCs Try.prog 36 (P36 n) := phiOf_FCs fun xs r h vs hv => FC.of_runG tabOK eqsOK (env36 n) (par36 n) mixed (fun _ => noScope_ok) Try.func36 (c := c36) (an := an36) (pks := pk36) (rks := rk36) (by kernel_rfl) (by kernel_rfl) hv ((S36_run n xs).symm.trans h)
/-D 91 -/
noncomputable def D91 (n : Nat × Nat) (s0 : Int × Int) (machine1 : Int) : Option R91 :=
    (bif (machine1 == 0) then some s0.1
    else some s0.2)
theorem S91_D (n : Nat × Nat) (hn : n.2 = 1) : S91 n = D91 n := by
  funext s0 machine1; refine (S91_eq n s0 machine1).trans ?_
  unfold D91
  first | with_reducible rfl | rfl
/-D 76 -/
noncomputable def DL76_2 (n : Nat × Nat) (f1 : (List (Int × Int)) → Int → Int → Int → Int → Option R76) (sheets0 : List (Int × Int)) (machine1 : Int) (h7 : Int) (v8 : Int) (i9 : Int) : Option R76 :=
    f1 sheets0 machine1 h7 v8 (wr .i64 (i9 + 1))
theorem DL76_2_eq (n : Nat × Nat) (hn : n.2 = 1) (m1 : Nat) : L76_2 n m1 = DL76_2 n (L76_1 n m1) := by
  funext sheets0 machine1 h7 v8 i9; refine ((held_eq hn _).trans (L76_2_raw n m1 sheets0 machine1 h7 v8 i9)).trans ?_
  unfold DL76_2
  (try simp only [S91_D n hn]) <;> first | with_reducible rfl | rfl
noncomputable def DF76_1 (n : Nat × Nat) (f1 : (List (Int × Int)) → Int → Int → Int → Int → Option R76) (sheets0 : List (Int × Int)) (machine1 : Int) (h7 : Int) (v8 : Int) (i9 : Int) : Option R76 :=
    (bif decide (i9 < (sheets0.length : Int)) then (idx sheets0 i9).bind fun x3' =>
      (D91 n x3' machine1).bind fun r4' =>
      (bif decide (r4' < h7) then (idx sheets0 i9).bind fun x5' =>
        (idx sheets0 i9).bind fun x6' =>
        DL76_2 n f1 sheets0 machine1 h7 (wr .i64 (v8 + (if x6'.2 < x5'.1 then x6'.2 else x5'.1))) i9
      else (idx sheets0 i9).bind fun x7' =>
        (D91 n x7' (wr .i64 (1 - machine1))).bind fun r8' =>
        DL76_2 n f1 sheets0 machine1 h7 (wr .i64 (v8 + r8')) i9)
    else some v8)
noncomputable def DL76_1 (n : Nat × Nat) (m : Nat) : (List (Int × Int)) → Int → Int → Int → Int → Option R76 := Nat.rec (motive := fun _ => (List (Int × Int)) → Int → Int → Int → Int → Option R76) (fun _ _ _ _ _ => none) (fun _ ih => DF76_1 n ih) m
theorem DL76_1_succ (n : Nat × Nat) (m : Nat) : DL76_1 n (m + 1) = DF76_1 n (DL76_1 n m) := rfl
theorem DL76_1_eq (n : Nat × Nat) (hn : n.2 = 1) : ∀ m, L76_1 n m = DL76_1 n m
  | 0 => by funext sheets0 machine1 h7 v8 i9; kernel_rfl
  | m + 1 => by
    have ih := DL76_1_eq n hn m
    funext sheets0 machine1 h7 v8 i9; refine (L76_1_eq n m sheets0 machine1 h7 v8 i9).trans ?_
    rw [DL76_1_succ]
    unfold DF76_1
    (try simp only [ih, DL76_2_eq n hn, S91_D n hn]) <;> first | with_reducible rfl | rfl
noncomputable def D76 (n : Nat × Nat) (sheets0 : List (Int × Int)) (machine1 : Int) (k2 : Int) : Option R76 :=
    (idx sheets0 k2).bind fun x1' =>
    (D91 n x1' machine1).bind fun r2' =>
    DL76_1 n n.1 sheets0 machine1 r2' r2' 0
theorem S76_D (n : Nat × Nat) (hn : n.2 = 1) : S76 n = D76 n := by
  funext sheets0 machine1 k2; refine (S76_eq n sheets0 machine1 k2).trans ?_
  unfold D76
  (try simp only [DL76_2_eq n hn, DL76_1_eq n hn, S91_D n hn]) <;> first | with_reducible rfl | rfl
/-D 36 -/
noncomputable def D36 (n : Nat × Nat) (sheets0 : List (Int × Int)) (machine1 : Int) (k2 : Int) : Option R36 :=
    (D26 n sheets0).bind fun r1' =>
    ((bif ((r1' == 0) == true) then (D68 n machine1 0 1).bind fun r2' =>
        ((bif ((!r2') == false) then (D68 n k2 0 (wr .i64 ((sheets0.length : Int) - 1))).bind fun r3' =>
            some (!r3')
          else some true)).bind fun b4' =>
        some b4'
      else some false)).bind fun b5' =>
    (bif b5' then (bif (2 != 0) then some (0, 2)
      else (D76 n sheets0 machine1 k2).bind fun r6' =>
        some (r6', 0))
    else (bif (r1' != 0) then some (0, r1')
      else (D76 n sheets0 machine1 k2).bind fun r7' =>
        some (r7', 0)))
theorem S36_D (n : Nat × Nat) (hn : n.2 = 1) : S36 n = D36 n := by
  funext sheets0 machine1 k2; refine (S36_eq n sheets0 machine1 k2).trans ?_
  unfold D36
  (try simp only [S26_D n hn, S68_D n hn, S76_D n hn]) <;> first | with_reducible rfl | rfl
abbrev R38 := Int × Int × Int
noncomputable def c38 : Code := bodyOf Try.f38
noncomputable def an38 : Ann := (.s .l (.s .l (.s (.s .l (.j [0, 5] .l .l)) (.s (.s .l (.j [] (.j [0, 5, 7] (.s (.s .l (.j [0, 5, 7] .l .l)) (.s (.j [0, 5, 7] (.s .l (.j [0, 5, 7] (.j [0, 5, 7, 8] (.s (.s .l (.j [0, 5, 7, 8] .l .l)) (.s (.j [0, 5, 7, 8] (.s .l (.j [0, 5, 7, 8] .l .l)) .l) .l)) .l) .l)) .l) .l)) .l) .l)) .l))))
def pk38 : List PK := [.c (.sl (.pair (.int .i64) (.int .i64)))]
def rk38 : List RK := [.c (.int .i64) 2, .c (.int .i64) 3, .c (.int .i64) 4]
noncomputable def rt38 (st : St) : Option R38 := rtG rk38 st
noncomputable def E38 (n : Nat × Nat) : Env := { T := tab, phi := (consPhi 28 (fun _ => true) (P28 n) (consPhi 62 (fun _ => true) (P62 n) (consPhi 76 (fun _ => true) (P76 n) noPhi))), eff := fun _ => false, fuel := n.1, hold := n.2 }
noncomputable def kq38_1 (n : Nat × Nat) : St → Option R38 := run (E38 n) (cB (cB (cB c38))) (Ann.snd (Ann.snd (Ann.snd an38))) rt38 (fun _ _ => none) rt38
noncomputable def kc38_2 (n : Nat × Nat) : St → Option R38 := fun s => normC [0, 5] s (kq38_1 n)
noncomputable def kq38_3 (n : Nat × Nat) : St → Option R38 := run (E38 n) (cB (cB (cB (cB c38)))) (Ann.snd (Ann.snd (Ann.snd (Ann.snd an38)))) rt38 (fun _ _ => none) rt38
noncomputable def kc38_4 (n : Nat × Nat) : St → Option R38 := fun s => normC [] s (kq38_3 n)
noncomputable def xb38_5 (n : Nat × Nat) : Nat → St → Option R38 := fun j s => bif Nat.beq j 0 then normC [] s (kq38_3 n) else (fun _ _ => none) j s
noncomputable def F38_6 (n : Nat × Nat) : (St → Option R38) → St → Option R38 := fun K s => run (E38 n) (cA (cA (cB (cA (cB (cB (cB c38))))))) (Ann.fst (Ann.fst (Ann.snd (Ann.fst (Ann.snd (Ann.snd (Ann.snd an38))))))) (fun s => normC [0, 5, 7] s K) (xb38_5 n) rt38 s
noncomputable def kq38_7 (n : Nat × Nat) (m1 : Nat) : St → Option R38 := run (E38 n) (cB (cA (cA (cB (cA (cB (cB (cB c38)))))))) (Ann.snd (Ann.fst (Ann.fst (Ann.snd (Ann.fst (Ann.snd (Ann.snd (Ann.snd an38)))))))) (fun s => normC [0, 5, 7] s (loopN (F38_6 n) m1)) (xb38_5 n) rt38
noncomputable def kc38_8 (n : Nat × Nat) (m1 : Nat) : St → Option R38 := fun s => normC [0, 5, 7] s (kq38_7 n m1)
noncomputable def kq38_9 (n : Nat × Nat) (m1 : Nat) : St → Option R38 := run (E38 n) (cB (cB (cA (cA (cB (cA (cB (cB (cB c38))))))))) (Ann.snd (Ann.snd (Ann.fst (Ann.fst (Ann.snd (Ann.fst (Ann.snd (Ann.snd (Ann.snd an38))))))))) (fun s => normC [0, 5, 7] s (loopN (F38_6 n) m1)) (xb38_5 n) rt38
noncomputable def kc38_10 (n : Nat × Nat) (m1 : Nat) : St → Option R38 := fun s => normC [0, 5, 7] s (kq38_9 n m1)
noncomputable def xb38_11 (n : Nat × Nat) (m1 : Nat) : Nat → St → Option R38 := fun j s => bif Nat.beq j 1 then normC [0, 5, 7] s (kq38_9 n m1) else (xb38_5 n) j s
noncomputable def kc38_12 (n : Nat × Nat) (m1 : Nat) : St → Option R38 := fun s => normC [0, 5, 7] s (kc38_10 n m1)
noncomputable def xb38_13 (n : Nat × Nat) (m1 : Nat) : Nat → St → Option R38 := fun j s => bif Nat.beq j 2 then normC [0, 5, 7] s (kc38_10 n m1) else (xb38_11 n m1) j s
noncomputable def F38_14 (n : Nat × Nat) (m1 : Nat) : (St → Option R38) → St → Option R38 := fun K s => run (E38 n) (cA (cA (cB (cA (cA (cB (cA (cA (cB (cA (cB (cB (cB c38))))))))))))) (Ann.fst (Ann.fst (Ann.snd (Ann.fst (Ann.fst (Ann.snd (Ann.fst (Ann.fst (Ann.snd (Ann.fst (Ann.snd (Ann.snd (Ann.snd an38))))))))))))) (fun s => normC [0, 5, 7, 8] s K) (xb38_13 n m1) rt38 s
noncomputable def kq38_15 (n : Nat × Nat) (m1 m2 : Nat) : St → Option R38 := run (E38 n) (cB (cA (cA (cB (cA (cA (cB (cA (cA (cB (cA (cB (cB (cB c38)))))))))))))) (Ann.snd (Ann.fst (Ann.fst (Ann.snd (Ann.fst (Ann.fst (Ann.snd (Ann.fst (Ann.fst (Ann.snd (Ann.fst (Ann.snd (Ann.snd (Ann.snd an38)))))))))))))) (fun s => normC [0, 5, 7, 8] s (loopN (F38_14 n m1) m2)) (xb38_13 n m1) rt38
noncomputable def kc38_16 (n : Nat × Nat) (m1 m2 : Nat) : St → Option R38 := fun s => normC [0, 5, 7, 8] s (kq38_15 n m1 m2)
noncomputable def kq38_17 (n : Nat × Nat) (m1 m2 : Nat) : St → Option R38 := run (E38 n) (cB (cB (cA (cA (cB (cA (cA (cB (cA (cA (cB (cA (cB (cB (cB c38))))))))))))))) (Ann.snd (Ann.snd (Ann.fst (Ann.fst (Ann.snd (Ann.fst (Ann.fst (Ann.snd (Ann.fst (Ann.fst (Ann.snd (Ann.fst (Ann.snd (Ann.snd (Ann.snd an38))))))))))))))) (fun s => normC [0, 5, 7, 8] s (loopN (F38_14 n m1) m2)) (xb38_13 n m1) rt38
noncomputable def kc38_18 (n : Nat × Nat) (m1 m2 : Nat) : St → Option R38 := fun s => normC [0, 5, 7, 8] s (kq38_17 n m1 m2)
noncomputable def xb38_19 (n : Nat × Nat) (m1 m2 : Nat) : Nat → St → Option R38 := fun j s => bif Nat.beq j 3 then normC [0, 5, 7, 8] s (kq38_17 n m1 m2) else (xb38_13 n m1) j s
noncomputable def kc38_20 (n : Nat × Nat) (m1 m2 : Nat) : St → Option R38 := fun s => normC [0, 5, 7, 8] s (kc38_18 n m1 m2)
noncomputable def L38_1 (n : Nat × Nat) (m : Nat) (sheets0 : List (Int × Int)) (machine7 : Int) (r5 : List Int) : Option R38 := loopN (F38_6 n) m { tm := [.c (.sl (.pair (.int .i64) (.int .i64)) sheets0 false), uu, uu, uu, uu, .own 5 none false, uu, .c (.int .i64 machine7), uu, uu, uu, uu, uu, uu, uu, uu, uu, uu, uu, uu, uu, uu, uu, uu, uu, uu, uu, uu, uu, uu, uu, uu, uu, uu, uu, uu, uu], hp := (upd emp 5 (.arr (.int .i64) r5 false)) }
noncomputable def L38_2 (n : Nat × Nat) (m1 : Nat) (m : Nat) (sheets0 : List (Int × Int)) (machine7 : Int) (k8 : Int) (r5 : List Int) : Option R38 := loopN (F38_14 n m1) m { tm := [.c (.sl (.pair (.int .i64) (.int .i64)) sheets0 false), uu, uu, uu, uu, .own 5 none false, uu, .c (.int .i64 machine7), .c (.int .i64 k8), uu, uu, uu, uu, uu, uu, uu, uu, uu, uu, uu, uu, uu, uu, uu, uu, uu, uu, uu, uu, uu, uu, uu, uu, uu, uu, uu, uu], hp := (upd emp 5 (.arr (.int .i64) r5 false)) }
theorem L38_1_eq (n : Nat × Nat) (m1 : Nat) (sheets0 : List (Int × Int)) (machine7 : Int) (r5 : List Int) : L38_1 n (m1 + 1) sheets0 machine7 r5 =
    (bif decide (machine7 < 2) then L38_2 n m1 n.1 sheets0 machine7 0 r5
    else some (0, 0, 14)) := by kernel_rfl
theorem L38_2_eq (n : Nat × Nat) (m1 m2 : Nat) (sheets0 : List (Int × Int)) (machine7 : Int) (k8 : Int) (r5 : List Int) : L38_2 n m1 (m2 + 1) sheets0 machine7 k8 r5 =
    (bif decide (k8 < (sheets0.length : Int)) then (S76 n sheets0 machine7 k8).bind fun r2' =>
      (S62 n sheets0 r5).bind fun r3' =>
      (bif (r2' == r3') then some (machine7, k8, 0)
      else L38_2 n m1 m2 sheets0 machine7 (wr .i64 (k8 + 1)) r5)
    else L38_1 n m1 sheets0 (wr .i64 (machine7 + 1)) r5) := by kernel_rfl
noncomputable def S38 (n : Nat × Nat) (sheets0 : List (Int × Int)) : Option R38 := run (E38 n) c38 an38 rt38 (fun _ _ => none) rt38 { tm := [.c (.sl (.pair (.int .i64) (.int .i64)) sheets0 false), uu, uu, uu, uu, uu, uu, uu, uu, uu, uu, uu, uu, uu, uu, uu, uu, uu, uu, uu, uu, uu, uu, uu, uu, uu, uu, uu, uu, uu, uu, uu, uu, uu, uu, uu, uu], hp := emp }
theorem S38_eq (n : Nat × Nat) (sheets0 : List (Int × Int)) : S38 n sheets0 =
    (S28 n sheets0).bind fun r1' =>
    (bif (r1'.2 != 0) then some (0, 0, r1'.2)
    else L38_1 n n.1 sheets0 0 r1'.1) := by kernel_rfl
theorem S38_run (n : Nat × Nat) (xs : pksDen pk38) : S38 n xs.1 = runG (E38 n) noScope c38 an38 (rtG rk38) (fun _ _ => none) (rtG rk38) (st0 pk38 xs Try.f38.ntmps) := by kernel_rfl
noncomputable def P38 (n : Nat × Nat) := phiOf pk38 rk38 (fun xs => S38 n xs.1)
theorem call38 : CallOK Try.prog 38 := callOK_of Try.func38 (by kernel_rfl) (by kernel_rfl)
theorem env38 (n : Nat × Nat) : EnvOK Try.prog (E38 n) := envOK0 (consPhi_ok (FC28 n) call28 (consPhi_ok (FC62 n) call62 (consPhi_ok (FC76 n) call76 noPhi_ok))) rfl rfl
theorem par38 (n : Nat × Nat) : EnvPar (E38 n) := envPar0 (consPhi_par phiOf_Par1 (consPhi_par phiOf_Par1 (consPhi_par phiOf_Par1 noPhi_par))) rfl
theorem FC38 (n : Nat × Nat) : FCs Try.prog 38 (P38 n) := phiOf_FCs fun xs r h vs hv => FC.of_runG tabOK eqsOK (env38 n) (par38 n) mixed (fun _ => noScope_ok) Try.func38 (c := c38) (an := an38) (pks := pk38) (rks := rk38) (by kernel_rfl) (by kernel_rfl) hv ((S38_run n xs).symm.trans h)
/-D 38 -/
noncomputable def DF38_2 (n : Nat × Nat) (f1 : (List (Int × Int)) → Int → List Int → Option R38) (f2 : (List (Int × Int)) → Int → Int → List Int → Option R38) (sheets0 : List (Int × Int)) (machine7 : Int) (k8 : Int) (r5 : List Int) : Option R38 :=
    (bif decide (k8 < (sheets0.length : Int)) then (D76 n sheets0 machine7 k8).bind fun r2' =>
      (D62 n sheets0 r5).bind fun r3' =>
      (bif (r2' == r3') then some (machine7, k8, 0)
      else f2 sheets0 machine7 (wr .i64 (k8 + 1)) r5)
    else f1 sheets0 (wr .i64 (machine7 + 1)) r5)
noncomputable def DL38_2 (n : Nat × Nat) (f1 : (List (Int × Int)) → Int → List Int → Option R38) (m : Nat) : (List (Int × Int)) → Int → Int → List Int → Option R38 := Nat.rec (motive := fun _ => (List (Int × Int)) → Int → Int → List Int → Option R38) (fun _ _ _ _ => none) (fun _ ih => DF38_2 n f1 ih) m
theorem DL38_2_succ (n : Nat × Nat) (f1 : (List (Int × Int)) → Int → List Int → Option R38) (m : Nat) : DL38_2 n f1 (m + 1) = DF38_2 n f1 (DL38_2 n f1 m) := rfl
theorem DL38_2_eq (n : Nat × Nat) (hn : n.2 = 1) (m1 : Nat) : ∀ m, L38_2 n m1 m = DL38_2 n (L38_1 n m1) m
  | 0 => by funext sheets0 machine7 k8 r5; kernel_rfl
  | m + 1 => by
    have ih := DL38_2_eq n hn m1 m
    funext sheets0 machine7 k8 r5; refine (L38_2_eq n m1 m sheets0 machine7 k8 r5).trans ?_
    rw [DL38_2_succ]
    unfold DF38_2
    (try simp only [ih, S28_D n hn, S62_D n hn, S76_D n hn]) <;> first | with_reducible rfl | rfl
noncomputable def DF38_1 (n : Nat × Nat) (f1 : (List (Int × Int)) → Int → List Int → Option R38) (sheets0 : List (Int × Int)) (machine7 : Int) (r5 : List Int) : Option R38 :=
    (bif decide (machine7 < 2) then DL38_2 n f1 n.1 sheets0 machine7 0 r5
    else some (0, 0, 14))
noncomputable def DL38_1 (n : Nat × Nat) (m : Nat) : (List (Int × Int)) → Int → List Int → Option R38 := Nat.rec (motive := fun _ => (List (Int × Int)) → Int → List Int → Option R38) (fun _ _ _ => none) (fun _ ih => DF38_1 n ih) m
theorem DL38_1_succ (n : Nat × Nat) (m : Nat) : DL38_1 n (m + 1) = DF38_1 n (DL38_1 n m) := rfl
theorem DL38_1_eq (n : Nat × Nat) (hn : n.2 = 1) : ∀ m, L38_1 n m = DL38_1 n m
  | 0 => by funext sheets0 machine7 r5; kernel_rfl
  | m + 1 => by
    have ih := DL38_1_eq n hn m
    funext sheets0 machine7 r5; refine (L38_1_eq n m sheets0 machine7 r5).trans ?_
    rw [DL38_1_succ]
    unfold DF38_1
    (try simp only [ih, DL38_2_eq n hn, S28_D n hn, S62_D n hn, S76_D n hn]) <;> first | with_reducible rfl | rfl
noncomputable def D38 (n : Nat × Nat) (sheets0 : List (Int × Int)) : Option R38 :=
    (D28 n sheets0).bind fun r1' =>
    (bif (r1'.2 != 0) then some (0, 0, r1'.2)
    else DL38_1 n n.1 sheets0 0 r1'.1)
theorem S38_D (n : Nat × Nat) (hn : n.2 = 1) : S38 n = D38 n := by
  funext sheets0; refine (S38_eq n sheets0).trans ?_
  unfold D38
  (try simp only [DL38_2_eq n hn, DL38_1_eq n hn, S28_D n hn, S62_D n hn, S76_D n hn]) <;> first | with_reducible rfl | rfl
abbrev R40 := (List (Int × Int)) × Int
noncomputable def c40 : Code := bodyOf Try.f40
noncomputable def an40 : Ann := (.s .l (.s .l (.s (.s .l (.j [0] .l .l)) (.s .l (.s (.s .l (.j [5] (.j [0, 5, 6] (.s (.s .l (.j [0, 5, 6] .l .l)) (.s (.j [0, 5, 6] .l .l) .l)) .l) .l)) .l)))))
def pk40 : List PK := [.c (.sl (.pair (.int .i64) (.int .i64)))]
def rk40 : List RK := [.own (.pair (.int .i64) (.int .i64)) 2, .c (.int .i64) 3]
noncomputable def rt40 (st : St) : Option R40 := rtG rk40 st
noncomputable def E40 (n : Nat × Nat) : Env := { T := tab, phi := (consPhi 26 (fun _ => true) (P26 n) noPhi), eff := fun _ => false, fuel := n.1, hold := n.2 }
noncomputable def kq40_1 (n : Nat × Nat) : St → Option R40 := run (E40 n) (cB (cB (cB c40))) (Ann.snd (Ann.snd (Ann.snd an40))) rt40 (fun _ _ => none) rt40
noncomputable def kc40_2 (n : Nat × Nat) : St → Option R40 := fun s => normC [0] s (kq40_1 n)
noncomputable def kq40_3 (n : Nat × Nat) : St → Option R40 := run (E40 n) (cB (cB (cB (cB (cB c40))))) (Ann.snd (Ann.snd (Ann.snd (Ann.snd (Ann.snd an40))))) rt40 (fun _ _ => none) rt40
noncomputable def kc40_4 (n : Nat × Nat) : St → Option R40 := fun s => normC [5] s (kq40_3 n)
noncomputable def xb40_5 (n : Nat × Nat) : Nat → St → Option R40 := fun j s => bif Nat.beq j 0 then normC [5] s (kq40_3 n) else (fun _ _ => none) j s
noncomputable def F40_6 (n : Nat × Nat) : (St → Option R40) → St → Option R40 := fun K s => run (E40 n) (cA (cA (cB (cA (cB (cB (cB (cB c40)))))))) (Ann.fst (Ann.fst (Ann.snd (Ann.fst (Ann.snd (Ann.snd (Ann.snd (Ann.snd an40)))))))) (fun s => normC [0, 5, 6] s K) (xb40_5 n) rt40 s
noncomputable def kq40_7 (n : Nat × Nat) (m1 : Nat) : St → Option R40 := run (E40 n) (cB (cA (cA (cB (cA (cB (cB (cB (cB c40))))))))) (Ann.snd (Ann.fst (Ann.fst (Ann.snd (Ann.fst (Ann.snd (Ann.snd (Ann.snd (Ann.snd an40))))))))) (fun s => normC [0, 5, 6] s (loopN (F40_6 n) m1)) (xb40_5 n) rt40
noncomputable def kc40_8 (n : Nat × Nat) (m1 : Nat) : St → Option R40 := fun s => normC [0, 5, 6] s (kq40_7 n m1)
noncomputable def kq40_9 (n : Nat × Nat) (m1 : Nat) : St → Option R40 := run (E40 n) (cB (cB (cA (cA (cB (cA (cB (cB (cB (cB c40)))))))))) (Ann.snd (Ann.snd (Ann.fst (Ann.fst (Ann.snd (Ann.fst (Ann.snd (Ann.snd (Ann.snd (Ann.snd an40)))))))))) (fun s => normC [0, 5, 6] s (loopN (F40_6 n) m1)) (xb40_5 n) rt40
noncomputable def kc40_10 (n : Nat × Nat) (m1 : Nat) : St → Option R40 := fun s => normC [0, 5, 6] s (kq40_9 n m1)
noncomputable def xb40_11 (n : Nat × Nat) (m1 : Nat) : Nat → St → Option R40 := fun j s => bif Nat.beq j 1 then normC [0, 5, 6] s (kq40_9 n m1) else (xb40_5 n) j s
noncomputable def L40_1 (n : Nat × Nat) (m : Nat) (sheets0 : List (Int × Int)) (i6 : Int) (out5 : List (Int × Int)) : Option R40 := loopN (F40_6 n) m { tm := [.c (.sl (.pair (.int .i64) (.int .i64)) sheets0 false), uu, uu, uu, uu, .own 5 none false, .c (.int .i64 i6), uu, uu, uu, uu, uu, uu, uu, uu, uu, uu, uu, uu, uu, uu, uu, uu, uu, uu, uu, uu, uu, uu, uu, uu, uu, uu, uu], hp := (upd emp 5 (.arr (.pair (.int .i64) (.int .i64)) out5 true)) }
theorem L40_1_eq (n : Nat × Nat) (m1 : Nat) (sheets0 : List (Int × Int)) (i6 : Int) (out5 : List (Int × Int)) : L40_1 n (m1 + 1) sheets0 i6 out5 =
    (bif decide (i6 ≥ 0) then (idx sheets0 i6).bind fun x2' =>
      (idx sheets0 i6).bind fun x3' =>
      (bif decide (out5.length + [(x2'.2, x3'.1)].length ≤ lim) then L40_1 n m1 sheets0 (wr .i64 (i6 - 1)) (out5 ++ [(x2'.2, x3'.1)])
      else none)
    else some (out5, 0)) := by kernel_rfl
noncomputable def S40 (n : Nat × Nat) (sheets0 : List (Int × Int)) : Option R40 := run (E40 n) c40 an40 rt40 (fun _ _ => none) rt40 { tm := [.c (.sl (.pair (.int .i64) (.int .i64)) sheets0 false), uu, uu, uu, uu, uu, uu, uu, uu, uu, uu, uu, uu, uu, uu, uu, uu, uu, uu, uu, uu, uu, uu, uu, uu, uu, uu, uu, uu, uu, uu, uu, uu, uu], hp := emp }
theorem S40_eq (n : Nat × Nat) (sheets0 : List (Int × Int)) : S40 n sheets0 =
    (S26 n sheets0).bind fun r1' =>
    (bif (r1' != 0) then some ([], r1')
    else L40_1 n n.1 sheets0 (wr .i64 ((sheets0.length : Int) - 1)) []) := by kernel_rfl
theorem S40_run (n : Nat × Nat) (xs : pksDen pk40) : S40 n xs.1 = runG (E40 n) noScope c40 an40 (rtG rk40) (fun _ _ => none) (rtG rk40) (st0 pk40 xs Try.f40.ntmps) := by kernel_rfl
noncomputable def P40 (n : Nat × Nat) := phiOf pk40 rk40 (fun xs => S40 n xs.1)
theorem call40 : CallOK Try.prog 40 := callOK_of Try.func40 (by kernel_rfl) (by kernel_rfl)
theorem env40 (n : Nat × Nat) : EnvOK Try.prog (E40 n) := envOK0 (consPhi_ok (FC26 n) call26 noPhi_ok) rfl rfl
theorem par40 (n : Nat × Nat) : EnvPar (E40 n) := envPar0 (consPhi_par phiOf_Par1 noPhi_par) rfl
theorem FC40 (n : Nat × Nat) : FCs Try.prog 40 (P40 n) := phiOf_FCs fun xs r h vs hv => FC.of_runG tabOK eqsOK (env40 n) (par40 n) mixed (fun _ => noScope_ok) Try.func40 (c := c40) (an := an40) (pks := pk40) (rks := rk40) (by kernel_rfl) (by kernel_rfl) hv ((S40_run n xs).symm.trans h)
/-D 40 -/
noncomputable def DF40_1 (n : Nat × Nat) (f1 : (List (Int × Int)) → Int → (List (Int × Int)) → Option R40) (sheets0 : List (Int × Int)) (i6 : Int) (out5 : List (Int × Int)) : Option R40 :=
    (bif decide (i6 ≥ 0) then (idx sheets0 i6).bind fun x2' =>
      (idx sheets0 i6).bind fun x3' =>
      (bif decide (out5.length + [(x2'.2, x3'.1)].length ≤ lim) then f1 sheets0 (wr .i64 (i6 - 1)) (out5 ++ [(x2'.2, x3'.1)])
      else none)
    else some (out5, 0))
noncomputable def DL40_1 (n : Nat × Nat) (m : Nat) : (List (Int × Int)) → Int → (List (Int × Int)) → Option R40 := Nat.rec (motive := fun _ => (List (Int × Int)) → Int → (List (Int × Int)) → Option R40) (fun _ _ _ => none) (fun _ ih => DF40_1 n ih) m
theorem DL40_1_succ (n : Nat × Nat) (m : Nat) : DL40_1 n (m + 1) = DF40_1 n (DL40_1 n m) := rfl
theorem DL40_1_eq (n : Nat × Nat) (hn : n.2 = 1) : ∀ m, L40_1 n m = DL40_1 n m
  | 0 => by funext sheets0 i6 out5; kernel_rfl
  | m + 1 => by
    have ih := DL40_1_eq n hn m
    funext sheets0 i6 out5; refine (L40_1_eq n m sheets0 i6 out5).trans ?_
    rw [DL40_1_succ]
    unfold DF40_1
    (try simp only [ih, S26_D n hn]) <;> first | with_reducible rfl | rfl
noncomputable def D40 (n : Nat × Nat) (sheets0 : List (Int × Int)) : Option R40 :=
    (D26 n sheets0).bind fun r1' =>
    (bif (r1' != 0) then some ([], r1')
    else DL40_1 n n.1 sheets0 (wr .i64 ((sheets0.length : Int) - 1)) [])
theorem S40_D (n : Nat × Nat) (hn : n.2 = 1) : S40 n = D40 n := by
  funext sheets0; refine (S40_eq n sheets0).trans ?_
  unfold D40
  (try simp only [DL40_1_eq n hn, S26_D n hn]) <;> first | with_reducible rfl | rfl
abbrev R42 := Int
noncomputable def c42 : Code := bodyOf Try.f42
noncomputable def an42 : Ann := (.s .l (.s .l (.s (.s .l (.j [0, 1, 2, 3, 27, 28, 29, 30, 31] .l .l)) (.s .l (.s (.s .l (.j [9] .l .l)) .l)))))
def pk42 : List PK := [.c (.sl (.pair (.int .i64) (.int .i64))), .c (.sl (.int .i64)), .c (.int .i64), .c (.int .i64)]
def rk42 : List RK := [.c (.int .i64) 8]
noncomputable def rt42 (st : St) : Option R42 := rtG rk42 st
noncomputable def E42 (n : Nat × Nat) : Env := { T := tab, phi := (consPhi 36 (fun _ => true) (P36 n) (consPhi 59 (fun _ => true) (P59 n) (consPhi 62 (fun _ => true) (P62 n) noPhi))), eff := fun _ => false, fuel := n.1, hold := n.2 }
noncomputable def kq42_1 (n : Nat × Nat) : St → Option R42 := run (E42 n) (cB (cB (cB c42))) (Ann.snd (Ann.snd (Ann.snd an42))) rt42 (fun _ _ => none) rt42
noncomputable def kc42_2 (n : Nat × Nat) : St → Option R42 := fun s => normC [0, 1, 2, 3, 27, 28, 29, 30, 31] s (kq42_1 n)
noncomputable def kq42_3 (n : Nat × Nat) : St → Option R42 := run (E42 n) (cB (cB (cB (cB (cB c42))))) (Ann.snd (Ann.snd (Ann.snd (Ann.snd (Ann.snd an42))))) rt42 (fun _ _ => none) rt42
noncomputable def kc42_4 (n : Nat × Nat) : St → Option R42 := fun s => normC [9] s (kq42_3 n)
noncomputable def S42 (n : Nat × Nat) (sheets0 : List (Int × Int)) (order1 : List Int) (machine2 : Int) (k3 : Int) : Option R42 := run (E42 n) c42 an42 rt42 (fun _ _ => none) rt42 { tm := [.c (.sl (.pair (.int .i64) (.int .i64)) sheets0 false), .c (.sl (.int .i64) order1 false), .c (.int .i64 machine2), .c (.int .i64 k3), uu, uu, uu, uu, uu, uu, uu, uu, uu, uu, uu, uu, uu, uu, uu, uu, uu, uu, uu, uu, uu, uu, uu, uu, uu, uu, uu, uu, uu, uu], hp := emp }
theorem S42_eq (n : Nat × Nat) (sheets0 : List (Int × Int)) (order1 : List Int) (machine2 : Int) (k3 : Int) : S42 n sheets0 order1 machine2 k3 =
    (S59 n sheets0 order1).bind fun r1' =>
    (bif (r1' != 0) then some r1'
    else (S36 n sheets0 machine2 k3).bind fun r2' =>
      ((bif ((r2'.2 == 0) == true) then (S62 n sheets0 order1).bind fun r3' =>
          some (r2'.1 != r3')
        else some false)).bind fun b4' =>
      (bif b4' then some 14
      else some r2'.2)) := by kernel_rfl
theorem S42_run (n : Nat × Nat) (xs : pksDen pk42) : S42 n xs.1 xs.2.1 xs.2.2.1 xs.2.2.2.1 = runG (E42 n) noScope c42 an42 (rtG rk42) (fun _ _ => none) (rtG rk42) (st0 pk42 xs Try.f42.ntmps) := by kernel_rfl
noncomputable def P42 (n : Nat × Nat) := phiOf pk42 rk42 (fun xs => S42 n xs.1 xs.2.1 xs.2.2.1 xs.2.2.2.1)
theorem call42 : CallOK Try.prog 42 := callOK_of Try.func42 (by kernel_rfl) (by kernel_rfl)
theorem env42 (n : Nat × Nat) : EnvOK Try.prog (E42 n) := envOK0 (consPhi_ok (FC36 n) call36 (consPhi_ok (FC59 n) call59 (consPhi_ok (FC62 n) call62 noPhi_ok))) rfl rfl
theorem par42 (n : Nat × Nat) : EnvPar (E42 n) := envPar0 (consPhi_par phiOf_Par1 (consPhi_par phiOf_Par1 (consPhi_par phiOf_Par1 noPhi_par))) rfl
theorem FC42 (n : Nat × Nat) : FCs Try.prog 42 (P42 n) := phiOf_FCs fun xs r h vs hv => FC.of_runG tabOK eqsOK (env42 n) (par42 n) mixed (fun _ => noScope_ok) Try.func42 (c := c42) (an := an42) (pks := pk42) (rks := rk42) (by kernel_rfl) (by kernel_rfl) hv ((S42_run n xs).symm.trans h)
/-D 42 -/
noncomputable def D42 (n : Nat × Nat) (sheets0 : List (Int × Int)) (order1 : List Int) (machine2 : Int) (k3 : Int) : Option R42 :=
    (D59 n sheets0 order1).bind fun r1' =>
    (bif (r1' != 0) then some r1'
    else (D36 n sheets0 machine2 k3).bind fun r2' =>
      ((bif ((r2'.2 == 0) == true) then (D62 n sheets0 order1).bind fun r3' =>
          some (r2'.1 != r3')
        else some false)).bind fun b4' =>
      (bif b4' then some 14
      else some r2'.2))
theorem S42_D (n : Nat × Nat) (hn : n.2 = 1) : S42 n = D42 n := by
  funext sheets0 order1 machine2 k3; refine (S42_eq n sheets0 order1 machine2 k3).trans ?_
  unfold D42
  (try simp only [S36_D n hn, S59_D n hn, S62_D n hn]) <;> first | with_reducible rfl | rfl
end Go.Proofs.Ytnlbhjmbaedadaa
set_option linter.unusedVariables false
set_option linter.unusedSimpArgs false
namespace Go.Proofs.Ytnlbhjmbaedadaa
open Go.Vi

theorem min_if (a b : Int) : (if b < a then b else a) = min a b := by
  by_cases h : b < a
  · rw [if_pos h, Int.min_eq_right (by omega)]
  · rw [if_neg h, Int.min_eq_left (by omega)]
theorem ct_bnd {m h : Int} {s : Int × Int} (hs : Ok s) : 0 ≤ ct m h s ∧ ct m h s ≤ 50 := by
  unfold Ok at hs
  unfold ct hr
  split <;> (try split) <;> omega
theorem cs_bnd {m h : Int} : ∀ {l : List (Int × Int)}, (∀ s ∈ l, Ok s) → 0 ≤ cs m h l ∧ cs m h l ≤ 50 * l.length
  | [], _ => by simp [cs]
  | s :: l, hl => by
    have := cs_bnd (m := m) (h := h) (l := l) (fun s hs => hl s (by simp [hs]))
    have := ct_bnd (m := m) (h := h) (hl s (by simp))
    simp only [cs, List.length_cons]
    omega
theorem hr_bnd {m : Int} {s : Int × Int} (hs : Ok s) : 0 ≤ hr m s ∧ hr m s ≤ 50 := by
  unfold Ok at hs
  unfold hr
  split <;> omega
theorem bound_loop (n : Nat × Nat) (l : List (Int × Int)) (hl : l.length ≤ 7) (hb : ∀ s ∈ l, Ok s) (mc : Int) (hm : mc = 0 ∨ mc = 1) (j : Int) (hj : 0 ≤ j ∧ j < l.length) : ∀ (m k : Nat) (v : Int), k ≤ l.length → l.length - k < m → 0 ≤ v → v ≤ 1000 + 50 * k →
    DL75_1 n m j v (l.length : Int) (k : Int) (l.map (hr mc)) (l.map (hr (1 - mc))) = some (v + cs mc (hr mc (sh l j)) (l.drop k))
  | 0, k, v, _, h, _, _ => by omega
  | m + 1, k, v, hk, h, v0, v1 => by
    rw [DL75_1_succ]
    unfold DF75_1
    by_cases hlt : k < l.length
    · have ho := hb _ (List.getElem_mem hlt)
      have hcb := ct_bnd (m := mc) (h := hr mc (sh l j)) ho
      have ih := bound_loop n l hl hb mc hm j hj m (k + 1) (v + ct mc (hr mc (sh l j)) l[k]) (by omega) (by omega) (by omega) (by omega)
      have hj2 : ∀ w : Int, DL75_2 n (DL75_1 n m) j w (l.length : Int) (k : Int) (l.map (hr mc)) (l.map (hr (1 - mc))) = DL75_1 n m j w (l.length : Int) (wr .i64 ((k : Int) + 1)) (l.map (hr mc)) (l.map (hr (1 - mc))) := fun w => rfl
      have ej : idx (l.map (hr mc)) j = some (hr mc (sh l j)) := by
        rw [idx_int (k := j.toNat) (by omega) (by simp; omega)]
        simp [sh, show j.toNat < l.length by omega]
      have ij : inB j (l.map (hr mc)).length = true := by
        rw [show j = ((j.toNat : Nat) : Int) by omega]
        exact inB_nat (by simp; omega)
      rw [dlt_t hlt, cond_true, inB_nat (by simpa using hlt), cond_true, idx_nat (by simpa using hlt), Option.bind_some, ij, cond_true, ej, Option.bind_some, inB_nat (by simpa using hlt), cond_true, idx_nat (by simpa using hlt), Option.bind_some, cond_true, Option.bind_some, hj2, hj2, wr_succ (by omega), drop_cons hlt]
      simp only [List.getElem_map, cs]
      by_cases c : hr mc l[k] < hr mc (sh l j)
      · have e : ct mc (hr mc (sh l j)) l[k] = min (hr mc l[k]) (hr (1 - mc) l[k]) := by
          unfold ct
          rw [if_pos c]
          rcases hm with e | e <;> subst e
          · rfl
          · rw [Int.min_comm]; rfl
        rw [decide_eq_true c, cond_true, min_if, ← e, wr_ok (by omega) (by omega), ih]
        congr 1
        omega
      · have e : ct mc (hr mc (sh l j)) l[k] = hr (1 - mc) l[k] := by
          unfold ct
          rw [if_neg c]
        rw [decide_eq_false c, cond_false, ← e, wr_ok (by omega) (by omega), ih]
        congr 1
        omega
    · rw [dlt_f hlt, cond_false, List.drop_of_length_le (by omega)]
      simp [cs]
def bd (l : List (Int × Int)) (m k : Int) : Int := bnd l m (hr m (sh l k))
theorem bd_bnd {l : List (Int × Int)} (hg : Good l) {m k : Int} (hk : 0 ≤ k ∧ k < l.length) : 0 ≤ bd l m k ∧ bd l m k ≤ 1000 := by
  have h1 := cs_bnd (m := m) (h := hr m (sh l k)) hg.ok
  have h2 := hr_bnd (m := m) (hg.ok _ (sh_mem hk.1 hk.2))
  have := hg.len
  unfold bd bnd
  omega
theorem bound_eq {n : Nat × Nat} (hn : 1000 ≤ n.1) {l : List (Int × Int)} (hg : Good l) {m k : Int} (hm : m = 0 ∨ m = 1) (hk : 0 ≤ k ∧ k < l.length) : D75 n l m k = some (bd l m k) := by
  have h7 := hg.len
  have ej : idx (l.map (hr m)) k = some (hr m (sh l k)) := by
    rw [idx_int (k := k.toNat) (by omega) (by simp; omega)]
    simp [sh, show k.toNat < l.length by omega]
  have ij : inB k (l.map (hr m)).length = true := by
    rw [show k = ((k.toNat : Nat) : Int) by omega]
    exact inB_nat (by simp; omega)
  have hb := hr_bnd (m := m) (hg.ok _ (sh_mem hk.1 hk.2))
  unfold D75
  rw [wr_ok (by omega) (by omega), all_eq hn hm (by omega), Option.bind_some, all_eq hn (by omega) (by omega), Option.bind_some, ij, cond_true, ej, Option.bind_some]
  have := bound_loop n l h7 hg.ok m hm k hk n.1 0 (hr m (sh l k)) (by omega) (by omega) (by omega) (by omega)
  simpa [bd, bnd] using this
theorem needs_eq (n : Nat × Nat) {m : Int} (s : Int × Int) : D91 n s m = some (hr m s) := by
  unfold D91 hr
  by_cases h : m = 0
  · simp [h]
  · rw [show (m == 0) = false by simpa using h, cond_false, if_neg h]
theorem rbound_loop (n : Nat × Nat) (l : List (Int × Int)) (hl : l.length ≤ 7) (hb : ∀ s ∈ l, Ok s) (mc : Int) (hm : mc = 0 ∨ mc = 1) (h : Int) : ∀ (m k : Nat) (v : Int), k ≤ l.length → l.length - k < m → 0 ≤ v → v ≤ 1000 + 50 * k →
    DL76_1 n m l mc h v (k : Int) = some (v + cs mc h (l.drop k))
  | 0, k, v, _, h, _, _ => by omega
  | m + 1, k, v, hk, h', v0, v1 => by
    rw [DL76_1_succ]
    unfold DF76_1
    by_cases hlt : k < l.length
    · have ho := hb _ (List.getElem_mem hlt)
      have hcb := ct_bnd (m := mc) (h := h) ho
      have ih := rbound_loop n l hl hb mc hm h m (k + 1) (v + ct mc h l[k]) (by omega) (by omega) (by omega) (by omega)
      have hj2 : ∀ w : Int, DL76_2 n (DL76_1 n m) l mc h w (k : Int) = DL76_1 n m l mc h w (wr .i64 ((k : Int) + 1)) := fun w => rfl
      rw [dlt_t hlt, cond_true, idx_nat hlt, drop_cons hlt]
      simp only [Option.bind_some, needs_eq, hj2, wr_succ (show k < 1000000 by omega), cs, wr_ok (x := 1 - mc) (by omega) (by omega)]
      by_cases c : hr mc l[k] < h
      · have e : ct mc h l[k] = min l[k].1 l[k].2 := by
          unfold ct
          rw [if_pos c]
        rw [decide_eq_true c, cond_true, min_if, ← e, wr_ok (by omega) (by omega), ih]
        congr 1
        omega
      · have e : ct mc h l[k] = hr (1 - mc) l[k] := by
          unfold ct
          rw [if_neg c]
        rw [decide_eq_false c, cond_false, ← e, wr_ok (by omega) (by omega), ih]
        congr 1
        omega
    · rw [dlt_f hlt, cond_false, List.drop_of_length_le (by omega)]
      simp [cs]
theorem rbound_eq {n : Nat × Nat} (hn : 1000 ≤ n.1) {l : List (Int × Int)} (hg : Good l) {m k : Int} (hm : m = 0 ∨ m = 1) (hk : 0 ≤ k ∧ k < l.length) : D76 n l m k = some (bd l m k) := by
  have hb := hr_bnd (m := m) (hg.ok _ (sh_mem hk.1 hk.2))
  have h7 := hg.len
  unfold D76
  rw [idx_sh hk.1 hk.2]
  simp only [Option.bind_some, needs_eq]
  have := rbound_loop n l hg.len hg.ok m hm (hr m (sh l k)) n.1 0 (hr m (sh l k)) (by omega) (by omega) (by omega) (by omega)
  simpa [bd, bnd] using this

def boundS (l : List (Int × Int)) (m k : Int) : Int × Int := if chk l ≠ 0 then (0, chk l) else if (m = 0 ∨ m = 1) ∧ 0 ≤ k ∧ k < l.length then (bd l m k, 0) else (0, 2)
theorem Bound_eq {n : Nat × Nat} (hn : 1000 ≤ n.1) (l : List (Int × Int)) (m k : Int) : D35 n l m k = some (boundS l m k) := by
  unfold D35 boundS
  rw [chk_eq hn, Option.bind_some]
  by_cases h : chk l = 0
  · rw [show (chk l != 0) = false by simp [h], cond_false, if_neg (by simpa using h)]
    by_cases c : (m = 0 ∨ m = 1) ∧ 0 ≤ k ∧ k < l.length
    · rw [if_pos c, decide_eq_false (show ¬ m < 0 by omega), decide_eq_false (show ¬ m > 1 by omega), decide_eq_false (show ¬ k < 0 by omega), decide_eq_false (show ¬ k ≥ (l.length : Int) by omega)]
      simp only [beq_self_eq_true, cond_true, cond_false, Option.bind_some, bound_eq hn (chk_good.1 h) c.1 c.2]
    · rw [if_neg c]
      by_cases a : m < 0
      · simp [a]
      by_cases b : m > 1
      · simp [a, b]
      by_cases d : k < 0
      · simp [a, b, d]
      simp [a, b, d, show (l.length : Int) ≤ k by omega]
  · rw [show (chk l != 0) = true by simpa using h, cond_true, if_pos h]
theorem rBound_eq {n : Nat × Nat} (hn : 1000 ≤ n.1) (l : List (Int × Int)) (m k : Int) : D36 n l m k = some (boundS l m k) := by
  unfold D36 boundS
  rw [chkr_eq hn, Option.bind_some]
  by_cases h : chk l = 0
  · have hg := chk_good.1 h
    have h7 := hg.len
    rw [h, if_neg (by simp), wr_ok (by omega) (by omega)]
    simp only [beq_self_eq_true, cond_true, in_eq, Option.bind_some]
    by_cases c : (m = 0 ∨ m = 1) ∧ 0 ≤ k ∧ k < l.length
    · rw [if_pos c, decide_eq_true (show 0 ≤ m by omega), decide_eq_true (show m ≤ 1 by omega), decide_eq_true (show 0 ≤ k by omega), decide_eq_true (show k ≤ (l.length : Int) - 1 by omega), rbound_eq hn hg c.1 c.2]
      rfl
    · rw [if_neg c]
      by_cases a : 0 ≤ m <;> by_cases b : m ≤ 1 <;> by_cases d : 0 ≤ k <;> by_cases e : k ≤ (l.length : Int) - 1 <;> first | (exfalso; omega) | (simp [a, b, d, e])
  · rw [show (chk l == 0) = false by simpa using h, show (chk l != 0) = true by simpa using h, if_pos h]
    rfl

def goesS (l : List (Int × Int)) (i j : Int) : Bool × Int := if chk l ≠ 0 then (false, chk l) else if (0 ≤ i ∧ i < l.length) ∧ 0 ≤ j ∧ j < l.length then (decide (min (sh l i).1 (sh l j).2 ≤ min (sh l j).1 (sh l i).2), 0) else (false, 2)
theorem Goes_eq {n : Nat × Nat} (hn : 1000 ≤ n.1) (l : List (Int × Int)) (i j : Int) : D33 n l i j = some (goesS l i j) := by
  unfold D33 goesS
  rw [chk_eq hn, Option.bind_some]
  by_cases h : chk l = 0
  · rw [show (chk l != 0) = false by simp [h], cond_false, if_neg (show ¬ chk l ≠ 0 by simpa using h), min_if, max_if]
    by_cases c : (0 ≤ i ∧ i < l.length) ∧ 0 ≤ j ∧ j < l.length
    · rw [if_pos c, decide_eq_false (show ¬ min i j < 0 by omega), decide_eq_false (show ¬ max i j ≥ (l.length : Int) by omega), idx_sh c.1.1 c.1.2, idx_sh c.2.1 c.2.2]
      simp only [beq_self_eq_true, cond_true, cond_false, Option.bind_some, min_if]
    · rw [if_neg c]
      by_cases a : min i j < 0
      · rw [decide_eq_true a]; rfl
      · rw [decide_eq_false a, decide_eq_true (show max i j ≥ (l.length : Int) by omega)]; rfl
  · rw [show (chk l != 0) = true by simpa using h, cond_true, if_pos h]
theorem rGoes_eq {n : Nat × Nat} (hn : 1000 ≤ n.1) (l : List (Int × Int)) (i j : Int) : D34 n l i j = some (goesS l i j) := by
  unfold D34 goesS
  rw [chkr_eq hn, Option.bind_some]
  by_cases h : chk l = 0
  · have hg := chk_good.1 h
    have h7 := hg.len
    rw [h, if_neg (by simp), wr_ok (by omega) (by omega)]
    simp only [beq_self_eq_true, cond_true, in_eq, Option.bind_some]
    by_cases c : (0 ≤ i ∧ i < l.length) ∧ 0 ≤ j ∧ j < l.length
    · rw [if_pos c, decide_eq_true (show 0 ≤ i by omega), decide_eq_true (show i ≤ (l.length : Int) - 1 by omega), decide_eq_true (show 0 ≤ j by omega), decide_eq_true (show j ≤ (l.length : Int) - 1 by omega), idx_sh c.1.1 c.1.2, idx_sh c.2.1 c.2.2]
      simp only [Option.bind_some, min_if]
      rfl
    · rw [if_neg c]
      by_cases a : 0 ≤ i <;> by_cases b : i ≤ (l.length : Int) - 1 <;> by_cases d : 0 ≤ j <;> by_cases e : j ≤ (l.length : Int) - 1 <;> first | (exfalso; omega) | (simp [a, b, d, e])
  · rw [show (chk l == 0) = false by simpa using h, show (chk l != 0) = true by simpa using h, if_pos h]
    rfl

def turnS (l : List (Int × Int)) : List (Int × Int) × Int := if chk l ≠ 0 then ([], chk l) else (tu l 0, 0)
theorem rturn_loop (n : Nat × Nat) (l : List (Int × Int)) (hl : l.length ≤ 7) : ∀ (m k : Nat), k ≤ l.length → k < m → DL40_1 n m l ((k : Int) - 1) (tu l k) = some (tu l 0, 0)
  | 0, k, _, h => by omega
  | m + 1, k, hk, h => by
    rw [DL40_1_succ]
    unfold DF40_1
    by_cases hz : k = 0
    · subst hz
      rw [decide_eq_false (by omega), cond_false]
    · have hlt : k - 1 < l.length := by omega
      have ih := rturn_loop n l hl m (k - 1) (by omega) (by omega)
      have hs := tu_step l (k - 1) hlt
      rw [show k - 1 + 1 = k by omega] at hs
      rw [decide_eq_true (by omega), cond_true, show (k : Int) - 1 = ((k - 1 : Nat) : Int) by omega, idx_nat hlt]
      simp only [Option.bind_some]
      rw [lim_dec (by rw [tu_len]; omega), cond_true, wr_ok (by omega) (by omega), ← hs, ih]
theorem rTurn_eq {n : Nat × Nat} (hn : 1000 ≤ n.1) (l : List (Int × Int)) : D40 n l = some (turnS l) := by
  unfold D40 turnS
  rw [chkr_eq hn, Option.bind_some]
  by_cases h : chk l = 0
  · have h7 := (chk_good.1 h).len
    rw [show (chk l != 0) = false by simp [h], cond_false, if_neg (by simpa using h), wr_ok (by omega) (by omega)]
    have := rturn_loop n l h7 n.1 l.length (by omega) (by omega)
    rwa [tu_all] at this
  · rw [show (chk l != 0) = true by simpa using h, cond_true, if_pos h]
theorem Turn_eq {n : Nat × Nat} (hn : 1000 ≤ n.1) (l : List (Int × Int)) : D39 n l = some (turnS l) := by
  unfold D39 HF39 turnS
  rw [chk_eq hn, Option.bind_some]
  by_cases h : chk l = 0
  · have h7 := (chk_good.1 h).len
    rw [show (chk l != 0) = false by simp [h], cond_false, if_neg (by simpa using h)]
    have := (chk_good.1 h).pos
    rw [decide_eq_true (show 0 < l.length by omega), decide_eq_true (show l.length ≤ 1000000 by omega)]
    rfl
  · rw [show (chk l != 0) = true by simpa using h, cond_true, if_pos h]

def provesS (l : List (Int × Int)) (o : List Int) (m k : Int) : Int :=
  if (put l o).2 ≠ 0 then (put l o).2 else if (boundS l m k).2 ≠ 0 then (boundS l m k).2 else if (boundS l m k).1 = tm 0 0 (pk l o) then 0 else 14
theorem Proves_eq {n : Nat × Nat} (hn : 1000 ≤ n.1) {o : List Int} (hs : o.length < 800) (l : List (Int × Int)) (m k : Int) : D41 n l o m k = some (provesS l o m k) := by
  unfold D41 provesS
  rw [put_eq hn hs, Option.bind_some]
  by_cases h : (put l o).2 = 0
  · obtain ⟨hg, ho⟩ := put_zero.1 h
    rw [show ((put l o).2 != 0) = false by simp [h], cond_false, if_neg (by simpa using h), put_ord hg ho, Bound_eq hn, Option.bind_some]
    by_cases h2 : (boundS l m k).2 = 0
    · rw [show ((boundS l m k).2 != 0) = false by simp [h2], cond_false, if_neg (by simpa using h2), time_eq hn (ord_pk hg ho).1 (ord_pk hg ho).2 (pk_ok hg ho), Option.bind_some]
      by_cases e : (boundS l m k).1 = tm 0 0 (pk l o)
      · rw [if_pos e, e]; simp
      · rw [if_neg e, show ((boundS l m k).1 != tm 0 0 (pk l o)) = true by simpa using e, cond_true]
    · rw [show ((boundS l m k).2 != 0) = true by simpa using h2, cond_true, if_pos h2]
  · rw [show ((put l o).2 != 0) = true by simpa using h, cond_true, if_pos h]
theorem rProves_eq {n : Nat × Nat} (hn : 1000 ≤ n.1) {o : List Int} (hs : o.length < 800) (l : List (Int × Int)) (m k : Int) : D42 n l o m k = some (provesS l o m k) := by
  unfold D42 provesS
  rw [ordered_eq hn hs, Option.bind_some]
  by_cases h : (put l o).2 = 0
  · obtain ⟨hg, ho⟩ := put_zero.1 h
    rw [show ((put l o).2 != 0) = false by simp [h], cond_false, if_neg (by simpa using h), rBound_eq hn, Option.bind_some]
    by_cases h2 : (boundS l m k).2 = 0
    · rw [show ((boundS l m k).2 == 0) = true by simpa using h2, if_neg (by simpa using h2), rtime_eq hn hg ho]
      simp only [beq_self_eq_true, cond_true, Option.bind_some]
      by_cases e : (boundS l m k).1 = tm 0 0 (pk l o)
      · rw [if_pos e, e]; simp [h2]
      · rw [if_neg e, show ((boundS l m k).1 != tm 0 0 (pk l o)) = true by simpa using e, cond_true]
    · rw [show ((boundS l m k).2 == 0) = false by simpa using h2, if_pos h2]
      simp only [show (false == true) = false from rfl, cond_false, Option.bind_some]
  · rw [show ((put l o).2 != 0) = true by simpa using h, cond_true, if_pos h]

def pr1 (m : Int) (k : Nat) : List (Int × Int) := (ix k).map fun i => (m, i)
theorem pr1_succ (m : Int) (k : Nat) : pr1 m (k + 1) = pr1 m k ++ [(m, (k : Int))] := by
  unfold pr1
  rw [ix_succ, List.map_append]
  rfl
def fst (l : List (Int × Int)) (t : Int) (P : List (Int × Int)) : Option (Int × Int) := P.find? fun p => decide (bd l p.1 p.2 = t)
theorem fst_some {l : List (Int × Int)} {t : Int} {P : List (Int × Int)} {p : Int × Int} (h : fst l t P = some p) : bd l p.1 p.2 = t ∧ p ∈ P :=
  ⟨by simpa using List.find?_some h, List.mem_of_find?_eq_some h⟩
theorem fst_none {l : List (Int × Int)} {t : Int} {P : List (Int × Int)} (h : ∀ p ∈ P, bd l p.1 p.2 ≠ t) : fst l t P = none := by
  unfold fst
  rw [List.find?_eq_none]
  intro p hp
  simpa using h p hp
theorem fst_append {l : List (Int × Int)} {t : Int} {P Q : List (Int × Int)} : fst l t (P ++ Q) = (fst l t P).or (fst l t Q) := List.find?_append
theorem fst_one (l : List (Int × Int)) (t : Int) (p : Int × Int) : fst l t [p] = if bd l p.1 p.2 = t then some p else none := by
  unfold fst
  by_cases e : bd l p.1 p.2 = t
  · rw [if_pos e]; simp [e]
  · rw [if_neg e]; simp [e]
def Inv (l P : List (Int × Int)) (b m k : Int) : Prop := (∀ p ∈ P, bd l p.1 p.2 ≤ b) ∧ (P = [] ∧ b = -1 ∨ fst l b P = some (m, k))
theorem Inv.step {l P : List (Int × Int)} {b m k : Int} (h : Inv l P b m k) {p : Int × Int} (h0 : 0 ≤ bd l p.1 p.2) : Inv l (P ++ [p]) (if bd l p.1 p.2 > b then bd l p.1 p.2 else b) (if bd l p.1 p.2 > b then p.1 else m) (if bd l p.1 p.2 > b then p.2 else k) := by
  obtain ⟨h1, h2⟩ := h
  by_cases c : bd l p.1 p.2 > b
  · rw [if_pos c, if_pos c, if_pos c]
    refine ⟨fun q hq => ?_, .inr ?_⟩
    · rcases List.mem_append.1 hq with hq | hq
      · have := h1 q hq; omega
      · rw [List.mem_singleton] at hq; subst hq; omega
    · rw [fst_append, fst_none (P := P) (fun q hq => by have := h1 q hq; omega), fst_one, if_pos rfl]
      rfl
  · rw [if_neg c, if_neg c, if_neg c]
    refine ⟨fun q hq => ?_, ?_⟩
    · rcases List.mem_append.1 hq with hq | hq
      · exact h1 q hq
      · rw [List.mem_singleton] at hq; subst hq; omega
    · rcases h2 with ⟨_, e⟩ | h2
      · omega
      · exact .inr (by rw [fst_append, h2]; rfl)
theorem prove_loop (n : Nat × Nat) (hn : 1000 ≤ n.1) {l : List (Int × Int)} (hg : Good l) {mc : Int} (hm : mc = 0 ∨ mc = 1) (f : List (Int × Int) → Int → Int → Int → Int → Option R37) (P0 : List (Int × Int)) : ∀ (m k : Nat) (a b c : Int), k ≤ l.length → l.length - k < m → Inv l (P0 ++ pr1 mc k) c a b →
    ∃ a' b' c', Inv l (P0 ++ pr1 mc l.length) c' a' b' ∧ DL37_2 n f m l a b c mc mc (l.length : Int) (k : Int) = f l a' b' c' (wr .i64 (mc + 1))
  | 0, k, a, b, c, _, h, _ => by omega
  | m + 1, k, a, b, c, hk, h, hi => by
    have h7 := hg.len
    rw [DL37_2_succ]
    unfold DF37_2
    by_cases hlt : k < l.length
    · have hj3 : ∀ a b c : Int, DL37_3 n f (DL37_2 n f m) l a b c mc mc (l.length : Int) (k : Int) = DL37_2 n f m l a b c mc mc (l.length : Int) (wr .i64 ((k : Int) + 1)) := fun a b c => rfl
      have hb := bd_bnd hg (m := mc) (k := (k : Int)) ⟨by omega, by omega⟩
      have st := hi.step (p := (mc, (k : Int))) hb.1
      rw [List.append_assoc, ← pr1_succ] at st
      rw [dlt_t hlt, cond_true, bound_eq hn hg hm ⟨by omega, by omega⟩, Option.bind_some, hj3, hj3, wr_succ (by omega)]
      by_cases g : bd l mc (k : Int) > c
      · rw [decide_eq_true g, cond_true]
        simp only [if_pos g] at st
        exact prove_loop n hn hg hm f P0 m (k + 1) _ _ _ (by omega) (by omega) st
      · rw [decide_eq_false g, cond_false]
        simp only [if_neg g] at st
        exact prove_loop n hn hg hm f P0 m (k + 1) _ _ _ (by omega) (by omega) st
    · have : k = l.length := by omega
      subst this
      rw [dlt_f hlt, cond_false]
      exact ⟨a, b, c, hi, rfl⟩
/-- All machines and sheets; the time of the best orders. -/
def prs (l : List (Int × Int)) : List (Int × Int) := pr1 0 l.length ++ pr1 1 l.length
def best (l : List (Int × Int)) : Int := tm 0 0 (pk l (rl l))
theorem prs_mem {l : List (Int × Int)} {p : Int × Int} : p ∈ prs l ↔ (p.1 = 0 ∨ p.1 = 1) ∧ 0 ≤ p.2 ∧ p.2 < l.length := by
  unfold prs pr1
  rw [List.mem_append, List.mem_map, List.mem_map]
  constructor
  · rintro (⟨i, hi, e⟩ | ⟨i, hi, e⟩) <;> rw [ix_mem] at hi <;> subst e
    · exact ⟨.inl rfl, hi⟩
    · exact ⟨.inr rfl, hi⟩
  · rintro ⟨h | h, h'⟩
    · exact .inl ⟨p.2, ix_mem.2 h', by rw [← h]⟩
    · exact .inr ⟨p.2, ix_mem.2 h', by rw [← h]⟩
theorem bd_le {l : List (Int × Int)} (hg : Good l) {p : Int × Int} (hp : p ∈ prs l) : bd l p.1 p.2 ≤ best l := by
  obtain ⟨hm, hk⟩ := prs_mem.1 hp
  exact bnd_le (rl_ord l) hm (sh_mem hk.1 hk.2)
theorem bd_ex {l : List (Int × Int)} (hg : Good l) : ∃ p ∈ prs l, bd l p.1 p.2 = best l := by
  obtain ⟨m, s, hm, hs, e⟩ := johnson hg
  obtain ⟨k, hk, e'⟩ := List.getElem_of_mem hs
  refine ⟨(m, (k : Int)), prs_mem.2 ⟨hm, by omega, by omega⟩, ?_⟩
  unfold best bd
  rw [e, ← e']
  simp [sh, hk]
theorem fst_best {l : List (Int × Int)} (hg : Good l) : ∃ p, fst l (best l) (prs l) = some p := by
  obtain ⟨p, hp, e⟩ := bd_ex hg
  cases h : fst l (best l) (prs l) with
  | some q => exact ⟨q, rfl⟩
  | none =>
    unfold fst at h
    rw [List.find?_eq_none] at h
    exact absurd (decide_eq_true e) (h p hp)
theorem Inv.best {l : List (Int × Int)} (hg : Good l) {b m k : Int} (h : Inv l (prs l) b m k) : fst l (best l) (prs l) = some (m, k) := by
  obtain ⟨p, hp, e⟩ := bd_ex hg
  obtain ⟨h1, h2⟩ := h
  rcases h2 with ⟨h2, _⟩ | h2
  · rw [h2] at hp; simp at hp
  · have := fst_some h2
    have c1 := bd_le hg this.2
    have c2 := h1 p hp
    have : b = Go.Proofs.Ytnlbhjmbaedadaa.best l := by omega
    rwa [this] at h2
def proveS (l : List (Int × Int)) : Int × Int × Int := if chk l ≠ 0 then (0, 0, chk l) else match fst l (best l) (prs l) with | some p => (p.1, p.2, 0) | none => (0, 0, 14)
theorem Prove_eq {n : Nat × Nat} (hn : 1000 ≤ n.1) (l : List (Int × Int)) : D37 n l = some (proveS l) := by
  unfold D37 proveS
  rw [chk_eq hn, Option.bind_some]
  by_cases h : chk l = 0
  · have hg := chk_good.1 h
    have h7 := hg.len
    rw [show (chk l != 0) = false by simp [h], cond_false, if_neg (by simpa using h)]
    obtain ⟨k, hk⟩ : ∃ k, n.1 = k + 3 := ⟨n.1 - 3, by omega⟩
    have e1 : ∀ a b c, DL37_1 n (k + 1) l a b c 2 = some (a, b, 0) := fun a b c => rfl
    obtain ⟨a, b, c, i1, e2⟩ := prove_loop n hn hg (.inl rfl) (DL37_1 n (k + 2)) [] n.1 0 0 0 (-1) (by omega) (by omega) ⟨fun p hp => by simp [pr1, ix] at hp, .inl ⟨rfl, rfl⟩⟩
    rw [List.nil_append] at i1
    obtain ⟨a', b', c', i2, e3⟩ := prove_loop n hn hg (.inr rfl) (DL37_1 n (k + 1)) (pr1 0 l.length) n.1 0 a b c (by omega) (by omega) (by simpa [pr1, ix] using i1)
    have f1 : DL37_1 n n.1 l 0 0 (-1) 0 = DL37_2 n (DL37_1 n (k + 2)) n.1 l 0 0 (-1) 0 0 (l.length : Int) 0 := by
      rw [hk, DL37_1_succ]; rw [← hk]; rfl
    have f2 : DL37_1 n (k + 2) l a b c 1 = DL37_2 n (DL37_1 n (k + 1)) n.1 l a b c 1 1 (l.length : Int) 0 := by
      rw [DL37_1_succ]; rfl
    rw [show wr .i64 ((0 : Int) + 1) = 1 by rw [wr_ok (by omega) (by omega)]; omega] at e2
    rw [show wr .i64 ((1 : Int) + 1) = 2 by rw [wr_ok (by omega) (by omega)]; omega] at e3
    rw [i2.best hg, f1, ← Int.ofNat_zero]
    refine e2.trans ?_
    rw [f2]
    refine e3.trans ?_
    rw [e1]
    rfl
  · rw [show (chk l != 0) = true by simpa using h, cond_true, if_pos h]
theorem rprove_loop (n : Nat × Nat) (hn : 1000 ≤ n.1) {l : List (Int × Int)} (hg : Good l) {mc : Int} (hm : mc = 0 ∨ mc = 1) (f : List (Int × Int) → Int → List Int → Option R38) : ∀ (m k : Nat), k ≤ l.length → l.length - k < m → fst l (best l) (pr1 mc k) = none →
    DL38_2 n f m l mc (k : Int) (rl l) = match fst l (best l) (pr1 mc l.length) with | some p => some (p.1, p.2, 0) | none => f l (wr .i64 (mc + 1)) (rl l)
  | 0, k, _, h, _ => by omega
  | m + 1, k, hk, h, hi => by
    have h7 := hg.len
    rw [DL38_2_succ]
    unfold DF38_2
    by_cases hlt : k < l.length
    · rw [dlt_t hlt, cond_true, rbound_eq hn hg hm ⟨by omega, by omega⟩, Option.bind_some, rtime_eq hn hg (rl_ord l), Option.bind_some, wr_succ (by omega)]
      by_cases e : bd l mc (k : Int) = best l
      · rw [show (bd l mc (k : Int) == tm 0 0 (pk l (rl l))) = true by simpa [best] using e, cond_true]
        have : fst l (best l) (pr1 mc l.length) = some (mc, (k : Int)) := by
          have hs : fst l (best l) (pr1 mc (k + 1)) = some (mc, (k : Int)) := by
            rw [pr1_succ, fst_append, hi, fst_one, if_pos e]
            rfl
          have ext : ∀ j, k + 1 ≤ j → fst l (best l) (pr1 mc j) = some (mc, (k : Int)) := by
            intro j hj
            induction j with
            | zero => omega
            | succ j ih =>
              by_cases c : k + 1 ≤ j
              · rw [pr1_succ, fst_append, ih c]; rfl
              · rw [show j = k by omega]; exact hs
          exact ext _ (by omega)
        rw [this]
      · rw [show (bd l mc (k : Int) == tm 0 0 (pk l (rl l))) = false by simpa [best] using e, cond_false]
        exact rprove_loop n hn hg hm f m (k + 1) (by omega) (by omega) (by rw [pr1_succ, fst_append, hi, fst_one, if_neg e]; rfl)
    · have : k = l.length := by omega
      subst this
      rw [dlt_f hlt, cond_false, hi]
theorem rProve_eq {n : Nat × Nat} (hn : 1000 ≤ n.1) (l : List (Int × Int)) : D38 n l = some (proveS l) := by
  unfold D38 proveS
  rw [rRule_eq hn, Option.bind_some]
  unfold ruleS
  by_cases h : chk l = 0
  · have hg := chk_good.1 h
    have h7 := hg.len
    rw [if_neg (by simpa using h), if_neg (by simpa using h)]
    simp only [bne_self_eq_false, cond_false]
    obtain ⟨k, hk⟩ : ∃ k, n.1 = k + 3 := ⟨n.1 - 3, by omega⟩
    have e1 := rprove_loop n hn hg (.inl rfl) (DL38_1 n (k + 2)) n.1 0 (by omega) (by omega) rfl
    have e2 := rprove_loop n hn hg (.inr rfl) (DL38_1 n (k + 1)) n.1 0 (by omega) (by omega) rfl
    have f1 : DL38_1 n n.1 l 0 (rl l) = DL38_2 n (DL38_1 n (k + 2)) n.1 l 0 0 (rl l) := by
      rw [hk, DL38_1_succ]; rw [← hk]; rfl
    have f2 : DL38_1 n (k + 2) l 1 (rl l) = DL38_2 n (DL38_1 n (k + 1)) n.1 l 1 0 (rl l) := by
      rw [DL38_1_succ]; rfl
    rw [show wr .i64 ((0 : Int) + 1) = 1 by rw [wr_ok (by omega) (by omega)]; omega] at e1
    rw [f1, ← Int.ofNat_zero]
    refine e1.trans ?_
    unfold prs
    rw [fst_append]
    cases h1 : fst l (best l) (pr1 0 l.length) with
    | some p => rfl
    | none =>
      simp only [Option.none_or]
      rw [f2]
      refine e2.trans ?_
      cases h2 : fst l (best l) (pr1 1 l.length) with
      | some p => rfl
      | none =>
        obtain ⟨p, hp⟩ := fst_best hg
        unfold prs at hp
        rw [fst_append, h1, h2] at hp
        simp at hp
  · rw [if_pos h, if_pos h]
    simp only []
    rw [show (chk l != 0) = true by simpa using h, cond_true]


/-- All orders of n that begin with some numbers. -/
def ao (n : Nat) : Nat → List Int → List (List Int)
  | 0, p => [p]
  | d + 1, p => (ix n).flatMap fun i => if i ∈ p then [] else ao n d (p ++ [i])
/-- Of these the ones that take no more than some hours. -/
def bo (l : List (Int × Int)) (g : Int) : Nat → List Int → Int → Int → List (List Int)
  | 0, p, _, _ => [p]
  | d + 1, p, a, b => (ix l.length).flatMap fun i => if i ∈ p then [] else if max (a + (sh l i).1) b + (sh l i).2 ≤ g then bo l g d (p ++ [i]) (a + (sh l i).1) (max (a + (sh l i).1) b + (sh l i).2) else []
theorem ao_pre {n : Nat} : ∀ {d : Nat} {p o : List Int}, o ∈ ao n d p → ∃ r, o = p ++ r ∧ r.length = d
  | 0, p, o, h => by
    unfold ao at h
    rw [List.mem_singleton] at h
    exact ⟨[], by simp [h], rfl⟩
  | d + 1, p, o, h => by
    unfold ao at h
    obtain ⟨i, hi, h⟩ := List.mem_flatMap.1 h
    by_cases c : i ∈ p
    · rw [if_pos c] at h; simp at h
    · rw [if_neg c] at h
      obtain ⟨r, e, hr⟩ := ao_pre h
      exact ⟨i :: r, by rw [e]; simp, by simp [hr]⟩
theorem ao_ord {n : Nat} : ∀ {d : Nat} {p o : List Int}, p.length + d = n → (∀ i ∈ p, 0 ≤ i ∧ i < n) → p.Nodup → o ∈ ao n d p → Ord n o
  | 0, p, o, hl, hr, hn, h => by
    unfold ao at h
    rw [List.mem_singleton] at h
    subst h
    exact ⟨by omega, hr, hn⟩
  | d + 1, p, o, hl, hr, hn, h => by
    unfold ao at h
    obtain ⟨i, hi, h⟩ := List.mem_flatMap.1 h
    by_cases c : i ∈ p
    · rw [if_pos c] at h; simp at h
    · rw [if_neg c] at h
      refine ao_ord (by simp; omega) (fun j hj => ?_) ?_ h
      · rcases List.mem_append.1 hj with hj | hj
        · exact hr j hj
        · rw [List.mem_singleton] at hj; subst hj; exact ix_mem.1 hi
      · rw [List.nodup_append]
        refine ⟨hn, by simp, fun a ha b hb e => ?_⟩
        rw [List.mem_singleton] at hb
        subst hb e
        exact c ha
theorem ao_mem {n : Nat} : ∀ {d : Nat} {p r : List Int}, r.length = d → Ord n (p ++ r) → p ++ r ∈ ao n d p
  | 0, p, r, hl, ho => by
    rw [List.length_eq_zero_iff.1 hl]
    unfold ao
    simp
  | d + 1, p, [], hl, ho => by simp at hl
  | d + 1, p, i :: r, hl, ho => by
    unfold ao
    refine List.mem_flatMap.2 ⟨i, ix_mem.2 (ho.rng i (by simp)), ?_⟩
    have hn := ho.nodup
    rw [List.nodup_append] at hn
    rw [if_neg (fun h => hn.2.2 i h i (by simp) rfl)]
    have e : p ++ i :: r = (p ++ [i]) ++ r := by simp
    rw [e] at ho ⊢
    exact ao_mem (by simpa using hl) ho
theorem ao_iff {n : Nat} {o : List Int} : o ∈ ao n n [] ↔ Ord n o :=
  ⟨fun h => ao_ord (by simp) (fun i hi => by simp at hi) (by simp) h, fun h => by
    have := ao_mem (p := []) (r := o) h.len (by simpa using h)
    simpa using this⟩
theorem flat_len {α β : Type} {f : α → List β} {B : Nat} : ∀ {l : List α}, (∀ x ∈ l, (f x).length ≤ B) → (l.flatMap f).length ≤ l.length * B
  | [], _ => by simp
  | x :: l, h => by
    rw [List.flatMap_cons, List.length_append, List.length_cons, Nat.add_mul, Nat.one_mul]
    have := flat_len (l := l) (fun x hx => h x (by simp [hx]))
    have := h x (by simp)
    omega
theorem ao_len {n : Nat} (hn : n ≤ 7) : ∀ (d : Nat) (p : List Int), (ao n d p).length ≤ 7 ^ d
  | 0, p => by simp [ao]
  | d + 1, p => by
    unfold ao
    refine Nat.le_trans (flat_len (B := 7 ^ d) (fun i hi => ?_)) ?_
    · split
      · simp
      · exact ao_len hn d _
    · rw [ix_len, Nat.pow_succ, Nat.mul_comm]
      exact Nat.mul_le_mul_left _ hn
theorem filter_flatMap' {α β : Type} (q : β → Bool) (f : α → List β) : ∀ l : List α, (l.flatMap f).filter q = l.flatMap fun x => (f x).filter q
  | [] => rfl
  | x :: l => by rw [List.flatMap_cons, List.flatMap_cons, List.filter_append, filter_flatMap' q f l]
theorem flatMap_congr' {α β : Type} {f g : α → List β} : ∀ {l : List α}, (∀ x ∈ l, f x = g x) → l.flatMap f = l.flatMap g
  | [], _ => rfl
  | x :: l, h => by rw [List.flatMap_cons, List.flatMap_cons, h x (by simp), flatMap_congr' (fun x hx => h x (by simp [hx]))]
theorem s2_nn {l : List (Int × Int)} (hg : Good l) : ∀ {r : List Int}, (∀ i ∈ r, 0 ≤ i ∧ i < l.length) → 0 ≤ s2 (pk l r)
  | [], _ => by simp [pk, s2]
  | i :: r, h => by
    have := s2_nn hg (r := r) (fun i hi => h i (by simp [hi]))
    have hi := h i (by simp)
    have ho := hg.ok _ (sh_mem hi.1 hi.2)
    unfold Ok at ho
    rw [pk_cons', s2]
    omega
where pk_cons' {l : List (Int × Int)} {i : Int} {o : List Int} : pk l (i :: o) = sh l i :: pk l o := rfl
theorem bo_ao {l : List (Int × Int)} (hg : Good l) {g : Int} : ∀ {d : Nat} {p : List Int} {a b : Int}, p.length + d = l.length → (∀ i ∈ p, 0 ≤ i ∧ i < l.length) → p.Nodup → b ≤ g →
    bo l g d p a b = (ao l.length d p).filter fun o => decide (tm a b (pk l (o.drop p.length)) ≤ g)
  | 0, p, a, b, hl, hr, hn, hb => by
    unfold bo ao
    have : decide (tm a b (pk l (p.drop p.length)) ≤ g) = true := by
      rw [List.drop_length]
      exact decide_eq_true hb
    rw [List.filter_cons, this]
    rfl
  | d + 1, p, a, b, hl, hr, hn, hb => by
    unfold bo ao
    rw [filter_flatMap']
    apply flatMap_congr'
    intro i hi
    rw [ix_mem] at hi
    by_cases c : i ∈ p
    · rw [if_pos c, if_pos c]; rfl
    · rw [if_neg c, if_neg c]
      have hl' : (p ++ [i]).length + d = l.length := by simp; omega
      have hr' : ∀ j ∈ p ++ [i], 0 ≤ j ∧ j < l.length := fun j hj => by
        rcases List.mem_append.1 hj with hj | hj
        · exact hr j hj
        · rw [List.mem_singleton] at hj; subst hj; exact hi
      have hn' : (p ++ [i]).Nodup := by
        rw [List.nodup_append]
        refine ⟨hn, by simp, fun a ha b hb e => ?_⟩
        rw [List.mem_singleton] at hb
        subst hb e
        exact c ha
      have key : ∀ o ∈ ao l.length d (p ++ [i]), tm a b (pk l (o.drop p.length)) = tm (a + (sh l i).1) (max (a + (sh l i).1) b + (sh l i).2) (pk l (o.drop (p ++ [i]).length)) := by
        intro o ho
        obtain ⟨r, e, _⟩ := ao_pre ho
        subst e
        have e1 : (p ++ [i] ++ r).drop p.length = i :: r := by simp
        have e2 : (p ++ [i] ++ r).drop (p ++ [i]).length = r := List.drop_left
        rw [e1, e2]
        rfl
      by_cases e : max (a + (sh l i).1) b + (sh l i).2 ≤ g
      · rw [if_pos e, bo_ao hg hl' hr' hn' e]
        apply List.filter_congr
        intro o ho
        rw [key o ho]
      · rw [if_neg e, eq_comm, List.filter_eq_nil_iff]
        intro o ho h
        rw [decide_eq_true_iff, key o ho] at h
        have h1 := tm_low (a + (sh l i).1) (max (a + (sh l i).1) b + (sh l i).2) (pk l (o.drop (p ++ [i]).length))
        have ho' := ao_ord hl' hr' hn' ho
        have h2 := s2_nn hg (r := o.drop (p ++ [i]).length) (fun j hj => ho'.rng j (List.mem_of_mem_drop hj))
        omega
/-- The best orders. -/
def bests (l : List (Int × Int)) : List (List Int) := (ao l.length l.length []).filter fun o => decide (tm 0 0 (pk l o) ≤ best l)
theorem best_nn {l : List (Int × Int)} (hg : Good l) : 0 ≤ best l ∧ best l ≤ 1000 := by
  have := tm_bnd (pk_ok hg (rl_ord l))
  have h7 := hg.len
  rw [pk_len, (rl_ord l).len] at this
  unfold best
  omega
theorem bo_bests {l : List (Int × Int)} (hg : Good l) : bo l (best l) l.length [] 0 0 = bests l := by
  rw [bo_ao hg (by simp) (fun i hi => by simp at hi) (by simp) (best_nn hg).1]
  rfl
theorem bests_eq {l : List (Int × Int)} (hg : Good l) : bests l = (ao l.length l.length []).filter fun o => decide (tm 0 0 (pk l o) = best l) := by
  unfold bests
  apply List.filter_congr
  intro o ho
  have := rl_best hg (ao_iff.1 ho)
  exact decide_eq_decide.2 ⟨fun h => Int.le_antisymm h this, fun h => Int.le_of_eq h⟩
theorem bests_ne {l : List (Int × Int)} (hg : Good l) : rl l ∈ bests l := by
  unfold bests
  rw [List.mem_filter]
  exact ⟨ao_iff.2 (rl_ord l), decide_eq_true (Int.le_refl _)⟩
theorem bests_len {l : List (Int × Int)} (hg : Good l) : (bests l).length ≤ 823543 := by
  unfold bests
  refine Nat.le_trans (List.length_filter_le _ _) (Nat.le_trans (ao_len hg.len _ _) ?_)
  exact Nat.le_trans (Nat.pow_le_pow_right (by omega) hg.len) (by decide)

theorem ix_drop {n k : Nat} (h : k < n) : (ix n).drop k = (k : Int) :: (ix n).drop (k + 1) := by
  rw [drop_cons (by rw [ix_len]; exact h)]
  congr 1
  simp [ix]
theorem snoc_ok {n : Nat} {p : List Int} {i : Int} (hr : ∀ j ∈ p, 0 ≤ j ∧ j < n) (hi : 0 ≤ i ∧ i < n) : ∀ j ∈ p ++ [i], 0 ≤ j ∧ j < n := fun j hj => by
  rcases List.mem_append.1 hj with hj | hj
  · exact hr j hj
  · rw [List.mem_singleton] at hj; subst hj; exact hi

/-- The program's search: how many. -/
theorem count_loop (n : Nat × Nat) (hn : 1000 ≤ n.1) {l : List (Int × Int)} (hg : Good l) (g : Int) (SS : List Int → Int → Int → List (Int × Int) → Int → Int → Option R89f74io0001110) (d : Nat) (p : List Int) (hp : p.length + (d + 1) = l.length) (a b : Int) (a0 : 0 ≤ a) (a1 : a ≤ 50 * p.length) (b0 : 0 ≤ b) (b1 : b ≤ 100 * p.length)
    (hS : ∀ i c e cp : Int, 0 ≤ i ∧ i < l.length → 0 ≤ c → c ≤ 50 * (p.length + 1 : Nat) → 0 ≤ e → e ≤ 100 * (p.length + 1 : Nat) → 0 ≤ cp → cp + (bo l g d (p ++ [i]) c e).length ≤ 1000000 → SS (p ++ [i]) c e l cp g = some (true, l, cp + (bo l g d (p ++ [i]) c e).length, g, ())) :
    ∀ (m k : Nat) (cp : Int), k ≤ l.length → l.length - k < m → 0 ≤ cp → cp + (((ix l.length).drop k).flatMap fun i => if i ∈ p then [] else if max (a + (sh l i).1) b + (sh l i).2 ≤ g then bo l g d (p ++ [i]) (a + (sh l i).1) (max (a + (sh l i).1) b + (sh l i).2) else []).length ≤ 1000000 →
    DL89f74io0001110_1 n SS m p a b l (l.length : Int) (k : Int) g l cp = some (true, l, cp + (((ix l.length).drop k).flatMap fun i => if i ∈ p then [] else if max (a + (sh l i).1) b + (sh l i).2 ≤ g then bo l g d (p ++ [i]) (a + (sh l i).1) (max (a + (sh l i).1) b + (sh l i).2) else []).length, g, ())
  | 0, k, cp, _, h, _, _ => by omega
  | m + 1, k, cp, hk, h, c0, c1 => by
    have h7 := hg.len
    rw [DL89f74io0001110_1_succ]
    unfold DF89f74io0001110_1
    by_cases hlt : k < l.length
    · have hi : 0 ≤ (k : Int) ∧ (k : Int) < l.length := ⟨by omega, by omega⟩
      have ho := hg.ok _ (sh_mem hi.1 hi.2)
      have hj2 : ∀ cp : Int, DL89f74io0001110_2 n SS (DL89f74io0001110_1 n SS m) p a b l (l.length : Int) (k : Int) g l cp = DL89f74io0001110_1 n SS m p a b l (l.length : Int) (wr .i64 ((k : Int) + 1)) g l cp := fun cp => rfl
      have ih := count_loop n hn hg g SS d p hp a b a0 a1 b0 b1 hS m (k + 1)
      rw [ix_drop hlt, List.flatMap_cons, List.length_append] at c1 ⊢
      rw [dlt_t hlt, cond_true, idx_sh hi.1 hi.2, Option.bind_some, contains_eq hn (by omega), Option.bind_some, hj2]
      generalize sh l (k : Int) = s at *
      unfold Ok at ho
      rw [max_if, wr_ok (x := a + s.1) (by omega) (by omega), wr_ok (x := max (a + s.1) b + s.2) (by omega) (by omega), wr_succ (by omega)]
      by_cases c : (k : Int) ∈ p
      · rw [decide_eq_true c, cond_true]
        rw [if_pos c] at c1 ⊢
        rw [ih cp (by omega) (by omega) c0 (by simpa using c1)]
        simp
      · rw [decide_eq_false c, cond_false]
        rw [if_neg c] at c1 ⊢
        by_cases e : max (a + s.1) b + s.2 ≤ g
        · rw [if_pos e] at c1 ⊢
          rw [decide_eq_true e]
          simp only [beq_self_eq_true, cond_true]
          rw [show (true && bounds none (some (p.length : Int)) (some (p.length : Int)) p.length) = true by simp [bounds], cond_true, Int.toNat_natCast, List.take_length, lim_dec (by omega)]
          rw [show (true && (p.isEmpty || ![(k : Int)].isEmpty)) = true by simp, cond_true, hS (k : Int) _ _ cp hi (by omega) (by omega) (by omega) (by omega) c0 (by omega)]
          simp only [Option.bind_some, Bool.not_true, cond_false]
          have := ih (cp + (bo l g d (p ++ [(k : Int)]) (a + s.1) (max (a + s.1) b + s.2)).length) (by omega) (by omega) (by omega) (by omega)
          rw [hj2, wr_succ (by omega), this]
          simp only [Int.natCast_add, Int.add_assoc]
        · rw [if_neg e] at c1 ⊢
          rw [decide_eq_false e]
          simp only [show (false == true) = false from rfl, cond_false]
          refine (show _ = _ from rfl).trans ((ih cp (by omega) (by omega) c0 (by simpa using c1)).trans ?_)
          simp
    · have : k = l.length := by omega
      subst this
      rw [dlt_f (by omega), cond_false, List.drop_of_length_le (by rw [ix_len]; omega)]
      simp
theorem count_rec (n : Nat × Nat) (hn : 1000 ≤ n.1) {l : List (Int × Int)} (hg : Good l) (g : Int) : ∀ (d t : Nat) (p : List Int) (a b cp : Int), d < t → p.length + d = l.length → (∀ j ∈ p, 0 ≤ j ∧ j < l.length) → 0 ≤ a → a ≤ 50 * p.length → 0 ≤ b → b ≤ 100 * p.length → 0 ≤ cp → cp + (bo l g d p a b).length ≤ 1000000 →
    DT89f74io0001110 n t p a b l cp g = some (true, l, cp + (bo l g d p a b).length, g, ())
  | _, 0, _, _, _, _, h, _, _, _, _, _, _, _, _ => by omega
  | 0, t + 1, p, a, b, cp, h, hp, hr, a0, a1, b0, b1, c0, c1 => by
    rw [DT89f74io0001110_succ]
    unfold DB89f74io0001110
    rw [show ((p.length : Int) == (l.length : Int)) = true by simp; omega, cond_true]
    unfold D74io01
    simp only [bo, List.length_singleton] at c1 ⊢
    rw [Option.bind_some, wr_ok (by omega) (by omega)]
    rfl
  | d + 1, t + 1, p, a, b, cp, h, hp, hr, a0, a1, b0, b1, c0, c1 => by
    rw [DT89f74io0001110_succ]
    unfold DB89f74io0001110
    rw [show ((p.length : Int) == (l.length : Int)) = false from beq_false_of_ne (by omega), cond_false]
    have h7 := hg.len
    have := count_loop n hn hg g (DT89f74io0001110 n t) d p hp a b a0 a1 b0 b1 (fun i c e cp hi c0 c1 e0 e1 p0 p1 => by
      exact count_rec n hn hg g d t (p ++ [i]) c e cp (by omega) (by simp; omega) (snoc_ok hr hi) c0 (by simpa using c1) e0 (by simpa using e1) p0 p1) n.1 0 cp (by omega) (by omega) c0 (by simpa [bo] using c1)
    simpa [bo] using this

/-- The program's search: the first one. -/
def fo (l : List (Int × Int)) (g : Int) (cp : List Int) : List (List Int) → R89f72io0001110
  | [] => (true, l, cp, g, ())
  | o :: _ => (false, l, o, g, ())
theorem fo_append (l : List (Int × Int)) (g : Int) (cp : List Int) (A B : List (List Int)) : fo l g cp (A ++ B) = if A = [] then fo l g cp B else fo l g cp A := by
  cases A with
  | nil => simp
  | cons o A => simp [fo]
theorem first_loop (n : Nat × Nat) (hn : 1000 ≤ n.1) {l : List (Int × Int)} (hg : Good l) (g : Int) (SS : List Int → Int → Int → List (Int × Int) → List Int → Int → Option R89f72io0001110) (d : Nat) (p : List Int) (hp : p.length + (d + 1) = l.length) (a b : Int) (a0 : 0 ≤ a) (a1 : a ≤ 50 * p.length) (b0 : 0 ≤ b) (b1 : b ≤ 100 * p.length) (cp : List Int)
    (hS : ∀ i c e : Int, 0 ≤ i ∧ i < l.length → 0 ≤ c → c ≤ 50 * (p.length + 1 : Nat) → 0 ≤ e → e ≤ 100 * (p.length + 1 : Nat) → SS (p ++ [i]) c e l cp g = some (fo l g cp (bo l g d (p ++ [i]) c e))) :
    ∀ (m k : Nat), k ≤ l.length → l.length - k < m →
    DL89f72io0001110_1 n SS m p a b l (l.length : Int) (k : Int) g l cp = some (fo l g cp (((ix l.length).drop k).flatMap fun i => if i ∈ p then [] else if max (a + (sh l i).1) b + (sh l i).2 ≤ g then bo l g d (p ++ [i]) (a + (sh l i).1) (max (a + (sh l i).1) b + (sh l i).2) else []))
  | 0, k, _, h => by omega
  | m + 1, k, hk, h => by
    have h7 := hg.len
    rw [DL89f72io0001110_1_succ]
    unfold DF89f72io0001110_1
    by_cases hlt : k < l.length
    · have hi : 0 ≤ (k : Int) ∧ (k : Int) < l.length := ⟨by omega, by omega⟩
      have ho := hg.ok _ (sh_mem hi.1 hi.2)
      have hj2 : ∀ cp : List Int, DL89f72io0001110_2 n SS (DL89f72io0001110_1 n SS m) p a b l (l.length : Int) (k : Int) g l cp = DL89f72io0001110_1 n SS m p a b l (l.length : Int) (wr .i64 ((k : Int) + 1)) g l cp := fun cp => rfl
      have ih := first_loop n hn hg g SS d p hp a b a0 a1 b0 b1 cp hS m (k + 1) (by omega) (by omega)
      rw [ix_drop hlt, List.flatMap_cons, fo_append]
      rw [dlt_t hlt, cond_true, idx_sh hi.1 hi.2, Option.bind_some, contains_eq hn (by omega), Option.bind_some, hj2]
      generalize sh l (k : Int) = s at *
      unfold Ok at ho
      rw [max_if, wr_ok (x := a + s.1) (by omega) (by omega), wr_ok (x := max (a + s.1) b + s.2) (by omega) (by omega), wr_succ (by omega)]
      by_cases c : (k : Int) ∈ p
      · rw [decide_eq_true c, cond_true, if_pos c, if_pos rfl, ih]
      · rw [decide_eq_false c, cond_false, if_neg c]
        by_cases e : max (a + s.1) b + s.2 ≤ g
        · rw [if_pos e, decide_eq_true e]
          simp only [beq_self_eq_true, cond_true]
          rw [show (true && bounds none (some (p.length : Int)) (some (p.length : Int)) p.length) = true by simp [bounds], cond_true, Int.toNat_natCast, List.take_length, lim_dec (by omega)]
          rw [show (true && (p.isEmpty || ![(k : Int)].isEmpty)) = true by simp, cond_true, hS (k : Int) _ _ hi (by omega) (by omega) (by omega) (by omega)]
          cases bo l g d (p ++ [(k : Int)]) (a + s.1) (max (a + s.1) b + s.2) with
          | nil =>
            rw [if_pos rfl, ← ih, ← wr_succ (by omega), ← hj2]
            rfl
          | cons o A =>
            rw [if_neg (by simp)]
            simp only [fo, Option.bind_some, Bool.not_false, cond_true]
        · rw [if_neg e, if_pos rfl, decide_eq_false e]
          simp only [show (false == true) = false from rfl, cond_false]
          exact ih
    · have : k = l.length := by omega
      subst this
      rw [dlt_f (by omega), cond_false, List.drop_of_length_le (by rw [ix_len]; omega)]
      rfl
theorem first_rec (n : Nat × Nat) (hn : 1000 ≤ n.1) {l : List (Int × Int)} (hg : Good l) (g : Int) (cp : List Int) : ∀ (d t : Nat) (p : List Int) (a b : Int), d < t → p.length + d = l.length → (∀ j ∈ p, 0 ≤ j ∧ j < l.length) → 0 ≤ a → a ≤ 50 * p.length → 0 ≤ b → b ≤ 100 * p.length →
    DT89f72io0001110 n t p a b l cp g = some (fo l g cp (bo l g d p a b))
  | _, 0, _, _, _, h, _, _, _, _, _, _ => by omega
  | 0, t + 1, p, a, b, h, hp, hr, a0, a1, b0, b1 => by
    rw [DT89f72io0001110_succ]
    unfold DB89f72io0001110
    rw [show ((p.length : Int) == (l.length : Int)) = true by simp; omega, cond_true]
    unfold D72io01
    rfl
  | d + 1, t + 1, p, a, b, h, hp, hr, a0, a1, b0, b1 => by
    rw [DT89f72io0001110_succ]
    unfold DB89f72io0001110
    rw [show ((p.length : Int) == (l.length : Int)) = false from beq_false_of_ne (by omega), cond_false]
    have h7 := hg.len
    have := first_loop n hn hg g (DT89f72io0001110 n t) d p hp a b a0 a1 b0 b1 cp (fun i c e hi c0 c1 e0 e1 => by
      exact first_rec n hn hg g cp d t (p ++ [i]) c e (by omega) (by simp; omega) (snoc_ok hr hi) c0 (by simpa using c1) e0 (by simpa using e1)) n.1 0 (by omega) (by omega)
    simpa [bo] using this

theorem least_eq {n : Nat × Nat} (hn : 1000 ≤ n.1) {l : List (Int × Int)} (hg : Good l) : D88 n l = some (best l) := by
  have ho := rl_ord l
  unfold D88
  rw [rule_eq hn hg, Option.bind_some, put_eq hn (by rw [ho.len]; have := hg.len; omega), put_ord hg ho, Option.bind_some, time_eq hn (ord_pk hg ho).1 (ord_pk hg ho).2 (pk_ok hg ho)]
  rfl
def countS (l : List (Int × Int)) : Int × Int := if chk l ≠ 0 then (0, chk l) else ((bests l).length, 0)
def firstS (l : List (Int × Int)) : List Int × Int := if chk l ≠ 0 then ([], chk l) else ((bests l).headD [], 0)
theorem Count_eq {n : Nat × Nat} (hn : 1000 ≤ n.1) (l : List (Int × Int)) : D31 n l = some (countS l) := by
  unfold D31 countS
  rw [chk_eq hn, Option.bind_some]
  by_cases h : chk l = 0
  · have hg := chk_good.1 h
    have h7 := hg.len
    have hb := bests_len hg
    rw [show (chk l != 0) = false by simp [h], cond_false, if_neg (by simpa using h)]
    unfold D71c74io01 D89f74io0001110
    rw [least_eq hn hg, Option.bind_some]
    have := count_rec n hn hg (best l) l.length n.1 [] 0 0 0 (by omega) (by simp) (fun j hj => by simp at hj) (by omega) (by simp) (by omega) (by simp) (by omega) (by rw [bo_bests hg]; omega)
    rw [bo_bests hg] at this
    rw [this]
    simp
  · rw [show (chk l != 0) = true by simpa using h, cond_true, if_pos h]
theorem First_eq {n : Nat × Nat} (hn : 1000 ≤ n.1) (l : List (Int × Int)) : D29 n l = some (firstS l) := by
  unfold D29 firstS
  rw [chk_eq hn, Option.bind_some]
  by_cases h : chk l = 0
  · have hg := chk_good.1 h
    have h7 := hg.len
    rw [show (chk l != 0) = false by simp [h], cond_false, if_neg (by simpa using h)]
    unfold D71c72io01 D89f72io0001110
    rw [least_eq hn hg, Option.bind_some]
    have := first_rec n hn hg (best l) [] l.length n.1 [] 0 0 (by omega) (by simp) (fun j hj => by simp at hj) (by omega) (by simp) (by omega) (by simp)
    rw [bo_bests hg] at this
    rw [this]
    cases bests l <;> rfl
  · rw [show (chk l != 0) = true by simpa using h, cond_true, if_pos h]

end Go.Proofs.Ytnlbhjmbaedadaa
set_option linter.unusedVariables false
set_option linter.unusedSimpArgs false
set_option maxRecDepth 100000
namespace Go.Proofs.Ytnlbhjmbaedadaa
open Go.Vi
abbrev R49 := List Int
noncomputable def c49 : Code := bodyOf Try.f49
noncomputable def an49 : Ann := (.s .l (.s .l (.s (.s .l (.j [5] (.j [0, 1, 5, 15, 16] (.s .l (.s (.j [0, 1, 5, 15, 16] .l .l) (.s (.j [0, 1, 5, 15, 16] (.s .l (.s .l (.s (.s .l (.j [0, 1, 5, 7, 15, 16] (.j [0, 1, 5, 6, 7, 15, 16, 20, 21] (.s .l (.s (.j [0, 1, 5, 6, 7, 15, 16, 20, 21] .l .l) (.s (.j [0, 1, 5, 6, 7, 15, 16, 20, 21] (.s .l (.s .l (.s (.s .l (.j [0, 1, 5, 6, 7, 8, 9, 15, 16, 20, 21] (.j [0, 1, 5, 6, 7, 8, 9, 15, 16, 20, 21, 27, 28, 29] (.s .l (.s (.j [0, 1, 5, 6, 7, 8, 9, 15, 16, 20, 21, 27, 28, 29] .l .l) (.s (.j [0, 1, 5, 6, 7, 8, 9, 15, 16, 20, 21, 27, 28, 29] .l .l) .l))) .l) .l)) (.s (.s .l (.j [0, 1, 5, 6, 7, 9, 15, 16, 20, 21] (.j [0, 1, 5, 6, 7, 9, 15, 16, 20, 21, 45, 46, 47] (.s .l (.s (.j [0, 1, 5, 6, 7, 9, 15, 16, 20, 21, 45, 46, 47] .l .l) (.s (.j [0, 1, 5, 6, 7, 9, 15, 16, 20, 21, 45, 46, 47] .l .l) .l))) .l) .l)) .l)))) .l) .l))) .l) .l)) .l))) .l) .l))) .l) .l)) .l)))
def pk49 : List PK := [.c (.sl (.pair (.int .i64) (.int .i64))), .c (.sl (.int .i64))]
def rk49 : List RK := [.own (.int .i64) 4]
noncomputable def rt49 (st : St) : Option R49 := rtG rk49 st
noncomputable def E49 (n : Nat × Nat) : Env := { T := tab, phi := noPhi, eff := fun _ => false, fuel := n.1, hold := n.2 }
noncomputable def kq49_1 (n : Nat × Nat) : St → Option R49 := run (E49 n) (cB (cB (cB c49))) (Ann.snd (Ann.snd (Ann.snd an49))) rt49 (fun _ _ => none) rt49
noncomputable def kc49_2 (n : Nat × Nat) : St → Option R49 := fun s => normC [5] s (kq49_1 n)
noncomputable def xb49_3 (n : Nat × Nat) : Nat → St → Option R49 := fun j s => bif Nat.beq j 0 then normC [5] s (kq49_1 n) else (fun _ _ => none) j s
noncomputable def F49_4 (n : Nat × Nat) : (St → Option R49) → St → Option R49 := fun K s => run (E49 n) (cA (cA (cB (cA (cB (cB c49)))))) (Ann.fst (Ann.fst (Ann.snd (Ann.fst (Ann.snd (Ann.snd an49)))))) (fun s => normC [0, 1, 5, 15, 16] s K) (xb49_3 n) rt49 s
noncomputable def kq49_5 (n : Nat × Nat) (m1 : Nat) : St → Option R49 := run (E49 n) (cB (cB (cA (cA (cB (cA (cB (cB c49)))))))) (Ann.snd (Ann.snd (Ann.fst (Ann.fst (Ann.snd (Ann.fst (Ann.snd (Ann.snd an49)))))))) (fun s => normC [0, 1, 5, 15, 16] s (loopN (F49_4 n) m1)) (xb49_3 n) rt49
noncomputable def kc49_6 (n : Nat × Nat) (m1 : Nat) : St → Option R49 := fun s => normC [0, 1, 5, 15, 16] s (kq49_5 n m1)
noncomputable def kq49_7 (n : Nat × Nat) (m1 : Nat) : St → Option R49 := run (E49 n) (cB (cB (cB (cA (cA (cB (cA (cB (cB c49))))))))) (Ann.snd (Ann.snd (Ann.snd (Ann.fst (Ann.fst (Ann.snd (Ann.fst (Ann.snd (Ann.snd an49))))))))) (fun s => normC [0, 1, 5, 15, 16] s (loopN (F49_4 n) m1)) (xb49_3 n) rt49
noncomputable def kc49_8 (n : Nat × Nat) (m1 : Nat) : St → Option R49 := fun s => normC [0, 1, 5, 15, 16] s (kq49_7 n m1)
noncomputable def xb49_9 (n : Nat × Nat) (m1 : Nat) : Nat → St → Option R49 := fun j s => bif Nat.beq j 1 then normC [0, 1, 5, 15, 16] s (kq49_7 n m1) else (xb49_3 n) j s
noncomputable def kq49_10 (n : Nat × Nat) (m1 : Nat) : St → Option R49 := run (E49 n) (cB (cB (cB (cA (cA (cB (cB (cA (cA (cB (cA (cB (cB c49))))))))))))) (Ann.snd (Ann.snd (Ann.snd (Ann.fst (Ann.fst (Ann.snd (Ann.snd (Ann.fst (Ann.fst (Ann.snd (Ann.fst (Ann.snd (Ann.snd an49))))))))))))) (kc49_8 n m1) (xb49_9 n m1) rt49
noncomputable def kc49_11 (n : Nat × Nat) (m1 : Nat) : St → Option R49 := fun s => normC [0, 1, 5, 7, 15, 16] s (kq49_10 n m1)
noncomputable def xb49_12 (n : Nat × Nat) (m1 : Nat) : Nat → St → Option R49 := fun j s => bif Nat.beq j 2 then normC [0, 1, 5, 7, 15, 16] s (kq49_10 n m1) else (xb49_9 n m1) j s
noncomputable def F49_13 (n : Nat × Nat) (m1 : Nat) : (St → Option R49) → St → Option R49 := fun K s => run (E49 n) (cA (cA (cB (cA (cB (cB (cA (cA (cB (cB (cA (cA (cB (cA (cB (cB c49)))))))))))))))) (Ann.fst (Ann.fst (Ann.snd (Ann.fst (Ann.snd (Ann.snd (Ann.fst (Ann.fst (Ann.snd (Ann.snd (Ann.fst (Ann.fst (Ann.snd (Ann.fst (Ann.snd (Ann.snd an49)))))))))))))))) (fun s => normC [0, 1, 5, 6, 7, 15, 16, 20, 21] s K) (xb49_12 n m1) rt49 s
noncomputable def kq49_14 (n : Nat × Nat) (m1 m2 : Nat) : St → Option R49 := run (E49 n) (cB (cB (cA (cA (cB (cA (cB (cB (cA (cA (cB (cB (cA (cA (cB (cA (cB (cB c49)))))))))))))))))) (Ann.snd (Ann.snd (Ann.fst (Ann.fst (Ann.snd (Ann.fst (Ann.snd (Ann.snd (Ann.fst (Ann.fst (Ann.snd (Ann.snd (Ann.fst (Ann.fst (Ann.snd (Ann.fst (Ann.snd (Ann.snd an49)))))))))))))))))) (fun s => normC [0, 1, 5, 6, 7, 15, 16, 20, 21] s (loopN (F49_13 n m1) m2)) (xb49_12 n m1) rt49
noncomputable def kc49_15 (n : Nat × Nat) (m1 m2 : Nat) : St → Option R49 := fun s => normC [0, 1, 5, 6, 7, 15, 16, 20, 21] s (kq49_14 n m1 m2)
noncomputable def kq49_16 (n : Nat × Nat) (m1 m2 : Nat) : St → Option R49 := run (E49 n) (cB (cB (cB (cA (cA (cB (cA (cB (cB (cA (cA (cB (cB (cA (cA (cB (cA (cB (cB c49))))))))))))))))))) (Ann.snd (Ann.snd (Ann.snd (Ann.fst (Ann.fst (Ann.snd (Ann.fst (Ann.snd (Ann.snd (Ann.fst (Ann.fst (Ann.snd (Ann.snd (Ann.fst (Ann.fst (Ann.snd (Ann.fst (Ann.snd (Ann.snd an49))))))))))))))))))) (fun s => normC [0, 1, 5, 6, 7, 15, 16, 20, 21] s (loopN (F49_13 n m1) m2)) (xb49_12 n m1) rt49
noncomputable def kc49_17 (n : Nat × Nat) (m1 m2 : Nat) : St → Option R49 := fun s => normC [0, 1, 5, 6, 7, 15, 16, 20, 21] s (kq49_16 n m1 m2)
noncomputable def xb49_18 (n : Nat × Nat) (m1 m2 : Nat) : Nat → St → Option R49 := fun j s => bif Nat.beq j 3 then normC [0, 1, 5, 6, 7, 15, 16, 20, 21] s (kq49_16 n m1 m2) else (xb49_12 n m1) j s
noncomputable def kq49_19 (n : Nat × Nat) (m1 m2 : Nat) : St → Option R49 := run (E49 n) (cB (cB (cB (cA (cA (cB (cB (cA (cA (cB (cA (cB (cB (cA (cA (cB (cB (cA (cA (cB (cA (cB (cB c49))))))))))))))))))))))) (Ann.snd (Ann.snd (Ann.snd (Ann.fst (Ann.fst (Ann.snd (Ann.snd (Ann.fst (Ann.fst (Ann.snd (Ann.fst (Ann.snd (Ann.snd (Ann.fst (Ann.fst (Ann.snd (Ann.snd (Ann.fst (Ann.fst (Ann.snd (Ann.fst (Ann.snd (Ann.snd an49))))))))))))))))))))))) (kc49_17 n m1 m2) (xb49_18 n m1 m2) rt49
noncomputable def kc49_20 (n : Nat × Nat) (m1 m2 : Nat) : St → Option R49 := fun s => normC [0, 1, 5, 6, 7, 8, 9, 15, 16, 20, 21] s (kq49_19 n m1 m2)
noncomputable def xb49_21 (n : Nat × Nat) (m1 m2 : Nat) : Nat → St → Option R49 := fun j s => bif Nat.beq j 4 then normC [0, 1, 5, 6, 7, 8, 9, 15, 16, 20, 21] s (kq49_19 n m1 m2) else (xb49_18 n m1 m2) j s
noncomputable def F49_22 (n : Nat × Nat) (m1 m2 : Nat) : (St → Option R49) → St → Option R49 := fun K s => run (E49 n) (cA (cA (cB (cA (cB (cB (cA (cA (cB (cB (cA (cA (cB (cA (cB (cB (cA (cA (cB (cB (cA (cA (cB (cA (cB (cB c49)))))))))))))))))))))))))) (Ann.fst (Ann.fst (Ann.snd (Ann.fst (Ann.snd (Ann.snd (Ann.fst (Ann.fst (Ann.snd (Ann.snd (Ann.fst (Ann.fst (Ann.snd (Ann.fst (Ann.snd (Ann.snd (Ann.fst (Ann.fst (Ann.snd (Ann.snd (Ann.fst (Ann.fst (Ann.snd (Ann.fst (Ann.snd (Ann.snd an49)))))))))))))))))))))))))) (fun s => normC [0, 1, 5, 6, 7, 8, 9, 15, 16, 20, 21, 27, 28, 29] s K) (xb49_21 n m1 m2) rt49 s
noncomputable def kq49_23 (n : Nat × Nat) (m1 m2 m3 : Nat) : St → Option R49 := run (E49 n) (cB (cB (cA (cA (cB (cA (cB (cB (cA (cA (cB (cB (cA (cA (cB (cA (cB (cB (cA (cA (cB (cB (cA (cA (cB (cA (cB (cB c49)))))))))))))))))))))))))))) (Ann.snd (Ann.snd (Ann.fst (Ann.fst (Ann.snd (Ann.fst (Ann.snd (Ann.snd (Ann.fst (Ann.fst (Ann.snd (Ann.snd (Ann.fst (Ann.fst (Ann.snd (Ann.fst (Ann.snd (Ann.snd (Ann.fst (Ann.fst (Ann.snd (Ann.snd (Ann.fst (Ann.fst (Ann.snd (Ann.fst (Ann.snd (Ann.snd an49)))))))))))))))))))))))))))) (fun s => normC [0, 1, 5, 6, 7, 8, 9, 15, 16, 20, 21, 27, 28, 29] s (loopN (F49_22 n m1 m2) m3)) (xb49_21 n m1 m2) rt49
noncomputable def kc49_24 (n : Nat × Nat) (m1 m2 m3 : Nat) : St → Option R49 := fun s => normC [0, 1, 5, 6, 7, 8, 9, 15, 16, 20, 21, 27, 28, 29] s (kq49_23 n m1 m2 m3)
noncomputable def kq49_25 (n : Nat × Nat) (m1 m2 m3 : Nat) : St → Option R49 := run (E49 n) (cB (cB (cB (cA (cA (cB (cA (cB (cB (cA (cA (cB (cB (cA (cA (cB (cA (cB (cB (cA (cA (cB (cB (cA (cA (cB (cA (cB (cB c49))))))))))))))))))))))))))))) (Ann.snd (Ann.snd (Ann.snd (Ann.fst (Ann.fst (Ann.snd (Ann.fst (Ann.snd (Ann.snd (Ann.fst (Ann.fst (Ann.snd (Ann.snd (Ann.fst (Ann.fst (Ann.snd (Ann.fst (Ann.snd (Ann.snd (Ann.fst (Ann.fst (Ann.snd (Ann.snd (Ann.fst (Ann.fst (Ann.snd (Ann.fst (Ann.snd (Ann.snd an49))))))))))))))))))))))))))))) (fun s => normC [0, 1, 5, 6, 7, 8, 9, 15, 16, 20, 21, 27, 28, 29] s (loopN (F49_22 n m1 m2) m3)) (xb49_21 n m1 m2) rt49
noncomputable def kc49_26 (n : Nat × Nat) (m1 m2 m3 : Nat) : St → Option R49 := fun s => normC [0, 1, 5, 6, 7, 8, 9, 15, 16, 20, 21, 27, 28, 29] s (kq49_25 n m1 m2 m3)
noncomputable def xb49_27 (n : Nat × Nat) (m1 m2 m3 : Nat) : Nat → St → Option R49 := fun j s => bif Nat.beq j 5 then normC [0, 1, 5, 6, 7, 8, 9, 15, 16, 20, 21, 27, 28, 29] s (kq49_25 n m1 m2 m3) else (xb49_21 n m1 m2) j s
noncomputable def kq49_28 (n : Nat × Nat) (m1 m2 : Nat) : St → Option R49 := run (E49 n) (cB (cB (cB (cB (cA (cA (cB (cB (cA (cA (cB (cA (cB (cB (cA (cA (cB (cB (cA (cA (cB (cA (cB (cB c49)))))))))))))))))))))))) (Ann.snd (Ann.snd (Ann.snd (Ann.snd (Ann.fst (Ann.fst (Ann.snd (Ann.snd (Ann.fst (Ann.fst (Ann.snd (Ann.fst (Ann.snd (Ann.snd (Ann.fst (Ann.fst (Ann.snd (Ann.snd (Ann.fst (Ann.fst (Ann.snd (Ann.fst (Ann.snd (Ann.snd an49)))))))))))))))))))))))) (kc49_17 n m1 m2) (xb49_18 n m1 m2) rt49
noncomputable def kc49_29 (n : Nat × Nat) (m1 m2 : Nat) : St → Option R49 := fun s => normC [0, 1, 5, 6, 7, 9, 15, 16, 20, 21] s (kq49_28 n m1 m2)
noncomputable def xb49_30 (n : Nat × Nat) (m1 m2 : Nat) : Nat → St → Option R49 := fun j s => bif Nat.beq j 6 then normC [0, 1, 5, 6, 7, 9, 15, 16, 20, 21] s (kq49_28 n m1 m2) else (xb49_18 n m1 m2) j s
noncomputable def F49_31 (n : Nat × Nat) (m1 m2 : Nat) : (St → Option R49) → St → Option R49 := fun K s => run (E49 n) (cA (cA (cB (cA (cB (cB (cB (cA (cA (cB (cB (cA (cA (cB (cA (cB (cB (cA (cA (cB (cB (cA (cA (cB (cA (cB (cB c49))))))))))))))))))))))))))) (Ann.fst (Ann.fst (Ann.snd (Ann.fst (Ann.snd (Ann.snd (Ann.snd (Ann.fst (Ann.fst (Ann.snd (Ann.snd (Ann.fst (Ann.fst (Ann.snd (Ann.fst (Ann.snd (Ann.snd (Ann.fst (Ann.fst (Ann.snd (Ann.snd (Ann.fst (Ann.fst (Ann.snd (Ann.fst (Ann.snd (Ann.snd an49))))))))))))))))))))))))))) (fun s => normC [0, 1, 5, 6, 7, 9, 15, 16, 20, 21, 45, 46, 47] s K) (xb49_30 n m1 m2) rt49 s
noncomputable def kq49_32 (n : Nat × Nat) (m1 m2 m3 : Nat) : St → Option R49 := run (E49 n) (cB (cB (cA (cA (cB (cA (cB (cB (cB (cA (cA (cB (cB (cA (cA (cB (cA (cB (cB (cA (cA (cB (cB (cA (cA (cB (cA (cB (cB c49))))))))))))))))))))))))))))) (Ann.snd (Ann.snd (Ann.fst (Ann.fst (Ann.snd (Ann.fst (Ann.snd (Ann.snd (Ann.snd (Ann.fst (Ann.fst (Ann.snd (Ann.snd (Ann.fst (Ann.fst (Ann.snd (Ann.fst (Ann.snd (Ann.snd (Ann.fst (Ann.fst (Ann.snd (Ann.snd (Ann.fst (Ann.fst (Ann.snd (Ann.fst (Ann.snd (Ann.snd an49))))))))))))))))))))))))))))) (fun s => normC [0, 1, 5, 6, 7, 9, 15, 16, 20, 21, 45, 46, 47] s (loopN (F49_31 n m1 m2) m3)) (xb49_30 n m1 m2) rt49
noncomputable def kc49_33 (n : Nat × Nat) (m1 m2 m3 : Nat) : St → Option R49 := fun s => normC [0, 1, 5, 6, 7, 9, 15, 16, 20, 21, 45, 46, 47] s (kq49_32 n m1 m2 m3)
noncomputable def kq49_34 (n : Nat × Nat) (m1 m2 m3 : Nat) : St → Option R49 := run (E49 n) (cB (cB (cB (cA (cA (cB (cA (cB (cB (cB (cA (cA (cB (cB (cA (cA (cB (cA (cB (cB (cA (cA (cB (cB (cA (cA (cB (cA (cB (cB c49)))))))))))))))))))))))))))))) (Ann.snd (Ann.snd (Ann.snd (Ann.fst (Ann.fst (Ann.snd (Ann.fst (Ann.snd (Ann.snd (Ann.snd (Ann.fst (Ann.fst (Ann.snd (Ann.snd (Ann.fst (Ann.fst (Ann.snd (Ann.fst (Ann.snd (Ann.snd (Ann.fst (Ann.fst (Ann.snd (Ann.snd (Ann.fst (Ann.fst (Ann.snd (Ann.fst (Ann.snd (Ann.snd an49)))))))))))))))))))))))))))))) (fun s => normC [0, 1, 5, 6, 7, 9, 15, 16, 20, 21, 45, 46, 47] s (loopN (F49_31 n m1 m2) m3)) (xb49_30 n m1 m2) rt49
noncomputable def kc49_35 (n : Nat × Nat) (m1 m2 m3 : Nat) : St → Option R49 := fun s => normC [0, 1, 5, 6, 7, 9, 15, 16, 20, 21, 45, 46, 47] s (kq49_34 n m1 m2 m3)
noncomputable def xb49_36 (n : Nat × Nat) (m1 m2 m3 : Nat) : Nat → St → Option R49 := fun j s => bif Nat.beq j 7 then normC [0, 1, 5, 6, 7, 9, 15, 16, 20, 21, 45, 46, 47] s (kq49_34 n m1 m2 m3) else (xb49_30 n m1 m2) j s
noncomputable def L49_1 (n : Nat × Nat) (m : Nat) (l0 : List (Int × Int)) (order1 : List Int) (v15 : Int) (v16 : Int) (out5 : List Int) : Option R49 := loopN (F49_4 n) m { tm := [.c (.sl (.pair (.int .i64) (.int .i64)) l0 false), .c (.sl (.int .i64) order1 false), uu, uu, uu, .own 5 none false, uu, uu, uu, uu, uu, uu, uu, uu, uu, .c (.int .i64 v15), .c (.int .i64 v16), uu, uu, uu, uu, uu, uu, uu, uu, uu, uu, uu, uu, uu, uu, uu, uu, uu, uu, uu, uu, uu, uu, uu, uu, uu, uu, uu, uu, uu, uu, uu, uu, uu, uu, uu, uu, uu, uu, uu, uu, uu, uu, uu, uu, uu, uu, uu, uu, uu, uu, uu, uu], hp := (upd emp 5 (.arr (.int .i64) out5 true)) }
noncomputable def L49_2 (n : Nat × Nat) (m1 : Nat) (m : Nat) (l0 : List (Int × Int)) (order1 : List Int) (p6 : Int) (most7 : Int) (v15 : Int) (v16 : Int) (v20 : Int) (v21 : Int) (out5 : List Int) : Option R49 := loopN (F49_13 n m1) m { tm := [.c (.sl (.pair (.int .i64) (.int .i64)) l0 false), .c (.sl (.int .i64) order1 false), uu, uu, uu, .own 5 none false, .c (.int .i64 p6), .c (.int .i64 most7), uu, uu, uu, uu, uu, uu, uu, .c (.int .i64 v15), .c (.int .i64 v16), uu, uu, uu, .c (.int .i64 v20), .c (.int .i64 v21), uu, uu, uu, uu, uu, uu, uu, uu, uu, uu, uu, uu, uu, uu, uu, uu, uu, uu, uu, uu, uu, uu, uu, uu, uu, uu, uu, uu, uu, uu, uu, uu, uu, uu, uu, uu, uu, uu, uu, uu, uu, uu, uu, uu, uu, uu, uu], hp := (upd emp 5 (.arr (.int .i64) out5 true)) }
noncomputable def L49_3 (n : Nat × Nat) (m1 m2 : Nat) (m : Nat) (l0 : List (Int × Int)) (order1 : List Int) (p6 : Int) (most7 : Int) (q8 : Int) (v9 : Int) (v15 : Int) (v16 : Int) (v20 : Int) (v21 : Int) (v27 : List Int) (v28 : Int) (v29 : Int) (out5 : List Int) : Option R49 := loopN (F49_22 n m1 m2) m { tm := [.c (.sl (.pair (.int .i64) (.int .i64)) l0 false), .c (.sl (.int .i64) order1 false), uu, uu, uu, .own 5 none false, .c (.int .i64 p6), .c (.int .i64 most7), .c (.int .i64 q8), .c (.int .i64 v9), uu, uu, uu, uu, uu, .c (.int .i64 v15), .c (.int .i64 v16), uu, uu, uu, .c (.int .i64 v20), .c (.int .i64 v21), uu, uu, uu, uu, uu, .c (.sl (.int .i64) v27 false), .c (.int .i64 v28), .c (.int .i64 v29), uu, uu, uu, uu, uu, uu, uu, uu, uu, uu, uu, uu, uu, uu, uu, uu, uu, uu, uu, uu, uu, uu, uu, uu, uu, uu, uu, uu, uu, uu, uu, uu, uu, uu, uu, uu, uu, uu, uu], hp := (upd emp 5 (.arr (.int .i64) out5 true)) }
noncomputable def L49_4 (n : Nat × Nat) (m1 m2 : Nat) (m : Nat) (l0 : List (Int × Int)) (order1 : List Int) (p6 : Int) (most7 : Int) (v9 : Int) (v15 : Int) (v16 : Int) (v20 : Int) (v21 : Int) (v45 : List Int) (v46 : Int) (v47 : Int) (out5 : List Int) : Option R49 := loopN (F49_31 n m1 m2) m { tm := [.c (.sl (.pair (.int .i64) (.int .i64)) l0 false), .c (.sl (.int .i64) order1 false), uu, uu, uu, .own 5 none false, .c (.int .i64 p6), .c (.int .i64 most7), uu, .c (.int .i64 v9), uu, uu, uu, uu, uu, .c (.int .i64 v15), .c (.int .i64 v16), uu, uu, uu, .c (.int .i64 v20), .c (.int .i64 v21), uu, uu, uu, uu, uu, uu, uu, uu, uu, uu, uu, uu, uu, uu, uu, uu, uu, uu, uu, uu, uu, uu, uu, .c (.sl (.int .i64) v45 false), .c (.int .i64 v46), .c (.int .i64 v47), uu, uu, uu, uu, uu, uu, uu, uu, uu, uu, uu, uu, uu, uu, uu, uu, uu, uu, uu, uu, uu], hp := (upd emp 5 (.arr (.int .i64) out5 true)) }
theorem L49_1_eq (n : Nat × Nat) (m1 : Nat) (l0 : List (Int × Int)) (order1 : List Int) (v15 : Int) (v16 : Int) (out5 : List Int) : L49_1 n (m1 + 1) l0 order1 v15 v16 out5 =
    (bif decide (v16 < v15) then L49_2 n m1 n.1 l0 order1 v16 0 v15 v16 (wr .i64 (v16 + 1)) 0 out5
    else some out5) := by kernel_rfl
theorem L49_2_eq (n : Nat × Nat) (m1 m2 : Nat) (l0 : List (Int × Int)) (order1 : List Int) (p6 : Int) (most7 : Int) (v15 : Int) (v16 : Int) (v20 : Int) (v21 : Int) (out5 : List Int) : L49_2 n m1 (m2 + 1) l0 order1 p6 most7 v15 v16 v20 v21 out5 =
    (bif decide (v21 < v20) then (bif bounds none (some (wr .i64 (v21 + 1))) none order1.length then L49_3 n m1 m2 n.1 l0 order1 p6 most7 v21 0 v15 v16 v20 v21 (order1.take (Int.toNat (wr .i64 (v21 + 1)))) ((order1.take (Int.toNat (wr .i64 (v21 + 1)))).length : Int) 0 out5
      else none)
    else (bif decide (out5.length + [most7].length ≤ lim) then L49_1 n m1 l0 order1 v15 (wr .i64 (v16 + 1)) (out5 ++ [most7])
      else none)) := by kernel_rfl
theorem L49_3_eq (n : Nat × Nat) (m1 m2 m3 : Nat) (l0 : List (Int × Int)) (order1 : List Int) (p6 : Int) (most7 : Int) (q8 : Int) (v9 : Int) (v15 : Int) (v16 : Int) (v20 : Int) (v21 : Int) (v27 : List Int) (v28 : Int) (v29 : Int) (out5 : List Int) : L49_3 n m1 m2 (m3 + 1) l0 order1 p6 most7 q8 v9 v15 v16 v20 v21 v27 v28 v29 out5 =
    (bif decide (v29 < v28) then (idx v27 v29).bind fun x1' =>
      (idx l0 x1').bind fun x2' =>
      L49_3 n m1 m2 m3 l0 order1 p6 most7 q8 (wr .i64 (v9 + x2'.1)) v15 v16 v20 v21 v27 v28 (wr .i64 (v29 + 1)) out5
    else (bif bounds (some q8) (some (wr .i64 (p6 + 1))) none order1.length then L49_4 n m1 m2 n.1 l0 order1 p6 most7 v9 v15 v16 v20 v21 ((order1.take (Int.toNat (wr .i64 (p6 + 1)))).drop (Int.toNat q8)) (((order1.take (Int.toNat (wr .i64 (p6 + 1)))).drop (Int.toNat q8)).length : Int) 0 out5
      else none)) := by kernel_rfl
theorem L49_4_eq (n : Nat × Nat) (m1 m2 m3 : Nat) (l0 : List (Int × Int)) (order1 : List Int) (p6 : Int) (most7 : Int) (v9 : Int) (v15 : Int) (v16 : Int) (v20 : Int) (v21 : Int) (v45 : List Int) (v46 : Int) (v47 : Int) (out5 : List Int) : L49_4 n m1 m2 (m3 + 1) l0 order1 p6 most7 v9 v15 v16 v20 v21 v45 v46 v47 out5 =
    (bif decide (v47 < v46) then (idx v45 v47).bind fun x3' =>
      (idx l0 x3').bind fun x4' =>
      L49_4 n m1 m2 m3 l0 order1 p6 most7 (wr .i64 (v9 + x4'.2)) v15 v16 v20 v21 v45 v46 (wr .i64 (v47 + 1)) out5
    else L49_2 n m1 m2 l0 order1 p6 (if v9 > most7 then v9 else most7) v15 v16 v20 (wr .i64 (v21 + 1)) out5) := by kernel_rfl
noncomputable def S49 (n : Nat × Nat) (l0 : List (Int × Int)) (order1 : List Int) : Option R49 := run (E49 n) c49 an49 rt49 (fun _ _ => none) rt49 { tm := [.c (.sl (.pair (.int .i64) (.int .i64)) l0 false), .c (.sl (.int .i64) order1 false), uu, uu, uu, uu, uu, uu, uu, uu, uu, uu, uu, uu, uu, uu, uu, uu, uu, uu, uu, uu, uu, uu, uu, uu, uu, uu, uu, uu, uu, uu, uu, uu, uu, uu, uu, uu, uu, uu, uu, uu, uu, uu, uu, uu, uu, uu, uu, uu, uu, uu, uu, uu, uu, uu, uu, uu, uu, uu, uu, uu, uu, uu, uu, uu, uu, uu, uu], hp := emp }
theorem S49_eq (n : Nat × Nat) (l0 : List (Int × Int)) (order1 : List Int) : S49 n l0 order1 =
    L49_1 n n.1 l0 order1 (order1.length : Int) 0 [] := by kernel_rfl
theorem S49_run (n : Nat × Nat) (xs : pksDen pk49) : S49 n xs.1 xs.2.1 = runG (E49 n) noScope c49 an49 (rtG rk49) (fun _ _ => none) (rtG rk49) (st0 pk49 xs Try.f49.ntmps) := by kernel_rfl
noncomputable def P49 (n : Nat × Nat) := phiOf pk49 rk49 (fun xs => S49 n xs.1 xs.2.1)
theorem call49 : CallOK Try.prog 49 := callOK_of Try.func49 (by kernel_rfl) (by kernel_rfl)
theorem env49 (n : Nat × Nat) : EnvOK Try.prog (E49 n) := envOK0 noPhi_ok rfl rfl
theorem par49 (n : Nat × Nat) : EnvPar (E49 n) := envPar0 noPhi_par rfl
theorem FC49 (n : Nat × Nat) : FCs Try.prog 49 (P49 n) := phiOf_FCs fun xs r h vs hv => FC.of_runG tabOK eqsOK (env49 n) (par49 n) mixed (fun _ => noScope_ok) Try.func49 (c := c49) (an := an49) (pks := pk49) (rks := rk49) (by kernel_rfl) (by kernel_rfl) hv ((S49_run n xs).symm.trans h)
abbrev R46 := Int
noncomputable def c46 : Code := bodyOf Try.f46
noncomputable def an46 : Ann := .l
def pk46 : List PK := [.c (.sl (.pair (.int .i64) (.int .i64))), .c (.sl (.int .i64))]
def rk46 : List RK := [.c (.int .i64) 4]
noncomputable def rt46 (st : St) : Option R46 := rtG rk46 st
noncomputable def E46 (n : Nat × Nat) : Env := { T := tab, phi := (consPhi 49 (fun _ => true) (P49 n) noPhi), eff := fun _ => false, fuel := n.1, hold := n.2 }
noncomputable def S46 (n : Nat × Nat) (l0 : List (Int × Int)) (order1 : List Int) : Option R46 := run (E46 n) c46 an46 rt46 (fun _ _ => none) rt46 { tm := [.c (.sl (.pair (.int .i64) (.int .i64)) l0 false), .c (.sl (.int .i64) order1 false), uu, uu, uu, uu, uu, uu, uu, uu, uu, uu, uu], hp := emp }
theorem S46_eq (n : Nat × Nat) (l0 : List (Int × Int)) (order1 : List Int) : S46 n l0 order1 =
    (S49 n l0 order1).bind fun r1' =>
    (bif inB (wr .i64 ((order1.length : Int) - 1)) r1'.length then (idx r1' (wr .i64 ((order1.length : Int) - 1))).bind fun x2' =>
      some x2'
    else none) := by kernel_rfl
theorem S46_run (n : Nat × Nat) (xs : pksDen pk46) : S46 n xs.1 xs.2.1 = runG (E46 n) noScope c46 an46 (rtG rk46) (fun _ _ => none) (rtG rk46) (st0 pk46 xs Try.f46.ntmps) := by kernel_rfl
noncomputable def P46 (n : Nat × Nat) := phiOf pk46 rk46 (fun xs => S46 n xs.1 xs.2.1)
theorem call46 : CallOK Try.prog 46 := callOK_of Try.func46 (by kernel_rfl) (by kernel_rfl)
theorem env46 (n : Nat × Nat) : EnvOK Try.prog (E46 n) := envOK0 (consPhi_ok (FC49 n) call49 noPhi_ok) rfl rfl
theorem par46 (n : Nat × Nat) : EnvPar (E46 n) := envPar0 (consPhi_par phiOf_Par1 noPhi_par) rfl
theorem FC46 (n : Nat × Nat) : FCs Try.prog 46 (P46 n) := phiOf_FCs fun xs r h vs hv => FC.of_runG tabOK eqsOK (env46 n) (par46 n) mixed (fun _ => noScope_ok) Try.func46 (c := c46) (an := an46) (pks := pk46) (rks := rk46) (by kernel_rfl) (by kernel_rfl) hv ((S46_run n xs).symm.trans h)
/-D 49 -/
noncomputable def DF49_4 (n : Nat × Nat) (f1 : (List (Int × Int)) → List Int → Int → Int → List Int → Option R49) (f2 : (List (Int × Int)) → List Int → Int → Int → Int → Int → Int → Int → List Int → Option R49) (f3 : (List (Int × Int)) → List Int → Int → Int → Int → Int → Int → Int → Int → List Int → Int → Int → List Int → Option R49) (l0 : List (Int × Int)) (order1 : List Int) (p6 : Int) (most7 : Int) (v9 : Int) (v15 : Int) (v16 : Int) (v20 : Int) (v21 : Int) (v45 : List Int) (v46 : Int) (v47 : Int) (out5 : List Int) : Option R49 :=
    (bif decide (v47 < v46) then (idx v45 v47).bind fun x3' =>
      (idx l0 x3').bind fun x4' =>
      f3 l0 order1 p6 most7 (wr .i64 (v9 + x4'.2)) v15 v16 v20 v21 v45 v46 (wr .i64 (v47 + 1)) out5
    else f2 l0 order1 p6 (if v9 > most7 then v9 else most7) v15 v16 v20 (wr .i64 (v21 + 1)) out5)
noncomputable def DL49_4 (n : Nat × Nat) (f1 : (List (Int × Int)) → List Int → Int → Int → List Int → Option R49) (f2 : (List (Int × Int)) → List Int → Int → Int → Int → Int → Int → Int → List Int → Option R49) (m : Nat) : (List (Int × Int)) → List Int → Int → Int → Int → Int → Int → Int → Int → List Int → Int → Int → List Int → Option R49 := Nat.rec (motive := fun _ => (List (Int × Int)) → List Int → Int → Int → Int → Int → Int → Int → Int → List Int → Int → Int → List Int → Option R49) (fun _ _ _ _ _ _ _ _ _ _ _ _ _ => none) (fun _ ih => DF49_4 n f1 f2 ih) m
theorem DL49_4_succ (n : Nat × Nat) (f1 : (List (Int × Int)) → List Int → Int → Int → List Int → Option R49) (f2 : (List (Int × Int)) → List Int → Int → Int → Int → Int → Int → Int → List Int → Option R49) (m : Nat) : DL49_4 n f1 f2 (m + 1) = DF49_4 n f1 f2 (DL49_4 n f1 f2 m) := rfl
theorem DL49_4_eq (n : Nat × Nat) (hn : n.2 = 1) (m1 m2 : Nat) : ∀ m, L49_4 n m1 m2 m = DL49_4 n (L49_1 n m1) (L49_2 n m1 m2) m
  | 0 => by funext l0 order1 p6 most7 v9 v15 v16 v20 v21 v45 v46 v47 out5; kernel_rfl
  | m + 1 => by
    have ih := DL49_4_eq n hn m1 m2 m
    funext l0 order1 p6 most7 v9 v15 v16 v20 v21 v45 v46 v47 out5; refine (L49_4_eq n m1 m2 m l0 order1 p6 most7 v9 v15 v16 v20 v21 v45 v46 v47 out5).trans ?_
    rw [DL49_4_succ]
    unfold DF49_4
    (try simp only [ih]) <;> first | with_reducible rfl | rfl
noncomputable def DF49_3 (n : Nat × Nat) (f1 : (List (Int × Int)) → List Int → Int → Int → List Int → Option R49) (f2 : (List (Int × Int)) → List Int → Int → Int → Int → Int → Int → Int → List Int → Option R49) (f3 : (List (Int × Int)) → List Int → Int → Int → Int → Int → Int → Int → Int → Int → List Int → Int → Int → List Int → Option R49) (l0 : List (Int × Int)) (order1 : List Int) (p6 : Int) (most7 : Int) (q8 : Int) (v9 : Int) (v15 : Int) (v16 : Int) (v20 : Int) (v21 : Int) (v27 : List Int) (v28 : Int) (v29 : Int) (out5 : List Int) : Option R49 :=
    (bif decide (v29 < v28) then (idx v27 v29).bind fun x1' =>
      (idx l0 x1').bind fun x2' =>
      f3 l0 order1 p6 most7 q8 (wr .i64 (v9 + x2'.1)) v15 v16 v20 v21 v27 v28 (wr .i64 (v29 + 1)) out5
    else (bif bounds (some q8) (some (wr .i64 (p6 + 1))) none order1.length then DL49_4 n f1 f2 n.1 l0 order1 p6 most7 v9 v15 v16 v20 v21 ((order1.take (Int.toNat (wr .i64 (p6 + 1)))).drop (Int.toNat q8)) (((order1.take (Int.toNat (wr .i64 (p6 + 1)))).drop (Int.toNat q8)).length : Int) 0 out5
      else none))
noncomputable def DL49_3 (n : Nat × Nat) (f1 : (List (Int × Int)) → List Int → Int → Int → List Int → Option R49) (f2 : (List (Int × Int)) → List Int → Int → Int → Int → Int → Int → Int → List Int → Option R49) (m : Nat) : (List (Int × Int)) → List Int → Int → Int → Int → Int → Int → Int → Int → Int → List Int → Int → Int → List Int → Option R49 := Nat.rec (motive := fun _ => (List (Int × Int)) → List Int → Int → Int → Int → Int → Int → Int → Int → Int → List Int → Int → Int → List Int → Option R49) (fun _ _ _ _ _ _ _ _ _ _ _ _ _ _ => none) (fun _ ih => DF49_3 n f1 f2 ih) m
theorem DL49_3_succ (n : Nat × Nat) (f1 : (List (Int × Int)) → List Int → Int → Int → List Int → Option R49) (f2 : (List (Int × Int)) → List Int → Int → Int → Int → Int → Int → Int → List Int → Option R49) (m : Nat) : DL49_3 n f1 f2 (m + 1) = DF49_3 n f1 f2 (DL49_3 n f1 f2 m) := rfl
theorem DL49_3_eq (n : Nat × Nat) (hn : n.2 = 1) (m1 m2 : Nat) : ∀ m, L49_3 n m1 m2 m = DL49_3 n (L49_1 n m1) (L49_2 n m1 m2) m
  | 0 => by funext l0 order1 p6 most7 q8 v9 v15 v16 v20 v21 v27 v28 v29 out5; kernel_rfl
  | m + 1 => by
    have ih := DL49_3_eq n hn m1 m2 m
    funext l0 order1 p6 most7 q8 v9 v15 v16 v20 v21 v27 v28 v29 out5; refine (L49_3_eq n m1 m2 m l0 order1 p6 most7 q8 v9 v15 v16 v20 v21 v27 v28 v29 out5).trans ?_
    rw [DL49_3_succ]
    unfold DF49_3
    (try simp only [ih, DL49_4_eq n hn]) <;> first | with_reducible rfl | rfl
noncomputable def DF49_2 (n : Nat × Nat) (f1 : (List (Int × Int)) → List Int → Int → Int → List Int → Option R49) (f2 : (List (Int × Int)) → List Int → Int → Int → Int → Int → Int → Int → List Int → Option R49) (l0 : List (Int × Int)) (order1 : List Int) (p6 : Int) (most7 : Int) (v15 : Int) (v16 : Int) (v20 : Int) (v21 : Int) (out5 : List Int) : Option R49 :=
    (bif decide (v21 < v20) then (bif bounds none (some (wr .i64 (v21 + 1))) none order1.length then DL49_3 n f1 f2 n.1 l0 order1 p6 most7 v21 0 v15 v16 v20 v21 (order1.take (Int.toNat (wr .i64 (v21 + 1)))) ((order1.take (Int.toNat (wr .i64 (v21 + 1)))).length : Int) 0 out5
      else none)
    else (bif decide (out5.length + [most7].length ≤ lim) then f1 l0 order1 v15 (wr .i64 (v16 + 1)) (out5 ++ [most7])
      else none))
noncomputable def DL49_2 (n : Nat × Nat) (f1 : (List (Int × Int)) → List Int → Int → Int → List Int → Option R49) (m : Nat) : (List (Int × Int)) → List Int → Int → Int → Int → Int → Int → Int → List Int → Option R49 := Nat.rec (motive := fun _ => (List (Int × Int)) → List Int → Int → Int → Int → Int → Int → Int → List Int → Option R49) (fun _ _ _ _ _ _ _ _ _ => none) (fun _ ih => DF49_2 n f1 ih) m
theorem DL49_2_succ (n : Nat × Nat) (f1 : (List (Int × Int)) → List Int → Int → Int → List Int → Option R49) (m : Nat) : DL49_2 n f1 (m + 1) = DF49_2 n f1 (DL49_2 n f1 m) := rfl
theorem DL49_2_eq (n : Nat × Nat) (hn : n.2 = 1) (m1 : Nat) : ∀ m, L49_2 n m1 m = DL49_2 n (L49_1 n m1) m
  | 0 => by funext l0 order1 p6 most7 v15 v16 v20 v21 out5; kernel_rfl
  | m + 1 => by
    have ih := DL49_2_eq n hn m1 m
    funext l0 order1 p6 most7 v15 v16 v20 v21 out5; refine (L49_2_eq n m1 m l0 order1 p6 most7 v15 v16 v20 v21 out5).trans ?_
    rw [DL49_2_succ]
    unfold DF49_2
    (try simp only [ih, DL49_4_eq n hn, DL49_3_eq n hn]) <;> first | with_reducible rfl | rfl
noncomputable def DF49_1 (n : Nat × Nat) (f1 : (List (Int × Int)) → List Int → Int → Int → List Int → Option R49) (l0 : List (Int × Int)) (order1 : List Int) (v15 : Int) (v16 : Int) (out5 : List Int) : Option R49 :=
    (bif decide (v16 < v15) then DL49_2 n f1 n.1 l0 order1 v16 0 v15 v16 (wr .i64 (v16 + 1)) 0 out5
    else some out5)
noncomputable def DL49_1 (n : Nat × Nat) (m : Nat) : (List (Int × Int)) → List Int → Int → Int → List Int → Option R49 := Nat.rec (motive := fun _ => (List (Int × Int)) → List Int → Int → Int → List Int → Option R49) (fun _ _ _ _ _ => none) (fun _ ih => DF49_1 n ih) m
theorem DL49_1_succ (n : Nat × Nat) (m : Nat) : DL49_1 n (m + 1) = DF49_1 n (DL49_1 n m) := rfl
theorem DL49_1_eq (n : Nat × Nat) (hn : n.2 = 1) : ∀ m, L49_1 n m = DL49_1 n m
  | 0 => by funext l0 order1 v15 v16 out5; kernel_rfl
  | m + 1 => by
    have ih := DL49_1_eq n hn m
    funext l0 order1 v15 v16 out5; refine (L49_1_eq n m l0 order1 v15 v16 out5).trans ?_
    rw [DL49_1_succ]
    unfold DF49_1
    (try simp only [ih, DL49_4_eq n hn, DL49_3_eq n hn, DL49_2_eq n hn]) <;> first | with_reducible rfl | rfl
noncomputable def D49 (n : Nat × Nat) (l0 : List (Int × Int)) (order1 : List Int) : Option R49 :=
    DL49_1 n n.1 l0 order1 (order1.length : Int) 0 []
theorem S49_D (n : Nat × Nat) (hn : n.2 = 1) : S49 n = D49 n := by
  funext l0 order1; refine (S49_eq n l0 order1).trans ?_
  unfold D49
  (try simp only [DL49_4_eq n hn, DL49_3_eq n hn, DL49_2_eq n hn, DL49_1_eq n hn]) <;> first | with_reducible rfl | rfl
/-D 46 -/
noncomputable def D46 (n : Nat × Nat) (l0 : List (Int × Int)) (order1 : List Int) : Option R46 :=
    (D49 n l0 order1).bind fun r1' =>
    (bif inB (wr .i64 ((order1.length : Int) - 1)) r1'.length then (idx r1' (wr .i64 ((order1.length : Int) - 1))).bind fun x2' =>
      some x2'
    else none)
theorem S46_D (n : Nat × Nat) (hn : n.2 = 1) : S46 n = D46 n := by
  funext l0 order1; refine (S46_eq n l0 order1).trans ?_
  unfold D46
  (try simp only [S49_D n hn]) <;> first | with_reducible rfl | rfl
end Go.Proofs.Ytnlbhjmbaedadaa
set_option linter.unusedVariables false
set_option linter.unusedSimpArgs false
namespace Go.Proofs.Ytnlbhjmbaedadaa
open Go.Vi

theorem tmod_ok {x y : Int} (h0 : 0 ≤ x) (hy : 0 < y) : Int.tmod x y = x % y := Int.tmod_eq_emod_of_nonneg h0
def By (x : Int) : Prop := 0 ≤ x ∧ x ≤ 255
def gm (t : Int) (x : Int × Int) : Int × Int := (x.1 % (t + 1), x.2 % (t + 1))
theorem made_loop (n : Nat × Nat) (t : Int) (ht : 1 ≤ t ∧ t ≤ 50) (q : List (Int × Int)) (hq : ∀ x ∈ q, By x.1 ∧ By x.2) (hl : q.length ≤ 7) : ∀ (m k : Nat), k ≤ q.length → q.length - k < m → DL43_1 n m t q (q.length : Int) (k : Int) ((q.take k).map (gm t)) = some (q.map (gm t))
  | 0, k, _, h => by omega
  | m + 1, k, hk, h => by
    rw [DL43_1_succ]
    unfold DF43_1
    by_cases hlt : k < q.length
    · have ih := made_loop n t ht q hq hl m (k + 1) (by omega) (by omega)
      obtain ⟨h1, h2⟩ := hq _ (List.getElem_mem hlt)
      unfold By at h1 h2
      rw [dlt_t hlt, cond_true, show inB 0 2 = true from rfl, show inB 1 2 = true from rfl, idx_nat hlt, Option.bind_some, cond_true, wr_succ (by omega), wr_ok (x := t + 1) (by omega) (by omega), show (t + 1 == 0) = false by simp; omega]
      rw [show idx [q[k].1, q[k].2] 0 = some q[k].1 from rfl, show idx [q[k].1, q[k].2] 1 = some q[k].2 from rfl]
      simp only [Option.bind_some, cond_true, cond_false]
      rw [lim_dec (by simp; omega), cond_true, wr_ok (x := q[k].1) (by omega) (by omega), wr_ok (x := q[k].2) (by omega) (by omega), tmod_ok h1.1 (by omega), tmod_ok h2.1 (by omega), ← ih, take_snoc hlt, List.map_append]
      rfl
    · rw [dlt_f hlt, cond_false, List.take_of_length_le (by omega)]
abbrev Fm := Int × Int × (Int × Int) × (Int × Int) × (Int × Int) × (Int × Int) × (Int × Int) × (Int × Int) × Int × Int
def FmOk (f : Fm) : Prop := By f.1 ∧ By f.2.1 ∧ ∀ x ∈ [f.2.2.1, f.2.2.2.1, f.2.2.2.2.1, f.2.2.2.2.2.1, f.2.2.2.2.2.2.1, f.2.2.2.2.2.2.2.1, f.2.2.2.2.2.2.2.2], By x.1 ∧ By x.2
/-- Sheets by numbers are good ones. -/
theorem made_ex {n : Nat × Nat} (hn : 1000 ≤ n.1) {f : Fm} (hf : FmOk f) {most : Int} (hm : 1 ≤ most ∧ most ≤ 7) : ∃ l, D43 n f most = some l ∧ Good l ∧ l.length ≤ most := by
  obtain ⟨h1, h2, h3⟩ := hf
  unfold By at h1 h2
  unfold D43
  have e1 : 0 ≤ f.1 % most := Int.emod_nonneg _ (by omega)
  have e2 : f.1 % most < most := Int.emod_lt_of_pos _ (by omega)
  rw [show (50 == 0) = false from rfl, cond_false, show (most == 0) = false by simp; omega, cond_false, wr_ok (x := f.1) (by omega) (by omega), wr_ok (x := f.2.1) (by omega) (by omega), tmod_ok h1.1 (by omega), tmod_ok h2.1 (by omega), wr_ok (x := 1 + f.1 % most) (by omega) (by omega), wr_ok (x := f.2.1 % 50 + 1) (by omega) (by omega)]
  rw [show bounds none (some (1 + f.1 % most)) none 7 = true by simp [bounds]; omega, cond_true]
  revert h3
  generalize hq : [f.2.2.1, f.2.2.2.1, f.2.2.2.2.1, f.2.2.2.2.2.1, f.2.2.2.2.2.2.1, f.2.2.2.2.2.2.2.1, f.2.2.2.2.2.2.2.2] = q
  have hq7 : q.length = 7 := by rw [← hq]; rfl
  intro h3
  have hlen : (q.take (1 + f.1 % most).toNat).length = (1 + f.1 % most).toNat := by rw [List.length_take]; omega
  have := made_loop n (f.2.1 % 50 + 1) (by omega) (q.take (1 + f.1 % most).toNat) (fun x hx => h3 x (List.mem_of_mem_take hx)) (by omega) n.1 0 (by omega) (by omega)
  refine ⟨(q.take (1 + f.1 % most).toNat).map (gm (f.2.1 % 50 + 1)), this, ⟨by rw [List.length_map]; omega, by rw [List.length_map]; omega, fun s hs => ?_⟩, by rw [List.length_map]; omega⟩
  obtain ⟨x, _, e⟩ := List.mem_map.1 hs
  rw [← e]
  unfold Ok gm
  have a1 := Int.emod_nonneg x.1 (b := f.2.1 % 50 + 1 + 1) (by omega)
  have a2 := Int.emod_lt_of_pos x.1 (b := f.2.1 % 50 + 1 + 1) (by omega)
  have a3 := Int.emod_nonneg x.2 (b := f.2.1 % 50 + 1 + 1) (by omega)
  have a4 := Int.emod_lt_of_pos x.2 (b := f.2.1 % 50 + 1 + 1) (by omega)
  simp only []
  omega

abbrev Bt := Int × Int × Int × Int × Int × Int × Int
def bts (v : Bt) : List Int := [v.1, v.2.1, v.2.2.1, v.2.2.2.1, v.2.2.2.2.1, v.2.2.2.2.2.1, v.2.2.2.2.2.2]
def BtOk (v : Bt) : Prop := ∀ x ∈ bts v, By x
theorem order_loop (n : Nat × Nat) (v : Bt) (hv : BtOk v) (L : Nat) (hL : L ≤ 7) : ∀ (m : Nat) (P T : List Int), T.length < m → P.length + T.length = L → P.Perm (ix P.length) →
    ∃ o, DL48_1 n m (L : Int) (P.length : Int) v.1 v.2.1 v.2.2.1 v.2.2.2.1 v.2.2.2.2.1 v.2.2.2.2.2.1 v.2.2.2.2.2.2 (P ++ T) = some o ∧ o.Perm (ix L)
  | 0, P, T, h, _, _ => by omega
  | m + 1, P, [], h, hl, hp => by
    rw [List.length_nil] at hl
    rw [DL48_1_succ]
    unfold DF48_1
    rw [dlt_f (by omega), cond_false]
    refine ⟨P, by simp, ?_⟩
    rw [← hl]
    simpa using hp
  | m + 1, P, t :: T, h, hl, hp => by
    rw [List.length_cons] at h hl
    rw [DL48_1_succ]
    unfold DF48_1
    have hb7 : (bts v).length = 7 := rfl
    have hx := hv _ (List.getElem_mem (show P.length < (bts v).length by omega))
    have ex : idx [v.1, v.2.1, v.2.2.1, v.2.2.2.1, v.2.2.2.2.1, v.2.2.2.2.2.1, v.2.2.2.2.2.2] (P.length : Int) = some (bts v)[P.length] := idx_nat (l := bts v) (by omega)
    rw [ex]
    generalize (bts v)[P.length]'(by omega) = x at hx
    unfold By at hx
    have j0 := Int.emod_nonneg x (b := ((P.length + 1 : Nat) : Int)) (by omega)
    have j1 := Int.emod_lt_of_pos x (b := ((P.length + 1 : Nat) : Int)) (by omega)
    rw [dlt_t (by omega), cond_true, inB_nat (by simp), cond_true, inB_nat (show P.length < 7 by omega), cond_true, Option.bind_some, wr_succ (by omega), show (((P.length + 1 : Nat) : Int) == 0) = false by simp; omega, cond_false, wr_ok (x := x) (by omega) (by omega), tmod_ok hx.1 (by omega), Int.toNat_natCast, set_at rfl]
    obtain ⟨j, hj⟩ : ∃ j : Nat, x % ((P.length + 1 : Nat) : Int) = (j : Int) := ⟨(x % ((P.length + 1 : Nat) : Int)).toNat, by omega⟩
    rw [hj] at j0 j1 ⊢
    rw [show idx (P ++ t :: T) (P.length : Int) = some t from idx_at rfl, Option.bind_some]
    have ek : idx (P ++ (P.length : Int) :: T) (P.length : Int) = some (P.length : Int) := idx_at rfl
    have ik : inB (P.length : Int) (P ++ (P.length : Int) :: T).length = true := inB_nat (by simp)
    by_cases e : j = P.length
    · subst e
      rw [ik, cond_true, ek, Option.bind_some, cond_true, Option.bind_some, set_at rfl, ik, cond_true, cond_true, ek, Option.bind_some, Int.toNat_natCast, set_at rfl]
      simp only [Option.bind_some]
      have := order_loop n v hv L hL m (P ++ [(P.length : Int)]) T (by omega) (by simp; omega) (by
        rw [List.length_append, List.length_singleton, ix_succ]
        exact hp.append_right _)
      simpa using this
    · have hjl : j < P.length := by omega
      have hP : P = P.take j ++ P[j] :: P.drop (j + 1) := by rw [← drop_cons hjl, List.take_append_drop]
      have hA : (P.take j).length = j := by rw [List.length_take]; omega
      have d1 : idx (P ++ (P.length : Int) :: T) (j : Int) = some P[j] := by
        rw [idx_nat (by simp; omega)]
        congr 1
        exact List.getElem_append_left hjl
      have d2 : idx (P ++ P[j] :: T) (j : Int) = some P[j] := by
        rw [idx_nat (by simp; omega)]
        congr 1
        exact List.getElem_append_left hjl
      have d3 : (P ++ P[j] :: T).set j (P.length : Int) = P.take j ++ (P.length : Int) :: P.drop (j + 1) ++ [P[j]] ++ T := by
        have : P ++ P[j] :: T = P.take j ++ P[j] :: (P.drop (j + 1) ++ P[j] :: T) := by
          have e := congrArg (fun X => X ++ P[j] :: T) hP
          simpa only [List.append_assoc, List.cons_append] using e
        rw [this, set_at hA]
        simp
      have g1 : (P ++ (P.length : Int) :: T).set P.length P[j] = P ++ P[j] :: T := set_at rfl
      have i1 : inB (j : Int) (P ++ (P.length : Int) :: T).length = true := inB_nat (by simp; omega)
      have i2 : inB (j : Int) (P ++ P[j] :: T).length = true := inB_nat (by simp; omega)
      simp only [ik, i1, cond_true, d1, Option.bind_some, ek, g1, i2, d2, Int.toNat_natCast, d3]
      have hlen : (P.take j ++ (P.length : Int) :: P.drop (j + 1) ++ [P[j]]).length = P.length + 1 := by simp; omega
      have := order_loop n v hv L hL m (P.take j ++ (P.length : Int) :: P.drop (j + 1) ++ [P[j]]) T (by omega) (by omega) (by
        rw [hlen, ix_succ]
        refine List.Perm.trans ?_ (hp.append_right [(P.length : Int)])
        have p1 : (P.take j ++ (P.length : Int) :: P.drop (j + 1) ++ [P[j]]).Perm ((P.length : Int) :: P[j] :: (P.take j ++ P.drop (j + 1))) := by
          refine (List.perm_append_singleton _ _).trans ?_
          exact (List.Perm.cons _ List.perm_middle).trans (List.Perm.swap _ _ _)
        have p2 : (P ++ [(P.length : Int)]).Perm ((P.length : Int) :: P[j] :: (P.take j ++ P.drop (j + 1))) := by
          refine (List.perm_append_singleton _ _).trans (List.Perm.cons _ ?_)
          have q := List.perm_middle (a := P[j]) (l₁ := P.take j) (l₂ := P.drop (j + 1))
          rw [← hP] at q
          exact q
        exact p1.trans p2.symm)
      rw [hlen] at this
      exact this
/-- An order by numbers is one. -/
theorem perm_ord {L : Nat} {o : List Int} (hp : o.Perm (ix L)) : Ord L o := by
  refine ⟨by rw [hp.length_eq, ix_len], fun i hi => ix_mem.1 (hp.mem_iff.1 hi), ?_⟩
  refine hp.symm.nodup ?_
  exact List.Pairwise.imp (fun h => by omega) (ix_lt L)
theorem order_ex {n : Nat × Nat} (hn : 1000 ≤ n.1) {v : Bt} (hv : BtOk v) {L : Nat} (hL : L ≤ 7) : ∃ o, D48 n (L : Int) v = some o ∧ Ord L o := by
  unfold D48
  rw [decide_eq_true (show (0 : Int) ≤ (L : Int) by omega), decide_eq_true (Int.le_refl _), decide_eq_true (show (L : Int) ≤ lim by simp [lim]; omega), Bool.and_self, Bool.and_self, cond_true, Int.toNat_natCast, List.length_replicate]
  obtain ⟨o, h1, h2⟩ := order_loop n v hv L hL n.1 [] (List.replicate L 0) (by simp; omega) (by simp) (by simp [ix])
  exact ⟨o, h1, perm_ord h2⟩

/-- Greatest sums of places: when sheets are printed. -/
theorem enp_get : ∀ {l : List (Int × Int)} {a b : Int} {k : Nat} (h : k < (enp a b l).length), (enp a b l)[k] = tm a b (l.take (k + 1))
  | [], a, b, k, h => by simp [enp] at h
  | s :: l, a, b, 0, h => by simp [enp, tm]
  | s :: l, a, b, k + 1, h => by
    simp only [enp, List.getElem_cons_succ, List.take_succ_cons, tm]
    exact enp_get _
theorem enp_len' : ∀ (l : List (Int × Int)) (a b : Int), (enp a b l).length = l.length
  | [], _, _ => rfl
  | s :: l, a, b => by simp only [enp, List.length_cons, enp_len' l]
theorem pk_take (l : List (Int × Int)) (o : List Int) (k : Nat) : pk l (o.take k) = (pk l o).take k := by simp [pk, List.map_take]
theorem pk_drop (l : List (Int × Int)) (o : List Int) (k : Nat) : pk l (o.drop k) = (pk l o).drop k := by simp [pk, List.map_drop]
theorem pk_cons (l : List (Int × Int)) (i : Int) (o : List Int) : pk l (i :: o) = sh l i :: pk l o := rfl
theorem add2_loop (n : Nat × Nat) {l : List (Int × Int)} (hg : Good l) (f1 : (List (Int × Int)) → List Int → Int → Int → List Int → Option R49) (f2 : (List (Int × Int)) → List Int → Int → Int → Int → Int → Int → Int → List Int → Option R49) (o : List Int) (p most a b c d : Int) (out : List Int) (q : List Int) (hq : ∀ i ∈ q, 0 ≤ i ∧ i < l.length) (hl : q.length ≤ 7) :
    ∀ (m k : Nat) (v : Int), k ≤ q.length → q.length - k < m → 0 ≤ v → v ≤ 1000 + 50 * k →
    DL49_4 n f1 f2 m l o p most v a b c d q (q.length : Int) (k : Int) out = f2 l o p (max most (v + s2 (pk l (q.drop k)))) a b c (wr .i64 (d + 1)) out
  | 0, k, v, _, h, _, _ => by omega
  | m + 1, k, v, hk, h, v0, v1 => by
    rw [DL49_4_succ]
    unfold DF49_4
    by_cases hlt : k < q.length
    · have hi := hq _ (List.getElem_mem hlt)
      have ho := hg.ok _ (sh_mem hi.1 hi.2)
      unfold Ok at ho
      have ih := add2_loop n hg f1 f2 o p most a b c d out q hq hl m (k + 1) (v + (sh l q[k]).2) (by omega) (by omega) (by omega) (by omega)
      rw [dlt_t hlt, cond_true, idx_nat hlt, Option.bind_some, idx_sh hi.1 hi.2, Option.bind_some, wr_succ (by omega), wr_ok (x := v + (sh l q[k]).2) (by omega) (by omega), ih, drop_cons hlt, pk_cons, s2, Int.add_assoc]
    · rw [dlt_f hlt, cond_false, List.drop_of_length_le (by omega), max_if]
      simp [pk, s2]
theorem add1_loop (n : Nat × Nat) (hn : 1000 ≤ n.1) {l : List (Int × Int)} (hg : Good l) (f1 : (List (Int × Int)) → List Int → Int → Int → List Int → Option R49) (f2 : (List (Int × Int)) → List Int → Int → Int → Int → Int → Int → Int → List Int → Option R49) {o : List Int} (ho : Ord l.length o) {p r : Nat} (hr : r ≤ p) (hp : p < o.length) (most a b c d : Int) (out : List Int) (q : List Int) (hq : ∀ i ∈ q, 0 ≤ i ∧ i < l.length) (hl : q.length ≤ 7) :
    ∀ (m k : Nat) (v : Int), k ≤ q.length → q.length - k < m → 0 ≤ v → v ≤ 50 * k →
    DL49_3 n f1 f2 m l o (p : Int) most (r : Int) v a b c d q (q.length : Int) (k : Int) out = f2 l o (p : Int) (max most (v + s1 (pk l (q.drop k)) + s2 (((pk l o).take (p + 1)).drop r))) a b c (wr .i64 (d + 1)) out
  | 0, k, v, _, h, _, _ => by omega
  | m + 1, k, v, hk, h, v0, v1 => by
    have hl' := ho.len
    have h7 := hg.len
    rw [DL49_3_succ]
    unfold DF49_3
    by_cases hlt : k < q.length
    · have hi := hq _ (List.getElem_mem hlt)
      have hok := hg.ok _ (sh_mem hi.1 hi.2)
      unfold Ok at hok
      have ih := add1_loop n hn hg f1 f2 ho hr hp most a b c d out q hq hl m (k + 1) (v + (sh l q[k]).1) (by omega) (by omega) (by omega) (by omega)
      rw [dlt_t hlt, cond_true, idx_nat hlt, Option.bind_some, idx_sh hi.1 hi.2, Option.bind_some, wr_succ (by omega), wr_ok (x := v + (sh l q[k]).1) (by omega) (by omega), ih, drop_cons hlt, pk_cons, s1, Int.add_assoc v]
    · rw [dlt_f hlt, cond_false, wr_succ (by omega), show bounds (some (r : Int)) (some ((p + 1 : Nat) : Int)) none o.length = true by simp [bounds]; omega, cond_true, Int.toNat_natCast, Int.toNat_natCast]
      have := add2_loop n hg f1 f2 o (p : Int) most a b c d out ((o.take (p + 1)).drop r) (fun i hi => ho.rng i (List.mem_of_mem_take (List.mem_of_mem_drop hi))) (by simp; omega) n.1 0 v (by omega) (by simp; omega) v0 (by omega)
      refine this.trans ?_
      rw [List.drop_zero, pk_drop, pk_take, List.drop_of_length_le (by omega : q.length ≤ k)]
      simp [pk, s1]
theorem most_loop (n : Nat × Nat) (hn : 1000 ≤ n.1) {l : List (Int × Int)} (hg : Good l) (f1 : (List (Int × Int)) → List Int → Int → Int → List Int → Option R49) {o : List Int} (ho : Ord l.length o) {p : Nat} (hp : p < o.length) (out : List Int) (hout : out.length < 1000) :
    ∀ (m k : Nat) (most : Int), k ≤ p + 1 → p + 1 - k < m →
    DL49_2 n f1 m l o (p : Int) most (o.length : Int) (p : Int) ((p + 1 : Nat) : Int) (k : Int) out = f1 l o (o.length : Int) (wr .i64 ((p : Int) + 1)) (out ++ [((sms 0 ((pk l o).take (p + 1))).drop k).foldl max most])
  | 0, k, most, _, h => by omega
  | m + 1, k, most, hk, h => by
    have hl' := ho.len
    have h7 := hg.len
    have hlen : ((pk l o).take (p + 1)).length = p + 1 := by rw [List.length_take, pk_len]; omega
    rw [DL49_2_succ]
    unfold DF49_2
    by_cases hlt : k < p + 1
    · have ih := most_loop n hn hg f1 ho hp out hout m (k + 1) (max most ((sms 0 ((pk l o).take (p + 1)))[k]'(by rw [sms_len]; omega))) (by omega) (by omega)
      rw [dlt_t hlt, cond_true, wr_succ (by omega), show bounds none (some ((k + 1 : Nat) : Int)) none o.length = true by simp [bounds]; omega, cond_true, Int.toNat_natCast]
      have := add1_loop n hn hg f1 (DL49_2 n f1 m) ho (show k ≤ p by omega) hp most (o.length : Int) (p : Int) ((p + 1 : Nat) : Int) (k : Int) out (o.take (k + 1)) (fun i hi => ho.rng i (List.mem_of_mem_take hi)) (by simp; omega) n.1 0 0 (by omega) (by simp; omega) (by omega) (by omega)
      refine this.trans ?_
      rw [wr_succ (by omega), drop_cons (l := sms 0 ((pk l o).take (p + 1))) (k := k) (by rw [sms_len]; omega), List.foldl_cons, ← ih, sms_get (by omega)]
      congr 2
      rw [List.drop_zero, pk_take, List.take_take, show min (k + 1) (p + 1) = k + 1 by omega]
    · rw [dlt_f hlt, cond_false, lim_dec (by omega), cond_true, List.drop_of_length_le (by rw [sms_len]; omega)]
      rfl
theorem tm_foldl {l : List (Int × Int)} (hb : ∀ s ∈ l, Ok s) : (sms 0 l).foldl max 0 = tm 0 0 l := by
  match l with
  | [] => rfl
  | s :: l =>
    have ho := hb s (by simp)
    have h2 := (s2_bnd (l := l) (fun s hs => hb s (by simp [hs]))).1
    unfold Ok at ho
    rw [tm_cons ho.1]
    simp only [sms, List.foldl_cons, Int.zero_add]
    congr 1
    omega
theorem printed_loop (n : Nat × Nat) (hn : 1000 ≤ n.1) {l : List (Int × Int)} (hg : Good l) {o : List Int} (ho : Ord l.length o) : ∀ (m k : Nat), k ≤ o.length → o.length - k < m →
    DL49_1 n m l o (o.length : Int) (k : Int) ((enp 0 0 (pk l o)).take k) = some (enp 0 0 (pk l o))
  | 0, k, _, h => by omega
  | m + 1, k, hk, h => by
    have hl' := ho.len
    have h7 := hg.len
    have hlen := enp_len' (pk l o) 0 0
    rw [pk_len] at hlen
    rw [DL49_1_succ]
    unfold DF49_1
    by_cases hlt : k < o.length
    · have ih := printed_loop n hn hg ho m (k + 1) (by omega) (by omega)
      have := most_loop n hn hg (DL49_1 n m) ho hlt ((enp 0 0 (pk l o)).take k) (by simp; omega) n.1 0 0 (by omega) (by omega)
      rw [dlt_t hlt, cond_true, wr_succ (by omega)]
      refine this.trans ?_
      rw [wr_succ (by omega), ← ih, take_snoc (l := enp 0 0 (pk l o)) (by omega), List.drop_zero, tm_foldl (fun s hs => pk_ok hg ho s (List.mem_of_mem_take hs)), enp_get]
    · rw [dlt_f hlt, cond_false, List.take_of_length_le (by omega)]
theorem printed_eq {n : Nat × Nat} (hn : 1000 ≤ n.1) {l : List (Int × Int)} (hg : Good l) {o : List Int} (ho : Ord l.length o) : D49 n l o = some (enp 0 0 (pk l o)) := by
  have hl' := ho.len
  have h7 := hg.len
  unfold D49
  exact printed_loop n hn hg ho n.1 0 (by omega) (by omega)
theorem ltime_eq {n : Nat × Nat} (hn : 1000 ≤ n.1) {l : List (Int × Int)} (hg : Good l) {o : List Int} (ho : Ord l.length o) : D46 n l o = some (tm 0 0 (pk l o)) := by
  have hl' := ho.len
  have h7 := hg.len
  have hp := hg.pos
  have hlen := enp_len' (pk l o) 0 0
  rw [pk_len] at hlen
  unfold D46
  rw [printed_eq hn hg ho, Option.bind_some, wr_ok (by omega) (by omega), show (o.length : Int) - 1 = ((o.length - 1 : Nat) : Int) by omega, inB_nat (by omega), cond_true, idx_nat (by omega), Option.bind_some, enp_get, show o.length - 1 + 1 = (pk l o).length by rw [pk_len]; omega, List.take_length]

theorem orderly_loop (n : Nat × Nat) (hn : 1000 ≤ n.1) {L : Nat} (hL : L ≤ 7) {o : List Int} (ho : Ord L o) : ∀ (m k : Nat), k ≤ o.length → o.length - k < m → DL45_1 n m o (L : Int) o (o.length : Int) (k : Int) = some true
  | 0, k, _, h => by omega
  | m + 1, k, hk, h => by
    have hl := ho.len
    rw [DL45_1_succ]
    unfold DF45_1
    by_cases hlt : k < o.length
    · have ih := orderly_loop n hn hL ho m (k + 1) (by omega) (by omega)
      have hr := ho.rng _ (List.getElem_mem hlt)
      have hnd : o[k] ∉ o.take k := fun h => by
        have hn := ho.nodup
        rw [← List.take_append_drop k o, drop_cons hlt, List.nodup_append] at hn
        exact hn.2.2 _ h _ List.mem_cons_self rfl
      rw [dlt_t hlt, cond_true, idx_nat hlt, Option.bind_some, decide_eq_false (show ¬ o[k] < 0 by omega), decide_eq_false (show ¬ o[k] ≥ (L : Int) by omega)]
      simp only [beq_self_eq_true, cond_true, Option.bind_some]
      rw [show bounds none (some (k : Int)) none o.length = true by simp [bounds]; omega, cond_true, Int.toNat_natCast, contains_eq hn (by simp; omega), decide_eq_false hnd]
      simp only [Option.bind_some, cond_false]
      rw [wr_succ (by omega), ih]
    · rw [dlt_f hlt, cond_false]
theorem orderly_eq {n : Nat × Nat} (hn : 1000 ≤ n.1) {L : Nat} (hL : L ≤ 7) {o : List Int} (ho : Ord L o) : D45 n o (L : Int) = some true := by
  have hl := ho.len
  unfold D45
  rw [show ((o.length : Int) != (L : Int)) = false by simp [hl], cond_false]
  exact orderly_loop n hn hL ho n.1 0 (by omega) (by omega)

theorem fdo_get : ∀ {l : List Int} {k : Nat} {b : Int} (h : k < l.length), l.Nodup → fdo l[k] b l = b + k
  | [], k, b, h, _ => by simp at h
  | x :: l, 0, b, h, _ => by simp [fdo]
  | x :: l, k + 1, b, h, hn => by
    rw [List.nodup_cons] at hn
    simp only [List.length_cons] at h
    simp only [List.getElem_cons_succ, fdo]
    have hm : l[k]'(by omega) ∈ l := List.getElem_mem _
    rw [if_neg (show ¬ l[k]'(by omega) = x from fun e => hn.1 (by rw [← e]; exact hm)), fdo_get (by omega) hn.2]
    omega
theorem flat_nodup {α β : Type} {F : α → List β} : ∀ {l : List α}, l.Nodup → (∀ x ∈ l, (F x).Nodup) → (∀ x ∈ l, ∀ y ∈ l, x ≠ y → ∀ a ∈ F x, a ∉ F y) → (l.flatMap F).Nodup
  | [], _, _, _ => by simp
  | x :: l, hn, h1, h2 => by
    rw [List.nodup_cons] at hn
    rw [List.flatMap_cons, List.nodup_append]
    refine ⟨h1 x (by simp), flat_nodup hn.2 (fun y hy => h1 y (by simp [hy])) (fun y hy z hz => h2 y (by simp [hy]) z (by simp [hz])), fun a ha b hb e => ?_⟩
    subst e
    obtain ⟨y, hy, hb⟩ := List.mem_flatMap.1 hb
    exact h2 x (by simp) y (by simp [hy]) (fun e => hn.1 (e ▸ hy)) a ha hb
theorem ix_nodup (n : Nat) : (ix n).Nodup := List.Pairwise.imp (fun h => by omega) (ix_lt n)
theorem ao_nodup {n : Nat} : ∀ (d : Nat) (p : List Int), (ao n d p).Nodup
  | 0, p => by simp [ao]
  | d + 1, p => by
    unfold ao
    refine flat_nodup (ix_nodup n) (fun i hi => ?_) (fun i hi j hj hne o ho ho' => ?_)
    · split
      · simp
      · exact ao_nodup d _
    · by_cases c : i ∈ p
      · rw [if_pos c] at ho; simp at ho
      by_cases c' : j ∈ p
      · rw [if_pos c'] at ho'; simp at ho'
      rw [if_neg c] at ho
      rw [if_neg c'] at ho'
      obtain ⟨r, e, _⟩ := ao_pre ho
      obtain ⟨r', e', _⟩ := ao_pre ho'
      rw [e] at e'
      rw [List.append_assoc, List.append_assoc] at e'
      have := List.append_cancel_left e'
      simp at this
      exact hne this.1

/-- Orders with other numbers. -/
def rn (to : List Int) (o : List Int) : List Int := o.map fun i => to.getD i.toNat 0
theorem rn_idx {L : Nat} {to : List Int} (ht : Ord L to) {i : Int} (hi : 0 ≤ i ∧ i < L) : fdo (to.getD i.toNat 0) 0 to = i := by
  have hl := ht.len
  rw [List.getD_eq_getElem?_getD, List.getElem?_eq_getElem (by omega), Option.getD_some, fdo_get (by omega) ht.nodup]
  omega
theorem rn_inv {L : Nat} {to o : List Int} (ht : Ord L to) (ho : ∀ i ∈ o, 0 ≤ i ∧ i < L) : (rn to o).map (fun j => fdo j 0 to) = o := by
  unfold rn
  rw [List.map_map]
  conv => rhs; rw [← List.map_id o]
  apply List.map_congr_left
  intro i hi
  exact rn_idx ht (ho i hi)
theorem rn_ord {L : Nat} {to o : List Int} (ht : Ord L to) (ho : Ord L o) : Ord L (rn to o) := by
  have hl := ht.len
  refine ⟨by simp [rn, ho.len], fun j hj => ?_, ?_⟩
  · obtain ⟨i, hi, e⟩ := List.mem_map.1 hj
    have hr := ho.rng i hi
    rw [← e, List.getD_eq_getElem?_getD, List.getElem?_eq_getElem (by omega), Option.getD_some]
    exact ht.rng _ (List.getElem_mem _)
  · have h := rn_inv ht ho.rng
    have hn := ho.nodup
    rw [← h] at hn
    exact List.Pairwise.of_map _ (fun a b hab e => hab (by rw [e])) hn
theorem rn_perm {L : Nat} {to : List Int} (ht : Ord L to) : ((ao L L []).map (rn to)).Perm (ao L L []) := by
  refine perm_of_sub ?_ (fun x hx => ?_) (by simp)
  · have hn := ao_nodup (n := L) L []
    have e : ((ao L L []).map (rn to)).map (List.map fun j => fdo j 0 to) = ao L L [] := by
      rw [List.map_map]
      conv => rhs; rw [← List.map_id (ao L L [])]
      apply List.map_congr_left
      intro o ho
      exact rn_inv ht (ao_iff.1 ho).rng
    rw [← e] at hn
    exact List.Pairwise.of_map _ (fun a b hab e => hab (by rw [e])) hn
  · obtain ⟨o, ho, e⟩ := List.mem_map.1 hx
    rw [← e]
    exact ao_iff.2 (rn_ord ht (ao_iff.1 ho))
theorem rn_pk {l m : List (Int × Int)} {to : List Int} (ht : Ord l.length to) (hm : pk m to = l) {o : List Int} (ho : ∀ i ∈ o, 0 ≤ i ∧ i < l.length) : pk m (rn to o) = pk l o := by
  unfold rn pk
  rw [List.map_map]
  apply List.map_congr_left
  intro i hi
  have hl := ht.len
  have hr := ho i hi
  have e : ∀ (x : List (Int × Int)), x = l → x.getD i.toNat (0, 0) = l.getD i.toNat (0, 0) := fun x e => by rw [e]
  rw [← e _ hm]
  unfold pk
  simp [show i.toNat < to.length by omega]
theorem named_best {l m : List (Int × Int)} (hg : Good l) (hgm : Good m) (hlm : m.length = l.length) {to : List Int} (ht : Ord l.length to) (hm : pk m to = l) : best l = best m ∧ (bests l).length = (bests m).length := by
  have hT : ∀ o ∈ ao l.length l.length [], tm 0 0 (pk m (rn to o)) = tm 0 0 (pk l o) := fun o ho => by rw [rn_pk ht hm (ao_iff.1 ho).rng]
  have hb : best l = best m := by
    apply Int.le_antisymm
    · have h1 : rl m ∈ ao l.length l.length [] := ao_iff.2 (by rw [← hlm]; exact rl_ord m)
      obtain ⟨o, ho, e⟩ := List.mem_map.1 ((rn_perm ht).mem_iff.2 h1)
      have := rl_best hg (ao_iff.1 ho)
      rw [← hT o ho, e] at this
      exact this
    · have h1 : rl l ∈ ao l.length l.length [] := ao_iff.2 (rl_ord l)
      have := rl_best hgm (o := rn to (rl l)) (by rw [hlm]; exact rn_ord ht (rl_ord l))
      rw [hT _ h1] at this
      exact this
  refine ⟨hb, ?_⟩
  unfold bests
  rw [← hb, hlm]
  have h2 := ((rn_perm ht).filter fun o => decide (tm 0 0 (pk m o) ≤ best l)).length_eq
  rw [← h2, List.filter_map, List.length_map]
  congr 1
  apply List.filter_congr
  intro o ho
  exact decide_eq_decide.2 (by rw [hT o ho])

theorem named_loop (n : Nat × Nat) (hn : 1000 ≤ n.1) {l : List (Int × Int)} (hg : Good l) {to : List Int} (ht : Ord l.length to) (hw : D14 n = some true) : ∀ (m k : Nat) (mv : List (Int × Int)), k ≤ l.length → l.length - k < m → mv.length = l.length → (∀ j (hj : j < to.length) (hj' : j < l.length), j < k → sh mv to[j] = l[j]) →
    DL9_1 n m l l (l.length : Int) (k : Int) to mv = some true
  | 0, k, mv, _, h, _, _ => by omega
  | m + 1, k, mv, hk, h, hml, hi => by
    have hl := ht.len
    have h7 := hg.len
    rw [DL9_1_succ]
    unfold DF9_1
    by_cases hlt : k < l.length
    · have hlt' : k < to.length := by omega
      have hr := ht.rng _ (List.getElem_mem hlt')
      have hin : inB to[k] mv.length = true := by
        rw [show to[k] = ((to[k].toNat : Nat) : Int) by omega]
        exact inB_nat (by omega)
      rw [dlt_t hlt, cond_true, idx_nat hlt, Option.bind_some, inB_nat hlt', cond_true, idx_nat hlt', Option.bind_some, hin, cond_true, idx_int (k := to[k].toNat) (by omega) (by omega), Option.bind_some, wr_succ (by omega)]
      refine named_loop n hn hg ht hw m (k + 1) _ (by omega) (by omega) (by rw [List.length_set]; exact hml) (fun j hj hj' hjk => ?_)
      have hrj := ht.rng _ (List.getElem_mem hj)
      by_cases e : j = k
      · subst e
        unfold sh
        rw [List.getD_eq_getElem?_getD, List.getElem?_set_self (by omega), Option.getD_some]
      · have hne : to[j].toNat ≠ to[k].toNat := fun e' => by
          have e2 : to[j] = to[k] := by omega
          exact e ((List.getElem_inj ht.nodup).1 e2)
        have := hi j hj hj' (by omega)
        unfold sh at this ⊢
        rw [List.getD_eq_getElem?_getD] at this ⊢
        rw [List.getElem?_set_ne (fun h => hne h.symm)]
        exact this
    · have hm : pk mv to = l := by
        apply List.ext_getElem
        · rw [pk_len]; exact hl
        · intro j h1 h2
          rw [pk_len] at h1
          have := hi j h1 h2 (by omega)
          rw [← this]
          simp [pk, sh]
      have hperm : l.Perm mv := by
        have := pk_perm (l := mv) (o := to) (by rw [hml]; exact ht)
        rwa [hm] at this
      have hgm : Good mv := ⟨by rw [hml]; exact hg.pos, by rw [hml]; exact hg.len, fun s hs => hg.ok s (hperm.mem_iff.2 hs)⟩
      obtain ⟨hb1, hb2⟩ := named_best hg hgm hml ht hm
      have R : ∀ {x : List (Int × Int)}, Good x → D27 n x = some (rl x, 0) := fun {x} hx => by
        rw [Rule_eq hn]
        unfold ruleS
        rw [if_neg (by simpa using chk_good.2 hx)]
      have T : ∀ {x : List (Int × Int)}, Good x → D19 n x (rl x) = some (best x, 0) := fun {x} hx => by
        have := (rl_ord x).len
        have := hx.len
        rw [Time_eq hn (by omega)]
        unfold timeS
        rw [put_zero.2 ⟨hx, rl_ord x⟩]
        rfl
      have C : ∀ {x : List (Int × Int)}, Good x → D31 n x = some (((bests x).length : Int), 0) := fun {x} hx => by
        rw [Count_eq hn]
        unfold countS
        rw [if_neg (by simpa using chk_good.2 hx)]
      have O2 : D45 n (rl mv) (l.length : Int) = some true := orderly_eq hn h7 (by rw [← hml]; exact rl_ord mv)
      rw [dlt_f hlt, cond_false, R hg, Option.bind_some, R hgm, Option.bind_some]
      simp only [bne_self_eq_false, beq_self_eq_true, cond_true, Option.bind_some, orderly_eq hn h7 (rl_ord l), O2, Bool.not_true, cond_false, C hg, C hgm, T hg, T hgm, hb1, hb2, hw]
theorem named_ok {f : Fm} (hf : FmOk f) {v : Bt} (hv : BtOk v) : S9 N f v = some true := by
  rw [S9_D N rfl]
  unfold D9
  obtain ⟨l, e1, hg, h6⟩ := made_ex hN1 hf (most := 6) ⟨by omega, by omega⟩
  obtain ⟨o, e2, ho⟩ := order_ex hN1 hv (L := l.length) hg.len
  have h7 := hg.len
  rw [e1, Option.bind_some, e2, Option.bind_some, decide_eq_true (show (0 : Int) ≤ (l.length : Int) by omega), decide_eq_true (Int.le_refl _), decide_eq_true (show (l.length : Int) ≤ lim by simp [lim]; omega), Bool.and_self, Bool.and_self, cond_true, Int.toNat_natCast]
  exact named_loop N hN1 hg ho works_eq N.1 0 _ (by omega) (by have : N.1 = 10000 := rfl; omega) (by simp) (fun j hj hj' hjk => by omega)

abbrev Sh2 : Sh := .pair (.int .u8) (.int .u8)
abbrev ShF : Sh := .pair (.int .u8) (.pair (.int .u8) (.pair Sh2 (.pair Sh2 (.pair Sh2 (.pair Sh2 (.pair Sh2 (.pair Sh2 Sh2)))))))
abbrev ShB : Sh := .pair (.int .u8) (.pair (.int .u8) (.pair (.int .u8) (.pair (.int .u8) (.pair (.int .u8) (.pair (.int .u8) (.int .u8))))))
theorem u8_rng {x : Int} (h : (Lit.int .u8 x).wf = true) : 0 ≤ x ∧ x ≤ 255 := by
  simpa [Lit.wf, IntKind.min, IntKind.max, IntKind.signed, IntKind.bits] using h
theorem by_wf {x : Int} (h : Wf (.int .u8) x) : By x := u8_rng h
theorem fm_ok {f : Fm} (h : Wf ShF f) : FmOk f := by
  obtain ⟨ha, hb, h1, h2, h3, h4, h5, h6, h7⟩ := h
  refine ⟨by_wf ha, by_wf hb, fun x hx => ?_⟩
  simp only [List.mem_cons, List.not_mem_nil, or_false] at hx
  rcases hx with e | e | e | e | e | e | e <;> subst e
  · exact ⟨by_wf h1.1, by_wf h1.2⟩
  · exact ⟨by_wf h2.1, by_wf h2.2⟩
  · exact ⟨by_wf h3.1, by_wf h3.2⟩
  · exact ⟨by_wf h4.1, by_wf h4.2⟩
  · exact ⟨by_wf h5.1, by_wf h5.2⟩
  · exact ⟨by_wf h6.1, by_wf h6.2⟩
  · exact ⟨by_wf h7.1, by_wf h7.2⟩
theorem bt_ok {v : Bt} (h : Wf ShB v) : BtOk v := by
  obtain ⟨h1, h2, h3, h4, h5, h6, h7⟩ := h
  intro x hx
  unfold bts at hx
  simp only [List.mem_cons, List.not_mem_nil, or_false] at hx
  rcases hx with e | e | e | e | e | e | e <;> subst e
  · exact by_wf h1
  · exact by_wf h2
  · exact by_wf h3
  · exact by_wf h4
  · exact by_wf h5
  · exact by_wf h6
  · exact by_wf h7
end Go.Proofs.Ytnlbhjmbaedadaa
