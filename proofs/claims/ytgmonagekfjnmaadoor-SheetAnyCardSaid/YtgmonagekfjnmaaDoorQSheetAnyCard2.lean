/- Texts of this claim, joined: Sl to Td. -/
import Derived.KernelRfl
import Derived.Test.YtgmonagekfjnmaaDoorProg
import Derived.WalkKit
import Derived.Test.YtgmonagekfjnmaaDoorQSheetAnyCard1
set_option linter.unusedVariables false
set_option linter.unusedSimpArgs false
namespace Go.Proofs.YtgmonagekfjnmaaDoor
open Go.Vi
/-- A piece's length. -/
def pc (l : List Int) (i : Int) : Int := l.getD i.toNat 0
theorem idx_pc {l : List Int} {i : Int} (h0 : 0 ≤ i) (h1 : i < l.length) : idx l i = some (pc l i) := by
  rw [idx_int (k := i.toNat) (by omega) (by omega)]
  simp [pc, show i.toNat < l.length by omega]
theorem pc_mem {l : List Int} {i : Int} (h0 : 0 ≤ i) (h1 : i < l.length) : pc l i ∈ l := by
  unfold pc
  rw [List.getD_eq_getElem?_getD, List.getElem?_eq_getElem (by omega), Option.getD_some]
  exact List.getElem_mem _
/-- Numbers are put into a list that falls, and numbers one after the other. -/
def insR (c : Int → Int → Bool) (x : Int) : List Int → List Int
  | [] => [x]
  | y :: Q => bif c x y then y :: insR c x Q else x :: y :: Q
def srt (c : Int → Int → Bool) : List Int → List Int → List Int
  | Q, [] => Q
  | Q, x :: r => srt c (insR c x Q) r
theorem insR_perm (c : Int → Int → Bool) (x : Int) : ∀ Q, (insR c x Q).Perm (x :: Q)
  | [] => List.Perm.refl _
  | y :: Q => by
    unfold insR
    cases c x y
    · exact List.Perm.refl _
    · exact (List.Perm.cons y (insR_perm c x Q)).trans (List.Perm.swap x y Q)
theorem insR_len (c : Int → Int → Bool) (x : Int) (Q : List Int) : (insR c x Q).length = Q.length + 1 := (insR_perm c x Q).length_eq
theorem srt_perm (c : Int → Int → Bool) : ∀ r Q, (srt c Q r).Perm (r ++ Q)
  | [], Q => List.Perm.refl _
  | x :: r, Q => by
    unfold srt
    refine (srt_perm c r _).trans (((insR_perm c x Q).append_left r).trans ?_)
    exact List.perm_middle
theorem insR_sort {c : Int → Int → Bool} {R : Int → Int → Prop} (ht : ∀ i j k, R i j → R j k → R i k) {x : Int} : ∀ {Q : List Int}, (∀ y ∈ Q, (c x y = true → R x y) ∧ (c x y = false → R y x)) → Q.Pairwise (fun a b => R b a) → (insR c x Q).Pairwise (fun a b => R b a)
  | [], _, _ => by simp [insR]
  | y :: Q, h, hp => by
    rw [List.pairwise_cons] at hp
    unfold insR
    cases e : c x y
    · rw [cond_false]
      have hy := (h y (by simp)).2 e
      refine List.pairwise_cons.2 ⟨fun z hz => ?_, List.pairwise_cons.2 hp⟩
      rcases List.mem_cons.1 hz with e' | hz
      · subst e'; exact hy
      · exact ht _ _ _ (hp.1 z hz) hy
    · rw [cond_true]
      refine List.pairwise_cons.2 ⟨fun z hz => ?_, insR_sort ht (fun y hy => h y (by simp [hy])) hp.2⟩
      rcases List.mem_cons.1 ((insR_perm c x Q).mem_iff.1 hz) with e' | hz
      · subst e'; exact (h y (by simp)).1 e
      · exact hp.1 z hz
theorem srt_sort {c : Int → Int → Bool} {R : Int → Int → Prop} (ht : ∀ i j k, R i j → R j k → R i k) {P : Int → Prop} (hc : ∀ x y, P x → P y → y < x → (c x y = true → R x y) ∧ (c x y = false → R y x)) : ∀ {r Q : List Int}, (∀ x ∈ r, P x) → (∀ x ∈ Q, P x) → (∀ x ∈ r, ∀ y ∈ Q, y < x) → r.Pairwise (· < ·) → Q.Pairwise (fun a b => R b a) → (srt c Q r).Pairwise (fun a b => R b a)
  | [], Q, _, _, _, _, hQ => hQ
  | x :: r, Q, pr, pQ, hlt, hr, hQ => by
    unfold srt
    rw [List.pairwise_cons] at hr
    refine srt_sort ht hc (fun y hy => pr y (by simp [hy])) (fun y hy => ?_) (fun y hy z hz => ?_) hr.2 (insR_sort ht (fun y hy => hc x y (pr x (by simp)) (pQ y hy) (hlt x (by simp) y hy)) hQ)
    · rcases List.mem_cons.1 ((insR_perm c x Q).mem_iff.1 hy) with e | hy
      · subst e; exact pr y (by simp)
      · exact pQ y hy
    · rcases List.mem_cons.1 ((insR_perm c x Q).mem_iff.1 hz) with e | hz
      · subst e; exact hr.1 y hy
      · exact hlt y (by simp [hy]) z hz
theorem idx_at {α : Type} {A r : List α} {y : α} {k : Nat} (h : A.length = k) : idx (A ++ y :: r) (k : Int) = some y := by
  rw [idx_nat (by simp; omega)]
  simp [← h]
theorem set_at {α : Type} {A r : List α} {y z : α} {k : Nat} (h : A.length = k) : (A ++ y :: r).set k z = A ++ z :: r := by
  subst h
  induction A with
  | nil => rfl
  | cons a A ih => simp only [List.cons_append, List.length_cons, List.set_cons_succ, ih]
def cmf (l : List Int) (x y : Int) : Bool := decide (pc l y < pc l x)
theorem cmpf (n : Nat × Nat) {l : List Int} (hb : ∀ s ∈ l, 1 ≤ s ∧ s ≤ 24) {i j : Int} (hi : 0 ≤ i ∧ i < l.length) (hj : 0 ≤ j ∧ j < l.length) : ∃ r : Int, D97 n i j l = some r ∧ decide (r < 0) = cmf l i j := by
  unfold D97 cmf
  rw [idx_pc hi.1 hi.2, idx_pc hj.1 hj.2]
  have o1 := hb _ (pc_mem hi.1 hi.2)
  have o2 := hb _ (pc_mem hj.1 hj.2)
  refine ⟨pc l j - pc l i, ?_, ?_⟩
  · simp only [Option.bind_some]
    rw [wr_ok (by omega) (by omega)]
  · exact decide_eq_decide.2 (by omega)
theorem inf_loop (n : Nat × Nat) (l : List Int) (hb : ∀ s ∈ l, 1 ≤ s ∧ s ≤ 24) (f : Int → Int → Int → List Int → List Int → Option R105c97io1001) (b i : Int) (x : Int) (hx : 0 ≤ x ∧ x < l.length) : ∀ (m : Nat) (Q T : List Int), Q.length < m → Q.length < 1000 → (∀ y ∈ Q, 0 ≤ y ∧ y < l.length) →
    DL105c97io1001_2 n f m 0 b i (Q.length : Int) (Q.reverse ++ x :: T) l = f 0 b (wr .i64 (i + 1)) ((insR (cmf l) x Q).reverse ++ T) l
  | 0, Q, T, h, _, _ => by omega
  | m + 1, [], T, h, _, hQ => by
    rw [DL105c97io1001_2_succ]
    unfold DF105c97io1001_2
    simp [insR]
  | m + 1, y :: Q, T, h, h8, hQ => by
    rw [DL105c97io1001_2_succ]
    unfold DF105c97io1001_2
    rw [List.length_cons] at h h8
    have hy := hQ y (by simp)
    obtain ⟨r, hr, hd⟩ := cmpf n hb hx hy
    have ih := inf_loop n l hb f b i x hx m Q (y :: T) (by omega) (by omega) (fun z hz => hQ z (by simp [hz]))
    have e : (y :: Q).reverse ++ x :: T = Q.reverse ++ y :: x :: T := by simp
    have w : wr .i64 (((y :: Q).length : Int) - 1) = (Q.length : Int) := by rw [List.length_cons, wr_ok (by omega) (by omega)]; omega
    have a1 : ∀ T' : List Int, idx (Q.reverse ++ y :: x :: T') ((y :: Q).length : Int) = some x := fun T' => by
      have := idx_at (A := Q.reverse ++ [y]) (r := T') (y := x) (k := (y :: Q).length) (by simp)
      simpa using this
    have a2 : ∀ T' : List Int, idx (Q.reverse ++ y :: T') (Q.length : Int) = some y := fun T' => idx_at (by simp)
    have a3 : (Q.reverse ++ y :: x :: T).set (y :: Q).length y = Q.reverse ++ y :: y :: T := by
      have := set_at (A := Q.reverse ++ [y]) (r := T) (y := x) (z := y) (k := (y :: Q).length) (by simp)
      rw [List.append_assoc, List.append_assoc] at this
      exact this
    have a4 : (Q.reverse ++ y :: y :: T).set Q.length x = Q.reverse ++ x :: y :: T := set_at (by simp)
    rw [e]
    rw [decide_eq_true (show (((y :: Q).length : Nat) : Int) > 0 by rw [List.length_cons]; omega), w]
    simp only [beq_self_eq_true, cond_true]
    rw [inB_nat (show (y :: Q).length < (Q.reverse ++ y :: x :: T).length by simp <;> omega), inB_nat (show Q.length < (Q.reverse ++ y :: x :: T).length by simp <;> omega)]
    simp only [cond_true, a1, a2, Option.bind_some, hr, hd]
    unfold insR
    cases cmf l x y
    · simp only [cond_false]
      congr 1
      simp
    · simp only [cond_true]
      rw [Int.toNat_natCast, Int.toNat_natCast, a3, a2, inB_nat (show Q.length < (Q.reverse ++ y :: y :: T).length by simp <;> omega)]
      simp only [cond_true, Option.bind_some, a4, ih]
      congr 1
      simp
theorem sof_loop (n : Nat × Nat) (hn : 1000 ≤ n.1) (l : List Int) (hb : ∀ s ∈ l, 1 ≤ s ∧ s ≤ 24) : ∀ (m : Nat) (r Q : List Int), r.length < m → Q.length + r.length < 900 → (∀ y ∈ Q, 0 ≤ y ∧ y < l.length) → (∀ y ∈ r, 0 ≤ y ∧ y < l.length) →
    DL105c97io1001_1 n m 0 ((Q.length + r.length : Nat) : Int) (Q.length : Int) (Q.reverse ++ r) l = some ((), (srt (cmf l) Q r).reverse, l, ())
  | 0, r, Q, h, _, _, _ => by omega
  | m + 1, [], Q, h, _, _, _ => by
    rw [DL105c97io1001_1_succ]
    unfold DF105c97io1001_1
    rw [dlt_f (by simp), cond_false]
    simp [srt]
  | m + 1, x :: r, Q, h, h8, hQ, hr => by
    rw [DL105c97io1001_1_succ]
    unfold DF105c97io1001_1
    rw [List.length_cons] at h h8
    have ih := sof_loop n hn l hb m r (insR (cmf l) x Q) (by omega) (by rw [insR_len]; omega) (fun y hy => by
      rcases List.mem_cons.1 ((insR_perm _ x Q).mem_iff.1 hy) with e | hy
      · subst e; exact hr y (by simp)
      · exact hQ y hy) (fun y hy => hr y (by simp [hy]))
    rw [dlt_t (by simp), cond_true, inf_loop n l hb _ _ _ x (hr x (by simp)) n.1 Q r (by omega) (by omega) hQ, wr_succ (by omega)]
    rw [insR_len] at ih
    rw [show Q.length + 1 + r.length = Q.length + (x :: r).length by rw [List.length_cons]; omega] at ih
    rw [ih]
    rfl
theorem sortf_eq {n : Nat × Nat} (hn : 1000 ≤ n.1) {l : List Int} (hb : ∀ s ∈ l, 1 ≤ s ∧ s ≤ 24) {r : List Int} (h7 : r.length ≤ 8) (hr : ∀ y ∈ r, 0 ≤ y ∧ y < l.length) : D96c97io11 n r l = some ((), (srt (cmf l) [] r).reverse, l, ()) := by
  have hs5 : D105c97io1001 n r 0 (r.length : Int) l = some ((), (srt (cmf l) [] r).reverse, l, ()) := by
    unfold D105c97io1001
    match r, h7, hr with
    | [], _, _ =>
      have : n.1 = (n.1 - 1) + 1 := by omega
      rw [this, DL105c97io1001_1_succ]
      unfold DF105c97io1001_1
      rw [show wr .i64 ((0 : Int) + 1) = 1 by rw [wr_ok (by omega) (by omega)]; omega]
      rfl
    | x :: r, h7, hr =>
      have := sof_loop n hn l hb n.1 r [x] (by simp at h7; omega) (by simp at h7 ⊢; omega) (fun y hy => by rw [List.mem_singleton] at hy; subst hy; exact hr y (by simp)) (fun y hy => hr y (by simp [hy]))
      rw [show wr .i64 ((0 : Int) + 1) = 1 by rw [wr_ok (by omega) (by omega)]; omega]
      simpa [srt, insR, Nat.add_comm] using this
  have hl : (srt (cmf l) [] r).reverse.length = r.length := by
    rw [List.length_reverse, (srt_perm (cmf l) r []).length_eq]
    simp
  have hs4 : D104c97io101 n r (r.length : Int) l = some ((), (srt (cmf l) [] r).reverse, l, ()) := by
    unfold D104c97io101
    obtain ⟨k, hk⟩ : ∃ k, n.1 = k + 1 := ⟨n.1 - 1, by omega⟩
    rw [hk, DL104c97io101_1_succ]
    unfold DF104c97io101_1
    rw [decide_eq_false (show ¬ (20 : Int) ≤ (r.length : Int) by omega), cond_false, hs5]
    simp only [Option.bind_some]
    rw [show Nat.beq (srt (cmf l) [] r).reverse.length r.length = true by rw [hl]; exact Nat.beq_refl _, cond_true, hk, DL104c97io101_2_succ]
    unfold DF104c97io101_2
    rw [decide_eq_false (show ¬ (20 : Int) < (r.length : Int) by omega), cond_false]
  unfold D96c97io11
  rw [hs4]
  simp only [Option.bind_some]
  rw [show Nat.beq (srt (cmf l) [] r).reverse.length r.length = true by rw [hl]; exact Nat.beq_refl _, cond_true]
/-- The falling order. -/
def fal (ps : List Int) : List Int := (srt (cmf ps) [] ((List.range ps.length).map fun i : Nat => (i : Int))).reverse
theorem fal_loop (n : Nat × Nat) (hn : 1000 ≤ n.1) {ps : List Int} (hb : ∀ s ∈ ps, 1 ≤ s ∧ s ≤ 24) (h8 : ps.length ≤ 8) : ∀ (m k : Nat), k ≤ ps.length → ps.length - k < m →
    DL77_1 n m (ps.length : Int) (k : Int) ps (((List.range k).map fun i : Nat => (i : Int)) ++ List.replicate (ps.length - k) 0) = some (fal ps)
  | 0, k, _, h => by omega
  | m + 1, k, hk, h => by
    rw [DL77_1_succ]
    unfold DF77_1
    by_cases hlt : k < ps.length
    · have hrep : List.replicate (ps.length - k) (0 : Int) = 0 :: List.replicate (ps.length - (k + 1)) 0 := by
        rw [← List.replicate_succ]; congr 1; omega
      have hk2 : ((List.range k).map fun i : Nat => (i : Int)).length = k := by simp
      have e2 : (List.range (k + 1)).map (fun i : Nat => (i : Int)) = ((List.range k).map fun i : Nat => (i : Int)) ++ [(k : Int)] := by
        rw [List.range_succ, List.map_append]; rfl
      rw [dlt_t hlt, cond_true, hrep, inB_nat (by simp), cond_true, idx_at hk2, Option.bind_some, Int.toNat_natCast, set_at hk2, wr_succ (by omega)]
      have ih := fal_loop n hn hb h8 m (k + 1) (by omega) (by omega)
      rw [e2, List.append_assoc, List.singleton_append] at ih
      exact ih
    · have e : k = ps.length := by omega
      subst e
      have hr : ∀ y ∈ (List.range ps.length).map (fun i : Nat => (i : Int)), 0 ≤ y ∧ y < ps.length := fun y hy => by
        obtain ⟨i, hi, rfl⟩ := List.mem_map.1 hy
        have := List.mem_range.1 hi
        omega
      rw [dlt_f hlt, cond_false, Nat.sub_self, List.replicate_zero, List.append_nil, sortf_eq hn hb (by simp; omega) hr, Option.bind_some]
      have hl : (srt (cmf ps) [] ((List.range ps.length).map fun i : Nat => (i : Int))).reverse.length = ((List.range ps.length).map fun i : Nat => (i : Int)).length := by
        rw [List.length_reverse, (srt_perm (cmf ps) _ []).length_eq]
        simp
      rw [show Nat.beq (srt (cmf ps) [] ((List.range ps.length).map fun i : Nat => (i : Int))).reverse.length ((List.range ps.length).map fun i : Nat => (i : Int)).length = true by rw [hl]; exact Nat.beq_refl _, cond_true]
      rfl
theorem fall_eq {n : Nat × Nat} (hn : 1000 ≤ n.1) {ps : List Int} (hb : ∀ s ∈ ps, 1 ≤ s ∧ s ≤ 24) (h8 : ps.length ≤ 8) : D77 n ps = some (fal ps) := by
  unfold D77
  rw [decide_eq_true (show (0 : Int) ≤ (ps.length : Int) by omega), decide_eq_true (show (ps.length : Int) ≤ (ps.length : Int) by omega), decide_eq_true (show (ps.length : Int) ≤ lim by unfold lim; omega), Int.toNat_natCast, List.length_replicate]
  have := fal_loop n hn hb h8 n.1 0 (by omega) (by omega)
  exact this
theorem fal_perm (ps : List Int) : (fal ps).Perm ((List.range ps.length).map fun i : Nat => (i : Int)) := by
  unfold fal
  refine (List.reverse_perm _).trans ((srt_perm _ _ []).trans ?_)
  rw [List.append_nil]
/-- The order of the falling order. -/
def Fbf (ps : List Int) (i j : Int) : Prop := pc ps j < pc ps i ∨ pc ps i = pc ps j ∧ i < j
theorem fal_sort (ps : List Int) : (fal ps).Pairwise (Fbf ps) := by
  unfold fal
  rw [List.pairwise_reverse]
  refine srt_sort (R := Fbf ps) (fun i j k h1 h2 => by unfold Fbf at *; omega) (P := fun _ => True) (fun x y _ _ hlt => ?_) (fun _ _ => trivial) (fun _ _ => trivial) (fun _ _ y hy => by cases hy) ?_ List.Pairwise.nil
  · unfold cmf Fbf
    refine ⟨fun h => ?_, fun h => ?_⟩
    · have := of_decide_eq_true h; omega
    · have := of_decide_eq_false h; omega
  · rw [List.pairwise_map]
    exact (List.pairwise_lt_range).imp (fun h => by omega)
end Go.Proofs.YtgmonagekfjnmaaDoor
set_option linter.unusedVariables false
set_option linter.unusedSimpArgs false
set_option maxRecDepth 100000
namespace Go.Proofs.YtgmonagekfjnmaaDoor
open Go.Vi
/-D 41 -/
/-D 88 -/
/-D 43 -/
/-D 45 -/
/-D 47 -/
/-D 6 -/
end Go.Proofs.YtgmonagekfjnmaaDoor
set_option linter.unusedVariables false
set_option linter.unusedSimpArgs false
namespace Go.Proofs.YtgmonagekfjnmaaDoor
open Go.Vi
/-! Bounds. -/
def bal (sz k : Int) : List Int → Int
  | [] => 0
  | p :: r => (if sz - k < p ∨ sz < 2 * p then 1 else 0) + bal sz k r
def blf (sz k : Int) : List Int → Int
  | [] => 0
  | p :: r => (if sz - k < p then 0 else if sz < 2 * p then sz - p else 0) + blf sz k r
def bsm (sz k : Int) : List Int → Int
  | [] => 0
  | p :: r => (if sz - k < p ∨ sz < 2 * p then 0 else if k ≤ p then p else 0) + bsm sz k r
/-- A bound. -/
def bnd (sz : Int) (ps : List Int) (k : Int) : Int := bal sz k ps + (max (bsm sz k ps - blf sz k ps) 0 + sz - 1) / sz
theorem bound_loop (n : Nat × Nat) {sz k : Int} {ps : List Int} (hj : Job sz ps) (hk : 0 ≤ k ∧ k ≤ 24) : ∀ (m i : Nat) (a o : Int), i ≤ ps.length → ps.length - i < m → 0 ≤ a → a ≤ i → -24 * (i : Int) ≤ o → o ≤ 24 * i →
    DL87_1 n m sz k a o ps (ps.length : Int) (i : Int) = some (a + bal sz k (ps.drop i) + (max (o + bsm sz k (ps.drop i) - blf sz k (ps.drop i)) 0 + sz - 1) / sz)
  | 0, i, a, o, _, h, _, _, _, _ => by omega
  | m + 1, i, a, o, hi, h, ha, ha2, ho, ho2 => by
    have h8 := hj.len
    have hlo := hj.lo
    have hhi := hj.hi
    rw [DL87_1_succ]
    unfold DF87_1
    by_cases hlt : i < ps.length
    · have hp := hj.ok _ (List.getElem_mem hlt)
      rw [dlt_t hlt, cond_true, idx_nat hlt, Option.bind_some, drop_cons hlt]
      unfold DL87_2
      simp only [bal, blf, bsm]
      rw [wr_succ (by omega), wr_ok (x := sz - k) (by omega) (by omega), wr_ok (x := 2 * ps[i]) (by omega) (by omega), wr_ok (x := a + 1) (by omega) (by omega), wr_ok (x := sz - ps[i]) (by omega) (by omega), wr_ok (x := o - (sz - ps[i])) (by omega) (by omega), wr_ok (x := o + ps[i]) (by omega) (by omega)]
      have ih := fun a o h1 h2 h3 h4 => bound_loop n hj hk m (i + 1) a o (by omega) (by omega) h1 h2 h3 h4
      by_cases e1 : sz - k < ps[i]
      · rw [decide_eq_true (show ps[i] > sz - k from e1), cond_true, ih _ _ (by omega) (by omega) (by omega) (by omega), if_pos (.inl e1), if_pos e1, if_pos (.inl e1)]
        congr 2
        · omega
        · congr 2
          omega
      · rw [decide_eq_false (show ¬ ps[i] > sz - k from e1), cond_false, if_neg e1]
        by_cases e2 : sz < 2 * ps[i]
        · rw [decide_eq_true (show 2 * ps[i] > sz from e2), cond_true, ih _ _ (by omega) (by omega) (by omega) (by omega), if_pos (.inr e2), if_pos e2, if_pos (.inr e2)]
          congr 2
          · omega
          · congr 2
            omega
        · rw [decide_eq_false (show ¬ 2 * ps[i] > sz from e2), cond_false, if_neg (show ¬ (sz - k < ps[i] ∨ sz < 2 * ps[i]) by omega), if_neg e2, if_neg (show ¬ (sz - k < ps[i] ∨ sz < 2 * ps[i]) by omega)]
          by_cases e3 : k ≤ ps[i]
          · rw [decide_eq_true (show ps[i] ≥ k from e3), cond_true, ih _ _ (by omega) (by omega) (by omega) (by omega), if_pos e3]
            congr 2
            · omega
            · congr 2
              omega
          · rw [decide_eq_false (show ¬ ps[i] ≥ k from e3), cond_false, ih _ _ (by omega) (by omega) (by omega) (by omega), if_neg e3]
            congr 2
            · omega
            · congr 2
              omega
    · rw [dlt_f hlt, cond_false, List.drop_of_length_le (by omega)]
      simp only [bal, blf, bsm]
      have hmax : (if 0 > o then (0 : Int) else o) = max o 0 := by
        by_cases e : 0 > o
        · rw [if_pos e]; omega
        · rw [if_neg e]; omega
      rw [beq_false_of_ne (show sz ≠ 0 by omega), cond_false, hmax, wr_ok (x := max o 0 + sz) (by omega) (by omega), wr_ok (x := max o 0 + sz - 1) (by omega) (by omega), Int.tdiv_eq_ediv_of_nonneg (by omega)]
      have hd1 : 0 ≤ (max o 0 + sz - 1) / sz := Int.ediv_nonneg (by omega) (by omega)
      have hd2 : (max o 0 + sz - 1) / sz ≤ max o 0 + sz - 1 := Int.ediv_le_self _ (by omega)
      rw [wr_ok (x := (max o 0 + sz - 1) / sz) (by omega) (by omega), wr_ok (by omega) (by omega)]
      congr 2
      · omega
      · congr 2
        omega
theorem bound_eq {n : Nat × Nat} (hn : 1000 ≤ n.1) {sz k : Int} {ps : List Int} (hj : Job sz ps) (hk : 0 ≤ k ∧ k ≤ 24) : D87 n sz ps k = some (bnd sz ps k) := by
  unfold D87
  have := bound_loop n hj hk n.1 0 0 0 (by omega) (by have := hj.len; omega) (by omega) (by omega) (by omega) (by omega)
  rw [show ((0 : Nat) : Int) = 0 from rfl] at this
  rw [this, List.drop_zero]
  unfold bnd
  simp
theorem half_ok {sz : Int} (h : 1 ≤ sz ∧ sz ≤ 24) : wr .i64 (Int.tdiv sz 2) = sz / 2 ∧ 0 ≤ sz / 2 ∧ sz / 2 ≤ 12 := by
  rw [Int.tdiv_eq_ediv_of_nonneg (by omega)]
  exact ⟨wr_ok (by omega) (by omega), by omega, by omega⟩
def bdS (sz : Int) (ps : List Int) (k : Int) : Int × Int := if chk sz ps ≠ 0 then (0, chk sz ps) else if k < 0 ∨ sz / 2 < k then (0, 1) else (bnd sz ps k, 0)
theorem Bound_eq {n : Nat × Nat} (hn : 1000 ≤ n.1) (sz : Int) (ps : List Int) (k : Int) : D42 n sz ps k = some (bdS sz ps k) := by
  unfold D42 bdS
  rw [Check_eq hn, Option.bind_some]
  by_cases h : chk sz ps = 0
  · have hj := chk_job.1 h
    obtain ⟨e, h0, h12⟩ := half_ok ⟨hj.lo, hj.hi⟩
    rw [h, bne_self_eq_false, cond_false, if_neg (by simp), e]
    by_cases h1 : k < 0
    · rw [decide_eq_true h1, if_pos (.inl h1)]
      rfl
    · rw [decide_eq_false h1]
      simp only [beq_self_eq_true, cond_true, show ((2 : Nat) == 0) = false from rfl, cond_false, Option.bind_some]
      by_cases h2 : sz / 2 < k
      · rw [decide_eq_true (show k > sz / 2 from h2), if_pos (.inr h2), cond_true]
      · rw [decide_eq_false (show ¬ k > sz / 2 from h2), if_neg (by omega), cond_false, bound_eq hn hj ⟨by omega, by omega⟩, Option.bind_some]
  · rw [show (chk sz ps != 0) = true by simpa using h, cond_true, if_pos h]
def divT : List Int := [0, 2, 6, 10, 22, 34, 78, 130, 278, 522, 1062, 2050, 4190, 8194, 16518, 32810, 65814, 131074, 262734, 524290, 1049654, 2097290, 4196358, 8388610, 16781662]
def dbit (x p : Int) : Bool := (wr .u32 (BitVec.ofInt (IntKind.bits .u32) (Int.fdiv x (2 ^ (min (Int.toNat p) (IntKind.bits .u32)))) &&& BitVec.ofInt (IntKind.bits .u32) 1).toNat) == 0
theorem div_tab : ∀ s : Fin 25, ∀ p : Fin 25, 1 ≤ s.val → 1 ≤ p.val → dbit (divT.getD s.val 0) (p.val : Int) = !decide (s.val % p.val = 0) := by decide +kernel
theorem div_bit {s p : Int} (hs : 1 ≤ s ∧ s ≤ 24) (hp : 1 ≤ p ∧ p ≤ 24) : ∃ x, idx divT s = some x ∧ dbit x p = !decide (s % p = 0) := by
  have h := div_tab ⟨s.toNat, by omega⟩ ⟨p.toNat, by omega⟩ (by simp only []; omega) (by simp only []; omega)
  simp only [] at h
  have hl : s.toNat < divT.length := by
    have : divT.length = 25 := rfl
    omega
  refine ⟨divT[s.toNat], idx_int (by omega) hl, ?_⟩
  rw [List.getD_eq_getElem?_getD, List.getElem?_eq_getElem hl, Option.getD_some, show ((p.toNat : Nat) : Int) = p by omega] at h
  rw [h]
  congr 1
  apply decide_eq_decide.2
  have e1 : (s.toNat : Int) = s := by omega
  have e2 : (p.toNat : Int) = p := by omega
  constructor
  · intro hh
    rw [← e1, ← e2]
    exact_mod_cast hh
  · intro hh
    rw [← e1, ← e2] at hh
    exact_mod_cast hh
/-- Each one divides the one before it. -/
def Chn : Int → List Int → Prop
  | _, [] => True
  | s, p :: r => s % p = 0 ∧ Chn p r
instance Chn.dec : ∀ (s : Int) (l : List Int), Decidable (Chn s l)
  | _, [] => .isTrue trivial
  | s, p :: r => by
    unfold Chn
    have := Chn.dec p r
    exact inferInstance
theorem chain_loop (n : Nat × Nat) {ps : List Int} (hb : ∀ p ∈ ps, 1 ≤ p ∧ p ≤ 24) {o : List Int} (ho : ∀ i ∈ o, 0 ≤ i ∧ i < ps.length) (hl : o.length ≤ 8) : ∀ (m k : Nat) (s : Int), k ≤ o.length → o.length - k < m → 1 ≤ s ∧ s ≤ 24 →
    DL40_1 n m s ps (o.length : Int) (k : Int) o = some (decide (Chn s ((o.drop k).map (pc ps))), 0)
  | 0, k, s, _, h, _ => by omega
  | m + 1, k, s, hk, h, hs => by
    rw [DL40_1_succ]
    unfold DF40_1
    by_cases hlt : k < o.length
    · have hi := ho _ (List.getElem_mem hlt)
      have hp := hb _ (pc_mem hi.1 hi.2)
      obtain ⟨x, hx, hd⟩ := div_bit hs hp
      rw [dlt_t hlt, cond_true, inB_nat hlt, cond_true, idx_nat hlt, Option.bind_some]
      rw [show idx ([0, 2, 6, 10, 22, 34, 78, 130, 278, 522, 1062, 2050, 4190, 8194, 16518, 32810, 65814, 131074, 262734, 524290, 1049654, 2097290, 4196358, 8388610, 16781662] : List Int) s = some x from hx, Option.bind_some, idx_pc hi.1 hi.2, Option.bind_some, decide_eq_false (by omega), cond_false, Option.bind_some, drop_cons hlt, List.map_cons]
      rw [show ((wr .u32 (BitVec.ofInt (IntKind.bits .u32) (Int.fdiv x (2 ^ (min (Int.toNat (pc ps o[k])) (IntKind.bits .u32)))) &&& BitVec.ofInt (IntKind.bits .u32) 1).toNat) == 0) = !decide (s % pc ps o[k] = 0) from hd, wr_succ (by omega), chain_loop n hb ho hl m (k + 1) _ (by omega) (by omega) hp]
      by_cases e : s % pc ps o[k] = 0
      · rw [decide_eq_true e, Bool.not_true, cond_false]
        congr 2
        apply decide_eq_decide.2
        exact ⟨fun h => ⟨e, h⟩, fun h => h.2⟩
      · rw [decide_eq_false e, Bool.not_false, cond_true]
        congr 2
        symm
        apply decide_eq_false
        exact fun hh => e hh.1
    · rw [dlt_f hlt, cond_false, List.drop_of_length_le (by omega)]
      rfl
/-- Lengths are a chain. -/
def Cmp (x y : Int) : Prop := x % y = 0 ∨ y % x = 0
def IsC (sz : Int) (ps : List Int) : Prop := (∀ p ∈ ps, sz % p = 0) ∧ ps.Pairwise Cmp
instance (x y : Int) : Decidable (Cmp x y) := inferInstanceAs (Decidable (_ ∨ _))
instance (sz : Int) (ps : List Int) : Decidable (IsC sz ps) := inferInstanceAs (Decidable (_ ∧ _))
theorem mod_trans {a b c : Int} (h1 : a % b = 0) (h2 : b % c = 0) : a % c = 0 :=
  Int.emod_eq_zero_of_dvd (Int.dvd_trans (Int.dvd_of_emod_eq_zero h2) (Int.dvd_of_emod_eq_zero h1))
theorem chn_iff : ∀ (l : List Int) (s : Int), Chn s l ↔ (∀ p ∈ l, s % p = 0) ∧ l.Pairwise (fun x y => x % y = 0)
  | [], s => by simp [Chn]
  | p :: r, s => by
    unfold Chn
    rw [chn_iff r p, List.pairwise_cons]
    constructor
    · rintro ⟨h1, h2, h3⟩
      refine ⟨fun q hq => ?_, h2, h3⟩
      rcases List.mem_cons.1 hq with rfl | hq
      · exact h1
      · exact mod_trans h1 (h2 q hq)
    · rintro ⟨h1, h2, h3⟩
      exact ⟨h1 p (by simp), h2, h3⟩
theorem chn_fall {s : Int} {l : List Int} (hb : ∀ p ∈ l, 1 ≤ p) (hf : l.Pairwise (fun x y => y ≤ x)) : Chn s l ↔ IsC s l := by
  rw [chn_iff]
  unfold IsC
  constructor
  · rintro ⟨h1, h2⟩
    exact ⟨h1, h2.imp (fun h => .inl h)⟩
  · rintro ⟨h1, h2⟩
    refine ⟨h1, ?_⟩
    have : ∀ {l : List Int}, (∀ p ∈ l, 1 ≤ p) → l.Pairwise (fun x y => y ≤ x) → l.Pairwise Cmp → l.Pairwise (fun x y => x % y = 0) := by
      intro l
      induction l with
      | nil => intros; exact List.Pairwise.nil
      | cons x r ih =>
        intro hb hf h2
        rw [List.pairwise_cons] at hf h2 ⊢
        refine ⟨fun y hy => ?_, ih (fun p hp => hb p (by simp [hp])) hf.2 h2.2⟩
        have h3 := hf.1 y hy
        have hx := hb x (by simp)
        have hy1 := hb y (by simp [hy])
        rcases h2.1 y hy with h | h
        · exact h
        · have := Int.le_of_dvd (by omega) (Int.dvd_of_emod_eq_zero h)
          have e : x = y := by omega
          rw [e, Int.emod_self]
    exact this hb hf h2
theorem cmp_symm {x y : Int} (h : Cmp x y) : Cmp y x := Or.symm h
theorem isC_perm {s : Int} {a b : List Int} (h : a.Perm b) : IsC s a ↔ IsC s b := by
  unfold IsC
  rw [h.pairwise_iff cmp_symm]
  constructor
  · rintro ⟨h1, h2⟩
    exact ⟨fun p hp => h1 p (h.mem_iff.2 hp), h2⟩
  · rintro ⟨h1, h2⟩
    exact ⟨fun p hp => h1 p (h.mem_iff.1 hp), h2⟩
theorem map_pc (ps : List Int) : ((List.range ps.length).map fun i : Nat => (i : Int)).map (pc ps) = ps := by
  apply List.ext_getElem
  · simp
  · intro i h1 h2
    simp only [List.getElem_map, List.getElem_range, pc, Int.toNat_natCast]
    rw [List.getD_eq_getElem?_getD, List.getElem?_eq_getElem h2, Option.getD_some]
theorem fal_rng (ps : List Int) : ∀ i ∈ fal ps, 0 ≤ i ∧ i < ps.length := fun i hi => by
  obtain ⟨k, hk, rfl⟩ := List.mem_map.1 ((fal_perm ps).mem_iff.1 hi)
  have := List.mem_range.1 hk
  omega
theorem fal_len (ps : List Int) : (fal ps).length = ps.length := by
  rw [(fal_perm ps).length_eq]; simp
theorem fal_map (ps : List Int) : ((fal ps).map (pc ps)).Perm ps := by
  have := (fal_perm ps).map (pc ps)
  rwa [map_pc] at this
theorem fal_down (ps : List Int) : ((fal ps).map (pc ps)).Pairwise (fun x y => y ≤ x) := by
  rw [List.pairwise_map]
  exact (fal_sort ps).imp (fun h => by unfold Fbf at h; omega)
def chS (sz : Int) (ps : List Int) : Bool × Int := if chk sz ps ≠ 0 then (false, chk sz ps) else (decide (IsC sz ps), 0)
theorem Chain_eq {n : Nat × Nat} (hn : 1000 ≤ n.1) (sz : Int) (ps : List Int) : D40 n sz ps = some (chS sz ps) := by
  unfold D40 chS
  rw [Check_eq hn, Option.bind_some]
  by_cases h : chk sz ps = 0
  · have hj := chk_job.1 h
    have hb : ∀ s ∈ ps, 1 ≤ s ∧ s ≤ 24 := fun s hs => by have := hj.ok s hs; have := hj.hi; omega
    have hl := fal_len ps
    have h8 := hj.len
    rw [h, bne_self_eq_false, cond_false, if_neg (by simp), fall_eq hn hb hj.len, Option.bind_some]
    have := chain_loop n hb (fal_rng ps) (by omega) n.1 0 sz (by omega) (by omega) ⟨hj.lo, hj.hi⟩
    rw [show ((0 : Nat) : Int) = 0 from rfl, List.drop_zero] at this
    rw [this]
    congr 2
    apply decide_eq_decide.2
    rw [chn_fall (fun p hp => (hb p ((fal_map ps).mem_iff.1 hp)).1) (fal_down ps), isC_perm (fal_map ps)]
  · rw [show (chk sz ps != 0) = true by simpa using h, cond_true, if_pos h]
theorem tmod_mod {a b : Int} (h : 0 ≤ a) : Int.tmod a b = a % b := Int.tmod_eq_emod_of_nonneg h
end Go.Proofs.YtgmonagekfjnmaaDoor
set_option linter.unusedVariables false
set_option linter.unusedSimpArgs false
set_option maxRecDepth 100000
namespace Go.Proofs.YtgmonagekfjnmaaDoor
open Go.Vi
/-D 49 -/
/-D 91io00111 -/
/-D 101f91io001110 -/
/-D 90c91io001 -/
/-D 52 -/
/-D 7 -/
end Go.Proofs.YtgmonagekfjnmaaDoor
set_option linter.unusedVariables false
set_option linter.unusedSimpArgs false
namespace Go.Proofs.YtgmonagekfjnmaaDoor
open Go.Vi
/-! Numbers by their first places. -/
def dd : List Int → List Int → List Int
  | met, [] => met
  | met, x :: l => dd (if x ∈ met then met else met ++ [x]) l
theorem dd_snoc (x : Int) : ∀ (l met : List Int), dd met (l ++ [x]) = if x ∈ dd met l then dd met l else dd met l ++ [x]
  | [], met => rfl
  | y :: l, met => dd_snoc x l _
theorem dd_pre : ∀ (l met : List Int), ∃ s, dd met l = met ++ s
  | [], met => ⟨[], by simp [dd]⟩
  | y :: l, met => by
    unfold dd
    obtain ⟨s, hs⟩ := dd_pre l (if y ∈ met then met else met ++ [y])
    split at hs
    · rename_i h
      exact ⟨s, by rw [if_pos h]; exact hs⟩
    · rename_i h
      exact ⟨y :: s, by rw [if_neg h, hs]; simp⟩
theorem dd_mem (x : Int) : ∀ (l met : List Int), x ∈ dd met l ↔ x ∈ met ∨ x ∈ l
  | [], met => by simp [dd]
  | y :: l, met => by
    unfold dd
    rw [dd_mem x l]
    split
    · rename_i h
      constructor
      · rintro (h1 | h1)
        · exact .inl h1
        · exact .inr (by simp [h1])
      · rintro (h1 | h1)
        · exact .inl h1
        · rcases List.mem_cons.1 h1 with rfl | h1
          · exact .inl h
          · exact .inr h1
    · simp only [List.mem_append, List.mem_cons, List.not_mem_nil, or_false, or_assoc]
def ps0 (x : Int) (l : List Int) : Int := fnd (fun y => x == y) 0 l
theorem fnd_app {x : Int} : ∀ {a : List Int} (b : List Int) (k : Nat), x ∈ a → fnd (fun y => x == y) k (a ++ b) = fnd (fun y => x == y) k a
  | [], _, _, h => by simp at h
  | y :: a, b, k, h => by
    simp only [List.cons_append, fnd]
    by_cases e : x = y
    · simp [e]
    · rw [if_neg (by simpa using e), if_neg (by simpa using e), fnd_app b (k + 1) ((List.mem_cons.1 h).resolve_left e)]
theorem fnd_new {x : Int} : ∀ {a : List Int} (b : List Int) (k : Nat), x ∉ a → fnd (fun y => x == y) k (a ++ x :: b) = k + a.length
  | [], b, k, _ => by simp [fnd]
  | y :: a, b, k, h => by
    simp only [List.mem_cons, not_or] at h
    simp only [List.cons_append, fnd]
    rw [if_neg (by simpa using h.1), fnd_new b (k + 1) h.2]
    simp only [List.length_cons]
    omega
theorem fnd_lt {x : Int} {a : List Int} (h : x ∈ a) : 0 ≤ ps0 x a ∧ ps0 x a < a.length := by
  unfold ps0
  have h1 := (fnd_mem x a).2 h
  rcases fnd_bnd (fun y => x == y) a 0 with ⟨h2, _⟩ | ⟨h2, h3, _⟩
  · omega
  · omega
theorem tid_map : ∀ (l met : List Int), tid met l = l.map fun x => ps0 x (dd met l)
  | [], met => rfl
  | x :: l, met => by
    unfold tid dd
    split
    · rename_i h
      rw [tid_map l, List.map_cons]
      congr 1
      obtain ⟨s, hs⟩ := dd_pre l met
      unfold ps0
      rw [hs, fnd_app s 0 h]
    · rename_i h
      rw [tid_map l, List.map_cons]
      congr 1
      obtain ⟨s, hs⟩ := dd_pre l (met ++ [x])
      unfold ps0
      rw [hs, List.append_assoc, List.singleton_append, fnd_new s 0 h]
      simp
theorem dd_take (l : List Int) : ∀ k, ∃ s, dd [] l = dd [] (l.take k) ++ s := fun k => by
  have : ∀ (a b met : List Int), dd met (a ++ b) = dd (dd met a) b := by
    intro a
    induction a with
    | nil => intro b met; rfl
    | cons y a ih => intro b met; exact ih b _
  have e := this (l.take k) (l.drop k) []
  rw [List.take_append_drop] at e
  rw [e]
  exact dd_pre _ _
theorem tid_mny (l : List Int) : ∀ k ≤ l.length, mny ((tid [] l).take k) = (dd [] (l.take k)).length
  | 0, _ => by simp [mny, dd]
  | k + 1, hk => by
    have ih := tid_mny l k (by omega)
    have hlt : k < l.length := by omega
    have hlt2 : k < (tid [] l).length := by rw [tid_len]; exact hlt
    rw [take_snoc hlt2, mny_snoc, ih, take_snoc hlt, dd_snoc]
    have e : (tid [] l)[k] = ps0 l[k] (dd [] l) := by simp [tid_map]
    rw [e]
    obtain ⟨s, hs⟩ := dd_take l k
    by_cases h : l[k] ∈ dd [] (l.take k)
    · rw [if_pos h]
      unfold ps0
      rw [hs, fnd_app s 0 h]
      have := fnd_lt h
      unfold ps0 at this
      omega
    · rw [if_neg h]
      obtain ⟨s2, hs2⟩ := dd_take l (k + 1)
      rw [take_snoc hlt, dd_snoc, if_neg h] at hs2
      unfold ps0
      rw [hs2, List.append_assoc, List.singleton_append, fnd_new s2 0 h]
      simp only [List.length_append, List.length_cons, List.length_nil]
      omega
/-! The reference's reading of groups. -/
/-- The first sheet with room, or the next one. -/
def ffp (p : Int) : List Int → Nat
  | [] => 0
  | x :: L => if p ≤ x then 0 else ffp p L + 1
theorem ffp_le (p : Int) : ∀ L, ffp p L ≤ L.length
  | [] => Nat.le_refl _
  | x :: L => by
    have := ffp_le p L
    unfold ffp
    split
    · omega
    · simp; omega
theorem ffp_room {p : Int} : ∀ {L : List Int} (h : ffp p L < L.length), p ≤ L[ffp p L]
  | [], h => by simp at h
  | x :: L, h => by
    by_cases e : p ≤ x
    · have : ffp p (x :: L) = 0 := by unfold ffp; rw [if_pos e]
      simp only [this]
      exact e
    · have he : ffp p (x :: L) = ffp p L + 1 := by simp only [ffp]; rw [if_neg e]
      simp only [he, List.getElem_cons_succ]
      rw [he, List.length_cons] at h
      exact ffp_room (by omega)
theorem ffp_below {p : Int} : ∀ {L : List Int} {s : Nat} (hs : s < L.length), s < ffp p L → L[s] < p
  | [], s, hs, _ => by simp at hs
  | x :: L, s, hs, h => by
    by_cases e : p ≤ x
    · have : ffp p (x :: L) = 0 := by unfold ffp; rw [if_pos e]
      omega
    · have he : ffp p (x :: L) = ffp p L + 1 := by simp only [ffp]; rw [if_neg e]
      rw [he] at h
      cases s with
      | zero => simp only [List.getElem_cons_zero]; omega
      | succ s =>
        simp only [List.getElem_cons_succ]
        exact ffp_below _ (by omega)
theorem ffp_rm {p sz : Int} {L : List Int} (h : p ≤ sz) : p ≤ rm sz L (ffp p L) := by
  have := ffp_le p L
  by_cases e : ffp p L < L.length
  · rw [rm_get e]; exact ffp_room e
  · have : ffp p L = L.length := by omega
    rw [this]
    unfold rm
    rw [List.getD_eq_getElem?_getD, List.getElem?_eq_none (by omega), Option.getD_none]
    exact h
/-- One piece more. -/
def fst1 (sz : Int) (ps : List Int) (t : List Int × List Int) (i : Int) : List Int × List Int :=
  (t.1.set i.toNat (ffp (pc ps i) t.2), up sz t.2 (ffp (pc ps i) t.2) (pc ps i))
def ffo (sz : Int) (ps o : List Int) (t : List Int × List Int) : List Int × List Int := o.foldl (fst1 sz ps) t
theorem ffo_len (sz : Int) (ps : List Int) : ∀ (o : List Int) (t : List Int × List Int), (ffo sz ps o t).1.length = t.1.length
  | [], t => rfl
  | i :: o, t => by
    show (ffo sz ps o (fst1 sz ps t i)).1.length = _
    rw [ffo_len sz ps o]
    simp [fst1]
theorem ffo_llen (sz : Int) (ps : List Int) : ∀ (o : List Int) (t : List Int × List Int), (ffo sz ps o t).2.length ≤ t.2.length + o.length
  | [], t => Nat.le_refl _
  | i :: o, t => by
    show (ffo sz ps o (fst1 sz ps t i)).2.length ≤ _
    have h1 := ffo_llen sz ps o (fst1 sz ps t i)
    have h2 := up_len (sz := sz) (pc ps i) (ffp_le (pc ps i) t.2)
    have h3 := ffp_le (pc ps i) t.2
    simp only [fst1] at h1 ⊢
    rw [List.length_cons]
    omega
/-- What is not placed does not matter. -/
theorem ffo_same (sz : Int) (ps : List Int) : ∀ (o A A' L : List Int), A.length = A'.length → (∀ j : Nat, (j : Int) ∉ o → A[j]? = A'[j]?) → (∀ i ∈ o, 0 ≤ i) → ffo sz ps o (A, L) = ffo sz ps o (A', L)
  | [], A, A', L, hl, h, _ => by
    have : A = A' := List.ext_getElem? (fun j => h j (by simp))
    rw [this]
  | i :: o, A, A', L, hl, h, h0 => by
    show ffo sz ps o (fst1 sz ps (A, L) i) = ffo sz ps o (fst1 sz ps (A', L) i)
    unfold fst1
    refine ffo_same sz ps o _ _ _ (by simp [hl]) (fun j hj => ?_) (fun k hk => h0 k (by simp [hk]))
    have hi := h0 i (by simp)
    rw [List.getElem?_set, List.getElem?_set, hl]
    by_cases e : i.toNat = j
    · rw [if_pos e, if_pos e]
    · rw [if_neg e, if_neg e]
      refine h j ?_
      rw [List.mem_cons]
      rintro (hh | hh)
      · omega
      · exact hj hh
/-! The law's filling. -/
theorem fill_in (n : Nat × Nat) (f1 : Int → List Int → List Int → Int → Int → List Int → List Int → Option R51) {sz : Int} {ps : List Int} (hj : Job sz ps) {i : Int} (hi : 0 ≤ i ∧ i < ps.length) (v22 : List Int) (v23 v24 : Int) {A L : List Int} (hA : A.length = ps.length) (hL : L.length ≤ 8) (hr : ∀ x ∈ L, 0 ≤ x ∧ x < sz) :
    ∀ (m s : Nat), s ≤ ffp (pc ps i) L → ffp (pc ps i) L - s < m → DL51_2 n f1 m sz ps i (s : Int) v22 v23 v24 A L = f1 sz ps v22 v23 (wr .i64 (v24 + 1)) (A.set i.toNat (ffp (pc ps i) L)) (up sz L (ffp (pc ps i) L) (pc ps i))
  | 0, s, _, h => by omega
  | m + 1, s, hs, h => by
    have hlo := hj.lo
    have hhi := hj.hi
    have h8 := hj.len
    have hp := hj.ok _ (pc_mem hi.1 hi.2)
    have hfl := ffp_le (pc ps i) L
    have hfr := ffp_rm (L := L) hp.2
    have hrr := rm_rng hr (by omega : 0 ≤ sz) (ffp (pc ps i) L)
    have hix := idx_pc hi.1 hi.2
    rw [DL51_2_succ]
    unfold DF51_2
    by_cases e : s < ffp (pc ps i) L
    · have hsl : s < L.length := by omega
      have hb := ffp_below hsl e
      have ih := fill_in n f1 hj hi v22 v23 v24 hA hL hr m (s + 1) (by omega) (by omega)
      rw [dlt_t hsl]
      simp only [beq_self_eq_true, cond_true]
      rw [inB_nat hsl, cond_true, idx_nat hsl, Option.bind_some, hix, Option.bind_some, decide_eq_true hb]
      simp only [Option.bind_some, cond_true]
      rw [wr_succ (by omega), ih]
    · have hs2 : s = ffp (pc ps i) L := by omega
      subst hs2
      have hup : ∀ q : List Int, q = (if ffp (pc ps i) L = L.length then L ++ [sz] else L) → q.set (ffp (pc ps i) L) (rm sz L (ffp (pc ps i) L) - pc ps i) = up sz L (ffp (pc ps i) L) (pc ps i) := fun q hq => by rw [hq]; rfl
      have hin : inB i A.length = true := by rw [show i = (i.toNat : Int) by omega]; exact inB_nat (by omega)
      have hgA : ∃ y, idx A i = some y := ⟨_, idx_int (k := i.toNat) (by omega) (by omega)⟩
      obtain ⟨y, hy⟩ := hgA
      generalize hs : ffp (pc ps i) L = s at *
      by_cases e2 : s < L.length
      · have hroom : rm sz L s = L[s] := rm_get e2
        rw [dlt_t e2]
        simp only [beq_self_eq_true, cond_true]
        rw [inB_nat e2, cond_true, idx_nat e2, Option.bind_some, hix, Option.bind_some, decide_eq_false (by omega)]
        simp only [Option.bind_some, cond_false, cond_true]
        rw [beq_false_of_ne (show (s : Int) ≠ (L.length : Int) by omega), cond_false, hin, cond_true, hy, Option.bind_some, wr_ok (x := L[s] - pc ps i) (by omega) (by omega), Int.toNat_natCast, ← hroom, hup L (by rw [if_neg (by omega)])]
      · have e3 : s = L.length := by omega
        have hroom : rm sz L s = sz := by unfold rm; rw [List.getD_eq_getElem?_getD, List.getElem?_eq_none (by omega), Option.getD_none]
        have hsl : s < (L ++ [sz]).length := by simp; omega
        have hg : (L ++ [sz])[s] = sz := by simp [e3]
        rw [dlt_f e2]
        simp only [show (false == true) = false from rfl, cond_false, Option.bind_some]
        rw [show ((s : Int) == (L.length : Int)) = true by simp [e3], cond_true, lim_dec (by omega), cond_true, inB_nat hsl, cond_true, idx_nat hsl, Option.bind_some, hix, Option.bind_some, cond_true, Option.bind_some, hin, cond_true, hy, Option.bind_some, hg, wr_ok (x := sz - pc ps i) (by omega) (by omega), Int.toNat_natCast]
        have := hup (L ++ [sz]) (by rw [if_pos e3])
        rw [hroom] at this
        rw [this]
/-- Names by their order. -/
def nmz : Nat → List Int → List (Int × Int)
  | _, [] => []
  | k, x :: r => (x, (k : Int)) :: nmz (k + 1) r
theorem nmz_len : ∀ (l : List Int) (k : Nat), (nmz k l).length = l.length
  | [], _ => rfl
  | x :: l, k => by simp [nmz, nmz_len l]
theorem nmz_look (y : Int) : ∀ (l : List Int) (k : Nat), alook (nmz k l) y = if y ∈ l then some (fnd (fun x => y == x) k l) else none
  | [], k => by simp [nmz, alook]
  | x :: l, k => by
    have ih := nmz_look y l (k + 1)
    unfold alook at ih ⊢
    simp only [nmz, List.find?_cons]
    by_cases e : x = y
    · subst e
      simp [fnd]
    · have e2 : ¬ y = x := fun h => e h.symm
      rw [show ((x == y) = false) by simpa using e]
      simp only [ih, List.mem_cons, e2, false_or, fnd, show ((y == x) = false) by simpa using e2, Bool.false_eq_true, if_false]
theorem nmz_set (y v : Int) : ∀ (l : List Int) (k : Nat), y ∉ l → aset (nmz k l) y v = nmz k l ++ [(y, v)]
  | [], _, _ => rfl
  | x :: l, k, h => by
    rw [List.mem_cons] at h
    simp only [nmz, aset, List.cons_append]
    rw [show ((x == y) = false) by simpa using (fun e : x = y => h (.inl e.symm)), cond_false, nmz_set y v l (k + 1) (fun hh => h (.inr hh))]
theorem nmz_snoc (y : Int) : ∀ (l : List Int) (k : Nat), nmz k (l ++ [y]) = nmz k l ++ [(y, ((k + l.length : Nat) : Int))]
  | [], k => by simp [nmz]
  | x :: l, k => by
    simp only [List.cons_append, nmz]
    rw [nmz_snoc y l (k + 1), show k + 1 + l.length = k + (x :: l).length by simp; omega]
theorem name_loop (n : Nat × Nat) (left A : List Int) (hA : A.length ≤ 100) : ∀ (m k : Nat) (met plan : List Int), k ≤ A.length → A.length - k < m → met.length ≤ k → plan.length = k →
    DL51_3 n m (A.length : Int) (k : Int) left (nmz 0 met) plan A = some (plan ++ tid met (A.drop k), left)
  | 0, k, _, _, _, h, _, _ => by omega
  | m + 1, k, met, plan, hk, h, hm, hp => by
    rw [DL51_3_succ]
    unfold DF51_3
    by_cases hlt : k < A.length
    · rw [dlt_t hlt, cond_true, inB_nat hlt, cond_true, idx_nat hlt, Option.bind_some, drop_cons hlt, nmz_look]
      unfold tid
      by_cases e : A[k] ∈ met
      · rw [if_pos e, if_pos e]
        simp only [Option.isSome_some, Bool.not_true, cond_false, Option.getD_some]
        rw [lim_dec (by omega), cond_true, wr_succ (by omega), name_loop n left A hA m (k + 1) met _ (by omega) (by omega) (by omega) (by simp [hp]), List.append_assoc, List.singleton_append]
      · have hs : aset (nmz 0 met) A[k] ((nmz 0 met).length : Int) = nmz 0 (met ++ [A[k]]) := by
          rw [nmz_set _ _ _ _ e, nmz_snoc, nmz_len, Nat.zero_add]
        rw [if_neg e, if_neg e, hs, nmz_look, if_pos (by simp)]
        simp only [Option.isSome_none, Bool.not_false, cond_true, Option.getD_some]
        rw [lim_dec (by omega), cond_true, wr_succ (by omega), name_loop n left A hA m (k + 1) _ _ (by omega) (by omega) (by simp; omega) (by simp [hp]), List.append_assoc, List.singleton_append]
        have := fnd_new (x := A[k]) (a := met) [] 0 e
        rw [this]
        simp
    · rw [dlt_f hlt, cond_false, List.drop_of_length_le (by omega)]
      simp [tid]
theorem up_rng2 {sz : Int} {ps : List Int} (hj : Job sz ps) {i : Int} (hi : 0 ≤ i ∧ i < ps.length) {L : List Int} (hr : ∀ x ∈ L, 0 ≤ x ∧ x < sz) : ∀ x ∈ up sz L (ffp (pc ps i) L) (pc ps i), 0 ≤ x ∧ x < sz := by
  have hp := hj.ok _ (pc_mem hi.1 hi.2)
  exact up_rng hr (by have := hj.lo; omega) (ffp_le _ _) hp.1 (ffp_rm hp.2)
theorem fill_loop2 (n : Nat × Nat) (hn : 1000 ≤ n.1) {sz : Int} {ps o : List Int} (hj : Job sz ps) (ho : ∀ i ∈ o, 0 ≤ i ∧ i < ps.length) (hol : o.length ≤ 8) : ∀ (m k : Nat) (A L : List Int), k ≤ o.length → o.length - k < m → A.length = ps.length → L.length ≤ k → (∀ x ∈ L, 0 ≤ x ∧ x < sz) →
    DL51_1 n m sz ps o (o.length : Int) (k : Int) A L = some (tid [] (ffo sz ps (o.drop k) (A, L)).1, (ffo sz ps (o.drop k) (A, L)).2)
  | 0, k, A, L, _, h, _, _, _ => by omega
  | m + 1, k, A, L, hk, h, hA, hL, hr => by
    have h8 := hj.len
    rw [DL51_1_succ]
    unfold DF51_1
    by_cases hlt : k < o.length
    · have hi := ho _ (List.getElem_mem hlt)
      have hul := up_len (sz := sz) (pc ps o[k]) (ffp_le (pc ps o[k]) L)
      have hfl := ffp_le (pc ps o[k]) L
      rw [dlt_t hlt, cond_true, idx_nat hlt, Option.bind_some]
      have := fill_in n (DL51_1 n m) hj hi o (o.length : Int) (k : Int) hA (by omega) hr n.1 0 (by omega) (by omega)
      refine Eq.trans this ?_
      rw [wr_succ (by omega), fill_loop2 n hn hj ho hol m (k + 1) _ _ (by omega) (by omega) (by simp [hA]) (by omega) (up_rng2 hj hi hr), drop_cons hlt]
      rfl
    · rw [dlt_f hlt, cond_false, List.drop_of_length_le (by omega)]
      have := name_loop n L A (by omega) n.1 0 [] [] (by omega) (by omega) (by simp) rfl
      exact this
def zer (k : Nat) : List Int := List.replicate k 0
theorem filled_eq {n : Nat × Nat} (hn : 1000 ≤ n.1) {sz : Int} {ps o : List Int} (hj : Job sz ps) (ho : ∀ i ∈ o, 0 ≤ i ∧ i < ps.length) (hol : o.length ≤ 8) : D51 n sz ps o = some (tid [] (ffo sz ps o (zer ps.length, [])).1, (ffo sz ps o (zer ps.length, [])).2) := by
  have h8 := hj.len
  unfold D51
  rw [decide_eq_true (show (0 : Int) ≤ (ps.length : Int) by omega), decide_eq_true (show (ps.length : Int) ≤ (ps.length : Int) by omega), decide_eq_true (show (ps.length : Int) ≤ lim by unfold lim; omega), Int.toNat_natCast]
  exact fill_loop2 n hn hj ho hol n.1 0 _ _ (by omega) (by omega) (by simp) (by simp) (by simp)
/-! The program's. -/
theorem fnd_ffp (p : Int) : ∀ (L : List Int) (k : Nat), fnd (fun x => decide (p ≤ x)) k L = if ffp p L < L.length then ((k + ffp p L : Nat) : Int) else -1
  | [], k => rfl
  | x :: L, k => by
    have ih := fnd_ffp p L (k + 1)
    unfold fnd ffp
    by_cases e : p ≤ x
    · simp [e]
    · simp only [e, decide_false, Bool.false_eq_true, if_false, List.length_cons, ih]
      by_cases e2 : ffp p L < L.length
      · rw [if_pos e2, if_pos (by omega)]; omega
      · rw [if_neg e2, if_neg (by omega)]
theorem idxr_loop (n : Nat × Nat) {ps : List Int} {i : Int} (hi : 0 ≤ i ∧ i < ps.length) (l : List Int) (hs : l.length < 1000) : ∀ (m k : Nat), k ≤ l.length → l.length - k < m → DL79c80_1 n m l ps i (l.length : Int) (k : Int) = some (fnd (fun x => decide (pc ps i ≤ x)) k (l.drop k))
  | 0, k, _, h => by omega
  | m + 1, k, hk, h => by
    rw [DL79c80_1_succ]
    unfold DF79c80_1
    by_cases hlt : k < l.length
    · have ih := idxr_loop n hi l hs m (k + 1) (by omega) (by omega)
      have hd : D80 n l[k] ps i = some (decide (pc ps i ≤ l[k])) := by
        unfold D80
        rw [idx_pc hi.1 hi.2, Option.bind_some]
      rw [dlt_t hlt, cond_true, idx_nat hlt, Option.bind_some, hd, Option.bind_some, wr_succ (by omega), ih, drop_cons hlt]
      generalize l.drop (k + 1) = t at *
      generalize l[k] = x at *
      unfold fnd
      by_cases e : pc ps i ≤ x
      · simp [e]
      · simp only [e, decide_false, cond_false, Bool.false_eq_true, if_false]
        cases t <;> rfl
    · rw [dlt_f hlt, cond_false, List.drop_of_length_le (by omega)]
      rfl
theorem idxr_eq {n : Nat × Nat} (hn : 1000 ≤ n.1) {ps : List Int} {i : Int} (hi : 0 ≤ i ∧ i < ps.length) (l : List Int) (hs : l.length < 900) : D79c80 n l ps i = some (if ffp (pc ps i) l < l.length then ((ffp (pc ps i) l : Nat) : Int) else -1) := by
  unfold D79c80
  have := idxr_loop n hi l (by omega) n.1 0 (by omega) (by omega)
  rw [show ((0 : Nat) : Int) = 0 from rfl, List.drop_zero, fnd_ffp] at this
  rw [this]
  simp
theorem fit_loop (n : Nat × Nat) (hn : 1000 ≤ n.1) {sz : Int} {ps o : List Int} (hj : Job sz ps) (ho : ∀ i ∈ o, 0 ≤ i ∧ i < ps.length) (hol : o.length ≤ 8) (hd : o.Nodup) : ∀ (m k : Nat) (A L : List Int), k ≤ o.length → o.length - k < m → A.length = ps.length → (∀ i ∈ o.drop k, A.getD i.toNat 0 = -1) → L.length ≤ k → (∀ x ∈ L, 0 ≤ x ∧ x < sz) →
    DL32_1 n m sz o (o.length : Int) (k : Int) ps A L = some (tid [] (ffo sz ps (o.drop k) (A, L)).1, 0)
  | 0, k, A, L, _, h, _, _, _, _ => by omega
  | m + 1, k, A, L, hk, h, hA, hAn, hL, hr => by
    have h8 := hj.len
    have hlo := hj.lo
    have hhi := hj.hi
    rw [DL32_1_succ]
    unfold DF32_1
    by_cases hlt : k < o.length
    · have hi := ho _ (List.getElem_mem hlt)
      have hp := hj.ok _ (pc_mem hi.1 hi.2)
      have hul := up_len (sz := sz) (pc ps o[k]) (ffp_le (pc ps o[k]) L)
      have hfl := ffp_le (pc ps o[k]) L
      have hrr := rm_rng hr (by omega : 0 ≤ sz) (ffp (pc ps o[k]) L)
      have hfr := ffp_rm (L := L) hp.2
      have hix := idx_pc hi.1 hi.2
      have hin : inB o[k] A.length = true := by rw [show o[k] = (o[k].toNat : Int) by omega]; exact inB_nat (by omega)
      have hgA : idx A o[k] = some (-1) := by
        have := hAn o[k] (by rw [drop_cons hlt]; exact List.mem_cons_self)
        rw [idx_int (k := o[k].toNat) (by omega) (by omega), ← this, List.getD_eq_getElem?_getD, List.getElem?_eq_getElem (by omega), Option.getD_some]
      have hnd : o[k] ∉ o.drop (k + 1) := by
        have := hd.sublist (List.drop_sublist k o)
        rw [drop_cons hlt, List.nodup_cons] at this
        exact this.1
      have ih := fit_loop n hn hj ho hol hd m (k + 1) (A.set o[k].toNat (ffp (pc ps o[k]) L)) (up sz L (ffp (pc ps o[k]) L) (pc ps o[k])) (by omega) (by omega) (by simp [hA]) (fun i hii => by
        have hi2 := ho i (List.mem_of_mem_drop hii)
        have hne : o[k].toNat ≠ i.toNat := fun e => by
          have : i = o[k] := by omega
          rw [this] at hii
          exact hnd hii
        rw [List.getD_eq_getElem?_getD, List.getElem?_set, if_neg hne, ← List.getD_eq_getElem?_getD]
        exact hAn i (by rw [drop_cons hlt]; exact List.mem_cons_of_mem _ hii)) (by omega) (up_rng2 hj hi hr)
      rw [dlt_t hlt, cond_true, idx_nat hlt, Option.bind_some, decide_eq_false (show ¬ o[k] < 0 by omega), decide_eq_false (show ¬ o[k] ≥ (ps.length : Int) by omega)]
      simp only [beq_self_eq_true, cond_true, Option.bind_some, cond_false]
      rw [hin, cond_true, hgA, Option.bind_some, decide_eq_false (by omega), cond_false, idxr_eq hn hi L (by omega), Option.bind_some, drop_cons hlt]
      have hfin : ffo sz ps (o[k] :: o.drop (k + 1)) (A, L) = ffo sz ps (o.drop (k + 1)) (A.set o[k].toNat (ffp (pc ps o[k]) L), up sz L (ffp (pc ps o[k]) L) (pc ps o[k])) := rfl
      rw [hfin]
      have hup : ∀ q : List Int, q = (if ffp (pc ps o[k]) L = L.length then L ++ [sz] else L) → q.set (ffp (pc ps o[k]) L) (rm sz L (ffp (pc ps o[k]) L) - pc ps o[k]) = up sz L (ffp (pc ps o[k]) L) (pc ps o[k]) := fun q hq => by rw [hq]; rfl
      generalize hs : ffp (pc ps o[k]) L = s at *
      by_cases e2 : s < L.length
      · have hroom : rm sz L s = L[s] := rm_get e2
        rw [if_pos e2, decide_eq_false (show ¬ (s : Int) < 0 by omega), cond_false, inB_nat e2, cond_true, idx_nat e2, Option.bind_some, hix, Option.bind_some, cond_true, Option.bind_some, Option.bind_some, ← hroom, wr_ok (x := rm sz L s - pc ps o[k]) (by omega) (by omega), Int.toNat_natCast, hup L (by rw [if_neg (by omega)]), wr_succ (by omega)]
        exact ih
      · have e3 : s = L.length := by omega
        have hroom : rm sz L s = sz := by unfold rm; rw [List.getD_eq_getElem?_getD, List.getElem?_eq_none (by omega), Option.getD_none]
        have hsl : L.length < (L ++ [sz]).length := by simp
        have hg : (L ++ [sz])[L.length] = sz := by simp
        have hu := hup (L ++ [sz]) (by rw [if_pos e3])
        rw [hroom, e3] at hu
        rw [e3] at ih
        rw [if_neg e2, decide_eq_true (show (-1 : Int) < 0 by omega), cond_true, lim_dec (by omega), cond_true, inB_nat hsl, cond_true, idx_nat hsl, Option.bind_some, hix, Option.bind_some, cond_true, Option.bind_some, Option.bind_some, hg, wr_ok (x := sz - pc ps o[k]) (by omega) (by omega), Int.toNat_natCast, hu, wr_succ (by omega), e3]
        exact ih
    · have hAl := ffo_len sz ps [] (A, L)
      rw [dlt_f hlt, cond_false, List.drop_of_length_le (by omega), tid_eq hn A (by omega), Option.bind_some]
      rfl
/-- A whole order. -/
def Ord (ps o : List Int) : Prop := o.Perm ((List.range ps.length).map fun i : Nat => (i : Int))
theorem Ord.nd {ps o : List Int} (h : Ord ps o) : o.Nodup := by
  refine h.nodup_iff.2 ?_
  rw [List.Nodup, List.pairwise_map]
  exact (List.pairwise_lt_range).imp (fun h => by omega)
theorem Ord.rng {ps o : List Int} (h : Ord ps o) : ∀ i ∈ o, 0 ≤ i ∧ i < ps.length := fun i hi => by
  obtain ⟨k, hk, rfl⟩ := List.mem_map.1 (h.mem_iff.1 hi)
  have := List.mem_range.1 hk
  omega
theorem Ord.len {ps o : List Int} (h : Ord ps o) : o.length = ps.length := by
  rw [h.length_eq]; simp
theorem Ord.mem {ps o : List Int} (h : Ord ps o) : ∀ j : Nat, j < ps.length → (j : Int) ∈ o := fun j hj =>
  h.mem_iff.2 (List.mem_map.2 ⟨j, List.mem_range.2 hj, rfl⟩)
def ffA (sz : Int) (ps o : List Int) : List Int × List Int := ffo sz ps o (zer ps.length, [])
theorem Fit_eq {sz : Int} {ps o : List Int} (hj : Job sz ps) (h : Ord ps o) : D32 N sz ps o = some (tid [] (ffA sz ps o).1, 0) := by
  have h8 := hj.len
  have hl := h.len
  unfold D32
  rw [Check_eq hN1, Option.bind_some, chk_job.2 hj, bne_self_eq_false, cond_false, show ((o.length : Int) != (ps.length : Int)) = false by simp [hl], cond_false, rep_eq _ hj.len, Option.bind_some]
  have := fit_loop N hN1 hj h.rng (by omega) h.nd N.1 0 (List.replicate ps.length (-1)) [] (by omega) (by have : N.1 = 1000000 := rfl; omega) (by simp) (fun i hi => by
    have := h.rng i hi
    rw [List.getD_eq_getElem?_getD, List.getElem?_replicate, if_pos (by omega), Option.getD_some]) (by simp) (by simp)
  rw [show ((0 : Nat) : Int) = 0 from rfl, List.drop_zero] at this
  rw [this]
  unfold ffA zer
  rw [ffo_same sz ps o (List.replicate ps.length (-1)) (List.replicate ps.length 0) [] (by simp) (fun j hj2 => ?_) (fun i hi => (h.rng i hi).1)]
  have : ¬ j < ps.length := fun hh => hj2 (h.mem j hh)
  rw [List.getElem?_eq_none (by simp; omega), List.getElem?_eq_none (by simp; omega)]
theorem Filled_eq {sz : Int} {ps o : List Int} (hj : Job sz ps) (h : Ord ps o) : D51 N sz ps o = some (tid [] (ffA sz ps o).1, (ffA sz ps o).2) :=
  filled_eq hN1 hj h.rng (by have := h.len; have := hj.len; omega)
end Go.Proofs.YtgmonagekfjnmaaDoor
set_option linter.unusedVariables false
set_option linter.unusedSimpArgs false
set_option maxRecDepth 100000
namespace Go.Proofs.YtgmonagekfjnmaaDoor
open Go.Vi
/-D 55 -/
/-D 10 -/
end Go.Proofs.YtgmonagekfjnmaaDoor
set_option linter.unusedVariables false
set_option linter.unusedSimpArgs false
namespace Go.Proofs.YtgmonagekfjnmaaDoor
open Go.Vi
/-! Sums over sheets. -/
def sumr (f : Nat → Int) : Nat → Int
  | 0 => 0
  | m + 1 => sumr f m + f m
theorem sumr_add (f g : Nat → Int) : ∀ m, sumr (fun s => f s + g s) m = sumr f m + sumr g m
  | 0 => rfl
  | m + 1 => by simp only [sumr]; rw [sumr_add f g m]; omega
theorem sumr_le {f g : Nat → Int} : ∀ m, (∀ s < m, f s ≤ g s) → sumr f m ≤ sumr g m
  | 0, _ => Int.le_refl _
  | m + 1, h => by
    have h1 := sumr_le m (fun s hs => h s (by omega))
    have h2 := h m (by omega)
    simp only [sumr]
    omega
theorem sumr_zero : ∀ m, sumr (fun _ => 0) m = 0
  | 0 => rfl
  | m + 1 => by simp only [sumr]; rw [sumr_zero m]; rfl
theorem sumr_one (x c : Int) : ∀ m : Nat, 0 ≤ x → sumr (fun s => if x = (s : Int) then c else 0) m = if x < m then c else 0
  | 0, h => by rw [if_neg (by omega)]; rfl
  | m + 1, h => by
    simp only [sumr]
    rw [sumr_one x c m h]
    by_cases h1 : x < m
    · rw [if_pos h1, if_neg (by omega), if_pos (by omega)]; omega
    · rw [if_neg h1]
      by_cases h2 : x = m
      · rw [if_pos h2, if_pos (by omega)]; omega
      · rw [if_neg h2, if_neg (by omega)]; omega
theorem sumr_const (c : Int) : ∀ m : Nat, sumr (fun _ => c) m = c * m
  | 0 => by simp [sumr]
  | m + 1 => by
    simp only [sumr]
    rw [sumr_const c m, Int.natCast_add, Int.mul_add]
    omega
theorem sumr_congr {f g : Nat → Int} : ∀ m, (∀ s < m, f s = g s) → sumr f m = sumr g m
  | 0, _ => rfl
  | m + 1, h => by simp only [sumr]; rw [sumr_congr m (fun s hs => h s (by omega)), h m (by omega)]
/-- The pieces of a sheet. -/
def sel : List Int → List Int → Int → List Int
  | p :: ps, x :: l, s => if x = s then p :: sel ps l s else sel ps l s
  | _, _, _ => []
def tot : List Int → Int
  | [] => 0
  | p :: r => p + tot r
/-- What is added up of pieces. -/
structure Add (f : List Int → Int) : Prop where
  nil : f [] = 0
  cons : ∀ p r, f (p :: r) = f [p] + f r
theorem tot_add : Add tot := ⟨rfl, fun p r => by simp [tot]⟩
theorem bal_add (sz k : Int) : Add (bal sz k) := ⟨rfl, fun p r => by simp [bal]⟩
theorem blf_add (sz k : Int) : Add (blf sz k) := ⟨rfl, fun p r => by simp [blf]⟩
theorem bsm_add (sz k : Int) : Add (bsm sz k) := ⟨rfl, fun p r => by simp [bsm]⟩
theorem sum_sel {f : List Int → Int} (hf : Add f) (m : Nat) : ∀ (ps l : List Int), ps.length = l.length → (∀ x ∈ l, 0 ≤ x ∧ x < m) → sumr (fun s => f (sel ps l (s : Int))) m = f ps
  | [], [], _, _ => by
    simp only [sel, hf.nil]
    exact sumr_zero m
  | p :: ps, x :: l, h, hx => by
    have h0 := hx x (by simp)
    have ih := sum_sel hf m ps l (by simpa using h) (fun y hy => hx y (by simp [hy]))
    have e : ∀ s : Nat, f (sel (p :: ps) (x :: l) (s : Int)) = (if x = (s : Int) then f [p] else 0) + f (sel ps l (s : Int)) := fun s => by
      simp only [sel]
      split
      · rw [hf.cons]
      · omega
    rw [sumr_congr m (fun s _ => e s), sumr_add, ih, sumr_one _ _ _ h0.1, if_pos h0.2, hf.cons p ps]
  | [], _ :: _, h, _ => by simp at h
  | _ :: _, [], h, _ => by simp at h
theorem tot_sel (s : Int) : ∀ (ps l : List Int), tot (sel ps l s) = usd ps l s
  | p :: ps, x :: l => by
    simp only [sel, usd]
    split
    · simp only [tot]; rw [tot_sel s ps l]
    · rw [tot_sel s ps l]; omega
  | [], [] => rfl
  | [], _ :: _ => rfl
  | _ :: _, [] => rfl
theorem sel_mem (s : Int) : ∀ (ps l : List Int), ∀ p ∈ sel ps l s, p ∈ ps
  | p :: ps, x :: l, q, h => by
    simp only [sel] at h
    split at h
    · rcases List.mem_cons.1 h with rfl | h
      · simp
      · exact List.mem_cons_of_mem _ (sel_mem s ps l q h)
    · exact List.mem_cons_of_mem _ (sel_mem s ps l q h)
  | [], [], _, h => by cases h
  | [], _ :: _, _, h => by cases h
  | _ :: _, [], _, h => by cases h
/-! One sheet. -/
def bhA (sz k : Int) : List Int → Int
  | [] => 0
  | p :: r => (if sz - k < p ∨ sz < 2 * p then p else 0) + bhA sz k r
theorem one_sheet {sz k : Int} (hk : 0 ≤ k) (hk2 : 2 * k ≤ sz) : ∀ (l : List Int), (∀ p ∈ l, 1 ≤ p ∧ p ≤ sz) →
    0 ≤ bal sz k l ∧ 0 ≤ bsm sz k l ∧ 0 ≤ blf sz k l ∧ 0 ≤ bhA sz k l ∧ bhA sz k l + bsm sz k l ≤ tot l ∧ (bal sz k l = 0 → bhA sz k l = 0 ∧ blf sz k l = 0) ∧ (1 ≤ bal sz k l → sz + 1 ≤ 2 * bhA sz k l) ∧ (2 ≤ bal sz k l → sz + 1 ≤ bhA sz k l) ∧ (bsm sz k l = 0 ∨ k ≤ bsm sz k l) ∧ (bal sz k l = 1 → blf sz k l = sz - bhA sz k l ∨ (blf sz k l = 0 ∧ sz - k + 1 ≤ bhA sz k l))
  | [], _ => by simp [bal, bsm, blf, bhA, tot]
  | p :: r, h => by
    have hp := h p (by simp)
    obtain ⟨h1, h2, h3, h4, h5, h6, h7, h8, h9, h10⟩ := one_sheet hk hk2 r (fun q hq => h q (by simp [hq]))
    simp only [bal, bsm, blf, bhA, tot]
    generalize bal sz k r = A at *
    generalize bsm sz k r = S at *
    generalize blf sz k r = F at *
    generalize bhA sz k r = H at *
    generalize tot r = T at *
    by_cases e1 : sz - k < p
    · rw [if_pos (.inl e1), if_pos (.inl e1), if_pos e1, if_pos (.inl e1)]
      refine ⟨by omega, by omega, by omega, by omega, by omega, by omega, by omega, by omega, by omega, by omega⟩
    · by_cases e2 : sz < 2 * p
      · rw [if_pos (.inr e2), if_pos (.inr e2), if_neg e1, if_pos e2, if_pos (.inr e2)]
        refine ⟨by omega, by omega, by omega, by omega, by omega, by omega, by omega, by omega, by omega, by omega⟩
      · have e3 : ¬ (sz - k < p ∨ sz < 2 * p) := by omega
        rw [if_neg e3, if_neg e3, if_neg e1, if_neg e2, if_neg e3]
        by_cases e4 : k ≤ p
        · rw [if_pos e4]
          refine ⟨by omega, by omega, by omega, by omega, by omega, by omega, by omega, by omega, by omega, by omega⟩
        · rw [if_neg e4]
          refine ⟨by omega, by omega, by omega, by omega, by omega, by omega, by omega, by omega, by omega, by omega⟩
theorem sheet_bnd {sz k : Int} (hk : 0 ≤ k) (hk2 : 2 * k ≤ sz) {l : List Int} (h : ∀ p ∈ l, 1 ≤ p ∧ p ≤ sz) (ht : tot l ≤ sz) : bsm sz k l + sz * bal sz k l ≤ sz + blf sz k l ∧ bal sz k l ≤ 1 := by
  obtain ⟨h1, h2, h3, h4, h5, h6, h7, h8, h9, h10⟩ := one_sheet hk hk2 l h
  have hb : bal sz k l = 0 ∨ bal sz k l = 1 := by
    rcases Int.lt_or_le 1 (bal sz k l) with h | h
    · have := h8 h; omega
    · omega
  rcases hb with e | e
  · rw [e]
    simp only [Int.mul_zero]
    omega
  · have := h10 e
    rw [e]
    simp only [Int.mul_one]
    omega
/-! The law's bound. -/
theorem tot_rng : ∀ {l : List Int}, (∀ p ∈ l, 0 ≤ p ∧ p ≤ 24) → 0 ≤ tot l ∧ tot l ≤ 24 * l.length
  | [], _ => by simp [tot]
  | p :: l, h => by
    have h1 := h p (by simp)
    have h2 := tot_rng (l := l) (fun q hq => h q (by simp [hq]))
    simp only [tot, List.length_cons]
    omega
theorem tot_perm {l l' : List Int} (h : l.Perm l') : tot l = tot l' := by
  induction h with
  | nil => rfl
  | cons x _ ih => simp only [tot]; rw [ih]
  | swap x y l => simp only [tot]; omega
  | trans _ _ ih1 ih2 => exact ih1.trans ih2
theorem tot_app : ∀ a b : List Int, tot (a ++ b) = tot a + tot b
  | [], b => by simp [tot]
  | x :: a, b => by
    simp only [List.cons_append, tot]
    rw [tot_app a b]
    omega
def gA (A : List Int) (i : Int) : Int := A.getD i.toNat 0
/-- What is used of a sheet by some pieces. -/
def udn (ps o A : List Int) (s : Int) : Int := tot (o.map fun i => if gA A i = s then pc ps i else 0)
theorem usd_udn (s : Int) : ∀ (ps A : List Int), A.length = ps.length → usd ps A s = tot ((List.range ps.length).map fun i : Nat => if A.getD i 0 = s then ps.getD i 0 else 0)
  | [], [], _ => rfl
  | p :: ps, x :: A, h => by
    rw [List.length_cons, List.range_succ_eq_map, List.map_cons, List.map_map]
    simp only [usd, tot]
    rw [usd_udn s ps A (by simpa using h)]
    rfl
  | [], _ :: _, h => by simp at h
  | _ :: _, [], h => by simp at h
theorem usd_ord {ps o A : List Int} (h : Ord ps o) (hA : A.length = ps.length) (s : Int) : usd ps A s = udn ps o A s := by
  unfold udn
  rw [tot_perm (List.Perm.map _ h), usd_udn s ps A hA, List.map_map]
  rfl
theorem rm_end {sz : Int} (L : List Int) : rm sz L L.length = sz := by
  unfold rm
  rw [List.getD_eq_getElem?_getD, List.getElem?_eq_none (by omega), Option.getD_none]
structure FI (sz : Int) (ps dn A L : List Int) : Prop where
  len : A.length = ps.length
  rng : ∀ i ∈ dn, 0 ≤ gA A i ∧ gA A i < L.length
  all : ∀ s : Nat, s < L.length → ∃ i ∈ dn, gA A i = s
  left : ∀ (s : Nat) (h : s < L.length), L[s] = sz - udn ps dn A s
  lr : ∀ x ∈ L, 0 ≤ x ∧ x < sz
  two : ∀ (s t : Nat) (hs : s < L.length) (ht : t < L.length), s ≠ t → L[s] + L[t] < sz
theorem FI.none {sz : Int} {ps dn A L : List Int} (h : FI sz ps dn A L) {s : Nat} (hs : L.length ≤ s) : udn ps dn A s = 0 := by
  unfold udn
  have : ∀ i ∈ dn, (if gA A i = (s : Int) then pc ps i else 0) = 0 := fun i hi => by
    have := h.rng i hi
    rw [if_neg (by omega)]
  rw [List.map_congr_left this]
  clear this h
  induction dn with
  | nil => rfl
  | cons x r ih => simp only [List.map_cons, tot]; rw [ih]; rfl
theorem FI.rm {sz : Int} {ps dn A L : List Int} (h : FI sz ps dn A L) {s : Nat} (hs : s ≤ L.length) : rm sz L s = sz - udn ps dn A s := by
  by_cases e : s < L.length
  · rw [rm_get e]; exact h.left s e
  · have : s = L.length := by omega
    rw [h.none (by omega), this, rm_end]
    omega
theorem FI.step {sz : Int} {ps dn A L : List Int} (hj : Job sz ps) (h : FI sz ps dn A L) {i : Int} (hi : 0 ≤ i ∧ i < ps.length) (hdr : ∀ j ∈ dn, 0 ≤ j ∧ j < ps.length) (hn : i ∉ dn) :
    FI sz ps (dn ++ [i]) (fst1 sz ps (A, L) i).1 (fst1 sz ps (A, L) i).2 := by
  have hp := hj.ok _ (pc_mem hi.1 hi.2)
  have hfl := ffp_le (pc ps i) L
  have hul := up_len (sz := sz) (pc ps i) hfl
  have hlen := h.len
  have hrm := h.rm hfl
  have hroom := ffp_rm (L := L) hp.2
  have hbel : ∀ (s : Nat) (hs : s < L.length), s < ffp (pc ps i) L → L[s] < pc ps i := fun s hs hh => ffp_below hs hh
  simp only [fst1]
  generalize hS : ffp (pc ps i) L = S at *
  have g1 : ∀ j ∈ dn, gA (A.set i.toNat (S : Int)) j = gA A j := fun j hj2 => by
    have h1 := hdr j hj2
    have : i.toNat ≠ j.toNat := fun e => by
      have : j = i := by omega
      rw [this] at hj2; exact hn hj2
    unfold gA
    rw [List.getD_eq_getElem?_getD, List.getElem?_set, if_neg this, ← List.getD_eq_getElem?_getD]
  have g2 : gA (A.set i.toNat (S : Int)) i = S := by
    unfold gA
    rw [List.getD_eq_getElem?_getD, List.getElem?_set, if_pos rfl, if_pos (by omega), Option.getD_some]
  have hud : ∀ s : Int, udn ps (dn ++ [i]) (A.set i.toNat (S : Int)) s = udn ps dn A s + if (S : Int) = s then pc ps i else 0 := fun s => by
    unfold udn
    rw [List.map_append, tot_app, List.map_cons, List.map_nil, g2]
    simp only [tot]
    rw [List.map_congr_left (fun j hj2 => by rw [g1 j hj2])]
    omega
  have hget : ∀ (s : Nat) (hs : s < (up sz L S (pc ps i)).length), (up sz L S (pc ps i))[s] = if S = s then Proofs.YtgmonagekfjnmaaDoor.rm sz L S - pc ps i else Proofs.YtgmonagekfjnmaaDoor.rm sz L s := fun s hs => up_get _ hs
  refine ⟨by simp [hlen], fun j hj2 => ?_, fun s hs => ?_, fun s hs => ?_, ?_, fun s t hs ht hne => ?_⟩
  · rcases List.mem_append.1 hj2 with h1 | h1
    · rw [g1 j h1]
      have := h.rng j h1
      omega
    · rw [List.mem_singleton.1 h1, g2]
      omega
  · by_cases e : s = S
    · exact ⟨i, by simp, by rw [g2, e]⟩
    · obtain ⟨j, hj2, e2⟩ := h.all s (by omega)
      exact ⟨j, by simp [hj2], by rw [g1 j hj2]; exact e2⟩
  · rw [hget s hs, hud]
    by_cases e : S = s
    · rw [if_pos e, if_pos (by omega), hrm, ← e]
      omega
    · rw [if_neg e, if_neg (by omega), h.rm (by omega)]
      omega
  · refine up_rng h.lr (by have := hj.lo; omega) (by omega) hp.1 hroom
  · rw [hget s hs, hget t ht]
    have key : ∀ (u : Nat), u ≠ S → u < (up sz L S (pc ps i)).length → Proofs.YtgmonagekfjnmaaDoor.rm sz L S - pc ps i + Proofs.YtgmonagekfjnmaaDoor.rm sz L u < sz := fun u hu hul2 => by
      have hul3 : u < L.length := by omega
      rw [rm_get hul3]
      by_cases e : S < L.length
      · rw [rm_get e]
        have := h.two S u e hul3 (fun e => hu e.symm)
        omega
      · have e2 : S = L.length := by omega
        have := hbel u hul3 (by omega)
        rw [e2, rm_end]
        omega
    by_cases e1 : S = s
    · rw [if_pos e1]
      rw [if_neg (by omega)]
      exact key t (by omega) ht
    · rw [if_neg e1]
      by_cases e2 : S = t
      · rw [if_pos e2]
        have := key s (by omega) hs
        omega
      · rw [if_neg e2]
        have h1 : s < L.length := by omega
        have h2 : t < L.length := by omega
        rw [rm_get h1, rm_get h2]
        exact h.two s t h1 h2 hne
theorem FI.fold {sz : Int} {ps : List Int} (hj : Job sz ps) : ∀ (o dn : List Int) (t : List Int × List Int), FI sz ps dn t.1 t.2 → (dn ++ o).Nodup → (∀ j ∈ dn ++ o, 0 ≤ j ∧ j < ps.length) → FI sz ps (dn ++ o) (ffo sz ps o t).1 (ffo sz ps o t).2
  | [], dn, t, h, _, _ => by rw [List.append_nil]; exact h
  | i :: o, dn, t, h, hn, hr => by
    have h1 := FI.step hj h (hr i (by simp)) (fun j hj2 => hr j (by simp [hj2])) (fun hm => by
      have := (List.nodup_append.1 hn).2.2 i hm i (by simp)
      exact this rfl)
    have := FI.fold hj o (dn ++ [i]) (fst1 sz ps t i) h1 (by simpa using hn) (by simpa using hr)
    rw [List.append_assoc, List.singleton_append] at this
    exact this
theorem ffA_FI {sz : Int} {ps o : List Int} (hj : Job sz ps) (h : Ord ps o) : FI sz ps o (ffA sz ps o).1 (ffA sz ps o).2 := by
  have := FI.fold hj o [] (zer ps.length, []) ⟨by simp [zer], by simp, by simp, by simp, by simp, by simp⟩ (by simpa using h.nd) (by simpa using h.rng)
  unfold ffA
  simpa using this
/-! The plan that is read off. -/
theorem usd_map {f : Int → Int} {x : Int} : ∀ {ps l : List Int}, (∀ y ∈ l, f y = f x → y = x) → usd ps (l.map f) (f x) = usd ps l x
  | [], [], _ => rfl
  | [], _ :: _, _ => rfl
  | _ :: _, [], _ => rfl
  | p :: ps, y :: l, h => by
    simp only [List.map_cons, usd]
    rw [usd_map (fun z hz => h z (by simp [hz]))]
    by_cases e : y = x
    · rw [if_pos e, if_pos (by rw [e])]
    · rw [if_neg e, if_neg (fun hh => e (h y (by simp) hh))]
theorem ps0_inj : ∀ {l : List Int} {x y : Int}, x ∈ l → y ∈ l → ps0 x l = ps0 y l → x = y := by
  intro l x y hx hy h
  have key : ∀ (l : List Int) (k : Nat) (x : Int), x ∈ l → ∃ i : Nat, fnd (fun y => x == y) k l = ((k + i : Nat) : Int) ∧ l[i]? = some x := by
    intro l
    induction l with
    | nil => intro k x hx; cases hx
    | cons z r ih =>
      intro k x hx
      unfold fnd
      by_cases e : x = z
      · exact ⟨0, by simp [e], by simp [e]⟩
      · obtain ⟨i, h1, h2⟩ := ih (k + 1) x ((List.mem_cons.1 hx).resolve_left e)
        refine ⟨i + 1, ?_, by simpa using h2⟩
        rw [if_neg (by simpa using e), h1]
        omega
  obtain ⟨i, h1, h2⟩ := key l 0 x hx
  obtain ⟨j, h3, h4⟩ := key l 0 y hy
  unfold ps0 at h
  rw [h1, h3] at h
  have : i = j := by omega
  subst this
  rw [h2] at h4
  exact Option.some.inj h4
theorem tid_usd {ps l : List Int} {x : Int} (hx : x ∈ l) : usd ps (tid [] l) (ps0 x (dd [] l)) = usd ps l x := by
  rw [tid_map]
  have hm : ∀ y ∈ l, y ∈ dd [] l := fun y hy => (dd_mem y l []).2 (.inr hy)
  exact usd_map (f := fun x => ps0 x (dd [] l)) (fun y hy e => ps0_inj (hm y hy) (hm x hx) e)
theorem tid_oer : ∀ (l met : List Int), oer met.length (tid met l) = 0
  | [], met => rfl
  | x :: l, met => by
    unfold tid
    split
    · rename_i h
      have hl := fnd_lt h
      unfold ps0 at hl
      unfold oer
      rw [if_neg (by omega), if_neg (by omega), Int.max_eq_left (by omega)]
      exact tid_oer l met
    · have ih := tid_oer l (met ++ [x])
      unfold oer
      rw [if_neg (by omega), if_neg (by omega), Int.max_eq_right (by omega)]
      rw [List.length_append, List.length_singleton] at ih
      exact ih
theorem dd_nodup : ∀ (l met : List Int), met.Nodup → (dd met l).Nodup
  | [], met, h => h
  | x :: l, met, h => by
    unfold dd
    split
    · exact dd_nodup l met h
    · rename_i hx
      refine dd_nodup l _ ?_
      rw [List.nodup_append]
      refine ⟨h, by simp, fun a ha b hb e => ?_⟩
      rw [List.mem_singleton.1 hb] at e
      rw [e] at ha
      exact hx ha
theorem tid_full (l : List Int) : mny (tid [] l) = (dd [] l).length := by
  have := tid_mny l l.length (Nat.le_refl _)
  rw [List.take_length, ← tid_len l [], List.take_length] at this
  exact this
theorem dd_range {l : List Int} {m : Nat} (h1 : ∀ x ∈ l, 0 ≤ x ∧ x < m) (h2 : ∀ s : Nat, s < m → (s : Int) ∈ l) : (dd [] l).length = m := by
  have hp : (dd [] l).Perm ((List.range m).map fun i : Nat => (i : Int)) := by
    refine (List.perm_ext_iff_of_nodup (dd_nodup l [] (by simp)) ?_).2 (fun x => ?_)
    · rw [List.Nodup, List.pairwise_map]
      exact (List.pairwise_lt_range).imp (fun h => by omega)
    · rw [dd_mem]
      constructor
      · rintro (h | h)
        · cases h
        · have := h1 x h
          exact List.mem_map.2 ⟨x.toNat, List.mem_range.2 (by omega), by omega⟩
      · intro h
        obtain ⟨k, hk, rfl⟩ := List.mem_map.1 h
        exact .inr (h2 k (List.mem_range.1 hk))
  rw [hp.length_eq]
  simp
theorem FI.mem {sz : Int} {ps o A L : List Int} (h : FI sz ps o A L) (ho : Ord ps o) : (∀ x ∈ A, 0 ≤ x ∧ x < L.length) ∧ ∀ s : Nat, s < L.length → (s : Int) ∈ A := by
  have hl := h.len
  constructor
  · intro x hx
    obtain ⟨i, hi, e⟩ := List.getElem_of_mem hx
    have := h.rng i (ho.mem i (by omega))
    unfold gA at this
    rw [Int.toNat_natCast, List.getD_eq_getElem?_getD, List.getElem?_eq_getElem hi, Option.getD_some, e] at this
    exact this
  · intro s hs
    obtain ⟨i, hi, e⟩ := h.all s hs
    have hr := ho.rng i hi
    unfold gA at e
    rw [List.getD_eq_getElem?_getD, List.getElem?_eq_getElem (by omega), Option.getD_some] at e
    rw [← e]
    exact List.getElem_mem _
/-- First fit makes a plan with as many sheets. -/
theorem ffA_pln {sz : Int} {ps o : List Int} (hj : Job sz ps) (ho : Ord ps o) : Pln sz ps (tid [] (ffA sz ps o).1) ∧ mny (tid [] (ffA sz ps o).1) = ((ffA sz ps o).2.length : Int) := by
  have h := ffA_FI hj ho
  obtain ⟨m1, m2⟩ := h.mem ho
  have hl := h.len
  refine ⟨⟨hj, by rw [tid_len]; exact hl, tid_oer _ [], fun x hx => ?_⟩, by rw [tid_full, dd_range m1 m2]⟩
  rw [tid_map] at hx
  obtain ⟨y, hy, rfl⟩ := List.mem_map.1 hx
  rw [tid_usd hy, usd_ord ho hl]
  have hr := m1 y hy
  have := h.left y.toNat (by omega)
  have h2 := h.lr _ (List.getElem_mem (show y.toNat < (ffA sz ps o).2.length by omega))
  rw [show ((y.toNat : Nat) : Int) = y by omega] at this
  omega

/-- What first fit keeps: a piece did not fit before its sheet; sheets before a great piece have great ones. -/
structure FJ (sz : Int) (ps dn A L : List Int) : Prop where
  fi : FI sz ps dn A L
  no : ∀ i ∈ dn, ∀ (s : Nat) (h : s < L.length), (s : Int) < gA A i → L[s] < pc ps i
  big : ∀ i ∈ dn, sz < 2 * pc ps i → ∀ s : Nat, (s : Int) ≤ gA A i → ∃ j ∈ dn, gA A j = s ∧ sz < 2 * pc ps j
theorem FJ.step {sz : Int} {ps dn A L : List Int} (hj : Job sz ps) (h : FJ sz ps dn A L) {i : Int} (hi : 0 ≤ i ∧ i < ps.length) (hdr : ∀ j ∈ dn, 0 ≤ j ∧ j < ps.length) (hn : i ∉ dn) (hf : ∀ j ∈ dn, pc ps i ≤ pc ps j) :
    FJ sz ps (dn ++ [i]) (fst1 sz ps (A, L) i).1 (fst1 sz ps (A, L) i).2 := by
  have hfi := h.fi.step hj hi hdr hn
  have hp := hj.ok _ (pc_mem hi.1 hi.2)
  have hfl := ffp_le (pc ps i) L
  have hul := up_len (sz := sz) (pc ps i) hfl
  have hlen := h.fi.len
  have hbel : ∀ (s : Nat) (hs : s < L.length), s < ffp (pc ps i) L → L[s] < pc ps i := fun s hs hh => ffp_below hs hh
  obtain ⟨S, hS⟩ : ∃ S, ffp (pc ps i) L = S := ⟨_, rfl⟩
  have key : fst1 sz ps (A, L) i = (A.set i.toNat (S : Int), up sz L S (pc ps i)) := by rw [← hS]; rfl
  rw [key] at hfi ⊢
  rw [hS] at hfl hul hbel
  refine ⟨hfi, ?_, ?_⟩
  · intro j hj2 s hs hlt
    have g1 : ∀ j ∈ dn, gA (A.set i.toNat (S : Int)) j = gA A j := fun j hj2 => by
      have h1 := hdr j hj2
      have : i.toNat ≠ j.toNat := fun e => by
        have : j = i := by omega
        rw [this] at hj2; exact hn hj2
      unfold gA
      rw [List.getD_eq_getElem?_getD, List.getElem?_set, if_neg this, ← List.getD_eq_getElem?_getD]
    have g2 : gA (A.set i.toNat (S : Int)) i = S := by
      unfold gA
      rw [List.getD_eq_getElem?_getD, List.getElem?_set, if_pos rfl, if_pos (by omega), Option.getD_some]
    have hs : s < (up sz L S (pc ps i)).length := hs
    show (up sz L S (pc ps i))[s] < pc ps j
    rw [up_get _ hs]
    rcases List.mem_append.1 hj2 with h1 | h1
    · rw [g1 j h1] at hlt
      have hr := h.fi.rng j h1
      have hsl : s < L.length := by omega
      have := h.no j h1 s hsl hlt
      by_cases e : S = s
      · rw [if_pos e, e, rm_get hsl]; omega
      · rw [if_neg e, rm_get hsl]; exact this
    · rw [List.mem_singleton.1 h1] at hlt ⊢
      rw [g2] at hlt
      rw [if_neg (by omega), rm_get (by omega)]
      exact hbel s (by omega) (by omega)
  · intro j hj2 hb s hle
    have g1 : ∀ j ∈ dn, gA (A.set i.toNat (S : Int)) j = gA A j := fun j hj2 => by
      have h1 := hdr j hj2
      have : i.toNat ≠ j.toNat := fun e => by
        have : j = i := by omega
        rw [this] at hj2; exact hn hj2
      unfold gA
      rw [List.getD_eq_getElem?_getD, List.getElem?_set, if_neg this, ← List.getD_eq_getElem?_getD]
    have g2 : gA (A.set i.toNat (S : Int)) i = S := by
      unfold gA
      rw [List.getD_eq_getElem?_getD, List.getElem?_set, if_pos rfl, if_pos (by omega), Option.getD_some]
    rcases List.mem_append.1 hj2 with h1 | h1
    · rw [g1 j h1] at hle
      obtain ⟨k, hk, h2, h3⟩ := h.big j h1 hb s hle
      exact ⟨k, by simp [hk], by rw [g1 k hk]; exact h2, h3⟩
    · rw [List.mem_singleton.1 h1] at hle hb
      rw [g2] at hle
      by_cases e : s = S
      · exact ⟨i, by simp, by rw [g2, e], hb⟩
      · obtain ⟨k, hk, h2⟩ := h.fi.all s (by omega)
        have := hf k hk
        exact ⟨k, by simp [hk], by rw [g1 k hk]; exact h2, by omega⟩
theorem FJ.fold {sz : Int} {ps : List Int} (hj : Job sz ps) : ∀ (o dn : List Int) (t : List Int × List Int), FJ sz ps dn t.1 t.2 → (dn ++ o).Nodup → (∀ j ∈ dn ++ o, 0 ≤ j ∧ j < ps.length) → (dn ++ o).Pairwise (fun i j => pc ps j ≤ pc ps i) → FJ sz ps (dn ++ o) (ffo sz ps o t).1 (ffo sz ps o t).2
  | [], dn, t, h, _, _, _ => by rw [List.append_nil]; exact h
  | i :: o, dn, t, h, hn, hr, hp => by
    have h1 := FJ.step hj h (hr i (by simp)) (fun j hj2 => hr j (by simp [hj2])) (fun hm => by
      have := (List.nodup_append.1 hn).2.2 i hm i (by simp)
      exact this rfl) (fun j hj2 => (List.pairwise_append.1 hp).2.2 j hj2 i (by simp))
    have := FJ.fold hj o (dn ++ [i]) (fst1 sz ps t i) h1 (by simpa using hn) (by simpa using hr) (by simpa using hp)
    rw [List.append_assoc, List.singleton_append] at this
    exact this
theorem ffA_FJ {sz : Int} {ps o : List Int} (hj : Job sz ps) (h : Ord ps o) (hp : o.Pairwise (fun i j => pc ps j ≤ pc ps i)) : FJ sz ps o (ffA sz ps o).1 (ffA sz ps o).2 := by
  have := FJ.fold hj o [] (zer ps.length, []) ⟨⟨by simp [zer], by simp, by simp, by simp, by simp, by simp⟩, by simp, by simp⟩ (by simpa using h.nd) (by simpa using h.rng) (by simpa using hp)
  unfold ffA
  simpa using this

/-! The pieces of the sheets from some one on. -/
def selx (F : Nat) : List Int → List Int → List Int
  | p :: ps, x :: l => if F ≤ x then p :: selx F ps l else selx F ps l
  | _, _ => []
theorem sum_selx {f : List Int → Int} (hf : Add f) (m F : Nat) : ∀ (ps l : List Int), ps.length = l.length → (∀ x ∈ l, 0 ≤ x ∧ x < m) → sumr (fun s => if F ≤ s then f (sel ps l (s : Int)) else 0) m = f (selx F ps l)
  | [], [], _, _ => by
    simp only [sel, selx, hf.nil]
    rw [sumr_congr m (g := fun _ => 0) (fun s _ => by split <;> rfl)]
    exact sumr_zero m
  | p :: ps, x :: l, h, hx => by
    have h0 := hx x (by simp)
    have ih := sum_selx hf m F ps l (by simpa using h) (fun y hy => hx y (by simp [hy]))
    have e : ∀ s : Nat, (if F ≤ s then f (sel (p :: ps) (x :: l) (s : Int)) else 0) = (if x = (s : Int) then (if F ≤ x then f [p] else 0) else 0) + if F ≤ s then f (sel ps l (s : Int)) else 0 := fun s => by
      simp only [sel]
      by_cases e1 : F ≤ s
      · rw [if_pos e1, if_pos e1]
        by_cases e2 : x = (s : Int)
        · rw [if_pos e2, if_pos e2, if_pos (by omega), hf.cons]
        · rw [if_neg e2, if_neg e2]; omega
      · rw [if_neg e1, if_neg e1]
        by_cases e2 : x = (s : Int)
        · rw [if_pos e2, if_neg (by omega)]; rfl
        · rw [if_neg e2]; rfl
    rw [sumr_congr m (fun s _ => e s), sumr_add, ih, sumr_one _ _ _ h0.1, if_pos h0.2]
    have hsx : selx F (p :: ps) (x :: l) = if F ≤ x then p :: selx F ps l else selx F ps l := rfl
    rw [hsx]
    by_cases e1 : F ≤ x
    · rw [if_pos e1, if_pos e1, hf.cons p (selx F ps l)]
    · rw [if_neg e1, if_neg e1, Int.zero_add]
  | [], _ :: _, h, _ => by simp at h
  | _ :: _, [], h, _ => by simp at h
theorem sumr_low (g : Nat → Int) (F : Nat) : ∀ m, F ≤ m → sumr (fun s => if F ≤ s then 0 else g s) m = sumr g F
  | 0, h => by
    have : F = 0 := by omega
    subst this; rfl
  | m + 1, h => by
    simp only [sumr]
    by_cases e : F ≤ m
    · rw [sumr_low g F m e, if_pos e]; omega
    · have : F = m + 1 := by omega
      subst this
      rw [if_neg e]
      simp only [sumr]
      rw [sumr_congr m (g := g) (fun s hs => by rw [if_neg (by omega)])]
def lenI (l : List Int) : Int := l.length
theorem len_add : Add lenI := ⟨rfl, fun p r => by simp [lenI]; omega⟩
/-- A piece on a sheet, or from some sheet on. -/
theorem sel_at {s : Int} {p : Int} : ∀ {ps l : List Int} {j : Nat}, ps[j]? = some p → l[j]? = some s → p ∈ sel ps l s
  | q :: ps, x :: l, 0, h1, h2 => by
    simp only [List.getElem?_cons_zero, Option.some.injEq] at h1 h2
    simp [sel, h1, h2]
  | q :: ps, x :: l, j + 1, h1, h2 => by
    simp only [List.getElem?_cons_succ] at h1 h2
    have := sel_at h1 h2
    simp only [sel]
    split
    · exact List.mem_cons_of_mem _ this
    · exact this
  | [], _, j, h1, _ => by simp at h1
  | _ :: _, [], j, _, h2 => by simp at h2
theorem sel_ex {s : Int} : ∀ {ps l : List Int} {p : Int}, p ∈ sel ps l s → ∃ j : Nat, ps[j]? = some p ∧ l[j]? = some s
  | q :: ps, x :: l, p, h => by
    simp only [sel] at h
    split at h
    · rename_i e
      rcases List.mem_cons.1 h with h | h
      · exact ⟨0, by simp [h], by simp [e]⟩
      · obtain ⟨j, h1, h2⟩ := sel_ex h
        exact ⟨j + 1, by simpa using h1, by simpa using h2⟩
    · obtain ⟨j, h1, h2⟩ := sel_ex h
      exact ⟨j + 1, by simpa using h1, by simpa using h2⟩
  | [], [], _, h => by cases h
  | [], _ :: _, _, h => by cases h
  | _ :: _, [], _, h => by cases h
theorem selx_ex {F : Nat} : ∀ {ps l : List Int} {p : Int}, p ∈ selx F ps l → ∃ (j : Nat) (x : Int), ps[j]? = some p ∧ l[j]? = some x ∧ F ≤ x
  | q :: ps, x :: l, p, h => by
    simp only [selx] at h
    split at h
    · rename_i e
      rcases List.mem_cons.1 h with h | h
      · exact ⟨0, x, by simp [h], by simp, e⟩
      · obtain ⟨j, y, h1, h2, h3⟩ := selx_ex h
        exact ⟨j + 1, y, by simpa using h1, by simpa using h2, h3⟩
    · obtain ⟨j, y, h1, h2, h3⟩ := selx_ex h
      exact ⟨j + 1, y, by simpa using h1, by simpa using h2, h3⟩
  | [], [], _, h => by cases h
  | [], _ :: _, _, h => by cases h
  | _ :: _, [], _, h => by cases h
theorem bal_one {sz p : Int} : ∀ {l : List Int}, p ∈ l → sz < 2 * p → 1 ≤ bal sz 0 l
  | q :: l, h, hb => by
    have hnn : ∀ l : List Int, 0 ≤ bal sz 0 l := fun l => by
      induction l with
      | nil => exact Int.le_refl 0
      | cons x r ih => simp only [bal]; split <;> omega
    have h1 := hnn l
    simp only [bal]
    rcases List.mem_cons.1 h with e | h
    · rw [if_pos (by subst e; omega)]; omega
    · have := bal_one h hb
      split <;> omega
theorem half_two {sz : Int} : ∀ {l : List Int}, (∀ p ∈ l, 2 * p ≤ sz) → sz < 2 * tot l → 0 ≤ sz → 2 ≤ l.length
  | [], _, h, h0 => by simp [tot] at h; omega
  | [p], h, h2, _ => by
    have := h p (by simp)
    simp [tot] at h2
    omega
  | _ :: _ :: _, _, _, _ => by simp
theorem tot_many {g : Nat → Int} : ∀ (F : Nat) (xs : List Int), (∀ x ∈ xs, 0 ≤ x ∧ ∀ s < F, g s < x) → F ≤ xs.length → sumr g F + F ≤ tot xs
  | 0, xs, h, _ => by
    have : ∀ xs : List Int, (∀ x ∈ xs, 0 ≤ x) → 0 ≤ tot xs := fun xs => by
      induction xs with
      | nil => intro _; exact Int.le_refl 0
      | cons x r ih =>
        intro h
        have h1 := h x (by simp)
        have h2 := ih (fun y hy => h y (by simp [hy]))
        simp only [tot]; omega
    simp only [sumr]
    have := this xs (fun x hx => (h x hx).1)
    omega
  | F + 1, [], _, h => by simp at h
  | F + 1, x :: xs, h, hl => by
    have h1 := (h x (by simp)).2 F (by omega)
    have h2 := tot_many (g := g) F xs (fun y hy => ⟨(h y (by simp [hy])).1, fun s hs => (h y (by simp [hy])).2 s (by omega)⟩) (by simpa using hl)
    simp only [sumr, tot]
    omega
theorem sumr_two (F : Nat) : ∀ m, F ≤ m → sumr (fun s => if F ≤ s then 2 else 0) m = 2 * ((m : Int) - F)
  | 0, h => by
    have : F = 0 := by omega
    subst this; rfl
  | m + 1, h => by
    simp only [sumr]
    by_cases e : F ≤ m
    · rw [sumr_two F m e, if_pos e]; omega
    · rw [if_neg e, sumr_congr m (g := fun _ => 0) (fun s hs => by rw [if_neg (by omega)]), sumr_zero]; omega
theorem sumr_ones (F : Nat) : ∀ m, F ≤ m → sumr (fun s => if s < F then 1 else 0) m = F
  | 0, h => by
    have : F = 0 := by omega
    subst this; rfl
  | m + 1, h => by
    simp only [sumr]
    by_cases e : F ≤ m
    · rw [sumr_ones F m e, if_neg (by omega)]; omega
    · rw [if_pos (by omega), sumr_congr m (g := fun _ => 1) (fun s hs => by rw [if_pos (by omega)]), sumr_const]; omega
theorem pln_tot {sz : Int} {ps q : List Int} (h : Pln sz ps q) : tot ps ≤ sz * mny q ∧ bal sz 0 ps ≤ mny q := by
  have h0 := mny_nn q
  have hlo := h.job.lo
  have hr : ∀ x ∈ q, 0 ≤ x ∧ x < ((mny q).toNat : Nat) := fun x hx => by
    have h1 := h.rng x hx
    have h2 := mny_lt hx
    omega
  have hu : ∀ s : Nat, tot (sel ps q (s : Int)) ≤ sz := fun s => by
    rw [tot_sel]
    by_cases hx : (s : Int) ∈ q
    · exact h.fit _ hx
    · rw [usd_none hx]; omega
  constructor
  · have := sumr_le (f := fun s => tot (sel ps q (s : Int))) (g := fun _ => sz) (mny q).toNat (fun s _ => hu s)
    rw [sum_sel tot_add _ ps q h.len.symm hr, sumr_const, show (((mny q).toNat : Nat) : Int) = mny q by omega] at this
    exact this
  · have := sumr_le (f := fun s => bal sz 0 (sel ps q (s : Int))) (g := fun _ => 1) (mny q).toNat (fun s _ => (sheet_bnd (by omega) (by omega) (fun p hp => h.job.ok p (sel_mem _ _ _ p hp)) (hu s)).2)
    rw [sum_sel (bal_add sz 0) _ ps q h.len.symm hr, sumr_const, show (((mny q).toNat : Nat) : Int) = mny q by omega] at this
    omega
/-- The falling order: at most three sheets for two of any plan. -/
theorem ffd {sz : Int} {ps o q : List Int} (hj : Job sz ps) (ho : Ord ps o) (hp : o.Pairwise (fun i j => pc ps j ≤ pc ps i)) (hq : Pln sz ps q) : 2 * ((ffA sz ps o).2.length : Int) ≤ 3 * mny q := by
  have h := ffA_FJ hj ho hp
  obtain ⟨m1, m2⟩ := h.fi.mem ho
  have hl := h.fi.len
  have h0 := mny_nn q
  have hlo := hj.lo
  obtain ⟨t1, t2⟩ := pln_tot hq
  generalize hA : (ffA sz ps o).1 = A at *
  generalize hL : (ffA sz ps o).2 = L at *
  obtain ⟨F, hF⟩ : ∃ F : Nat, mny q = F := ⟨(mny q).toNat, by omega⟩
  rw [hF] at t1 t2 ⊢
  by_cases hmF : L.length ≤ F
  · omega
  -- places and pieces
  have at1 : ∀ (j : Nat) (p x : Int), ps[j]? = some p → A[j]? = some x → (j : Int) ∈ o ∧ pc ps (j : Int) = p ∧ gA A (j : Int) = x := fun j p x hp hx => by
    have hjl : j < ps.length := by
      rcases Nat.lt_or_ge j ps.length with h | h
      · exact h
      · rw [List.getElem?_eq_none h] at hp; cases hp
    refine ⟨ho.mem j hjl, ?_, ?_⟩
    · unfold pc; rw [Int.toNat_natCast, List.getD_eq_getElem?_getD, hp, Option.getD_some]
    · unfold gA; rw [Int.toNat_natCast, List.getD_eq_getElem?_getD, hx, Option.getD_some]
  have at2 : ∀ i ∈ o, ps[i.toNat]? = some (pc ps i) ∧ A[i.toNat]? = some (gA A i) := fun i hi => by
    have hr := ho.rng i hi
    refine ⟨?_, ?_⟩
    · unfold pc; rw [List.getElem?_eq_getElem (by omega), List.getD_eq_getElem?_getD, List.getElem?_eq_getElem (by omega), Option.getD_some]
    · unfold gA; rw [List.getElem?_eq_getElem (by omega), List.getD_eq_getElem?_getD, List.getElem?_eq_getElem (by omega), Option.getD_some]
  -- no great piece from sheet F on
  have small : ∀ i ∈ o, F ≤ gA A i → 2 * pc ps i ≤ sz := fun i hi hge => by
    rcases Int.lt_or_le sz (2 * pc ps i) with hb | hb
    · exfalso
      have hall : ∀ s : Nat, s < F + 1 → 1 ≤ bal sz 0 (sel ps A (s : Int)) := fun s hs => by
        obtain ⟨j, hj2, e1, e2⟩ := h.big i hi hb s (by omega)
        obtain ⟨a1, a2⟩ := at2 j hj2
        rw [e1] at a2
        exact bal_one (sel_at a1 a2) e2
      have hnn : ∀ l : List Int, 0 ≤ bal sz 0 l := fun l => by
        induction l with
        | nil => exact Int.le_refl 0
        | cons x r ih => simp only [bal]; split <;> omega
      have := sumr_le (f := fun s => if s < F + 1 then 1 else 0) (g := fun s => bal sz 0 (sel ps A (s : Int))) L.length (fun s _ => by
        split
        · rename_i e; exact hall s e
        · exact hnn _)
      rw [sumr_ones (F + 1) _ (by omega), sum_sel (bal_add sz 0) _ ps A hl.symm m1] at this
      omega
    · exact hb
  -- few pieces from sheet F on
  have hx : ∀ x ∈ selx F ps A, 0 ≤ x ∧ ∀ s < F, rm sz L s < x := fun x hx => by
    obtain ⟨j, y, h1, h2, h3⟩ := selx_ex hx
    obtain ⟨b1, b2, b3⟩ := at1 j x y h1 h2
    have hr := ho.rng _ b1
    have hpj := hj.ok _ (pc_mem hr.1 hr.2)
    rw [b2] at hpj
    refine ⟨by omega, fun s hs => ?_⟩
    rw [rm_get (by omega), ← b2]
    exact h.no _ b1 s (by omega) (by omega)
  have hsplit : tot ps = sumr (fun s => sz - rm sz L s) F + tot (selx F ps A) := by
    rw [← sum_selx tot_add L.length F ps A hl.symm m1, ← sum_sel tot_add L.length ps A hl.symm m1, ← sumr_low _ F L.length (by omega), ← sumr_add]
    refine sumr_congr _ (fun s hs => ?_)
    by_cases e : F ≤ s
    · rw [if_pos e, if_pos e]; omega
    · rw [if_neg e, if_neg e, tot_sel, usd_ord ho hl, rm_get hs, h.fi.left s hs]; omega
  have hfew : (selx F ps A).length < F := by
    rcases Nat.lt_or_ge (selx F ps A).length F with hh | hh
    · exact hh
    · exfalso
      have hm := tot_many (g := rm sz L) F (selx F ps A) hx hh
      have hsum : sumr (fun s => sz - rm sz L s) F + sumr (rm sz L) F = sz * F := by
        rw [← sumr_add, ← sumr_const]
        exact sumr_congr _ (fun s _ => by omega)
      -- F is not 0: there is a piece
      have hF0 : 0 < F := by
        rcases Nat.eq_zero_or_pos F with e | e
        · obtain ⟨i, hi, _⟩ := h.fi.all 0 (by omega)
          have hr := ho.rng i hi
          have hqm : (q[i.toNat]'(by have := hq.len; omega)) < mny q := mny_lt (List.getElem_mem _)
          have hq0 := hq.rng _ (List.getElem_mem (show i.toNat < q.length by have := hq.len; omega))
          omega
        · exact e
      omega
  -- but two on each sheet
  have hlen : 2 * ((L.length : Int) - 1 - F) + 1 ≤ ((selx F ps A).length : Int) := by
    have hs := sum_selx len_add L.length F ps A hl.symm m1
    obtain ⟨k, hk⟩ : ∃ k, L.length = k + 1 := ⟨L.length - 1, by omega⟩
    rw [hk] at hs
    simp only [sumr] at hs
    rw [if_pos (by omega)] at hs
    obtain ⟨y, hy, hyk⟩ := h.fi.all k (by omega)
    have hys := small y hy (by omega)
    obtain ⟨a1, a2⟩ := at2 y hy
    rw [hyk] at a2
    have hlast : 1 ≤ lenI (sel ps A (k : Int)) := by
      have := List.length_pos_of_mem (sel_at a1 a2)
      unfold lenI
      omega
    have htwo := sumr_le (f := fun s => if F ≤ s then 2 else 0) (g := fun s => if F ≤ s then lenI (sel ps A (s : Int)) else 0) k (fun s hs2 => by
      by_cases e : F ≤ s
      · rw [if_pos e, if_pos e]
        have hno := h.no y hy s (by omega) (by omega)
        have hu := h.fi.left s (by omega)
        rw [← usd_ord ho hl, ← tot_sel] at hu
        have := half_two (sz := sz) (l := sel ps A (s : Int)) (fun p hp => by
          obtain ⟨j, h1, h2⟩ := sel_ex hp
          obtain ⟨b1, b2, b3⟩ := at1 j p s h1 h2
          have := small _ b1 (by omega)
          omega) (by omega) (by omega)
        unfold lenI
        omega
      · rw [if_neg e, if_neg e]; omega)
    rw [sumr_two F k (by omega)] at htwo
    unfold lenI at hs htwo hlast
    omega
  omega
/-- Two places exchanged. -/
def swp (l : List Int) (i k : Nat) : List Int := (l.set i (l.getD k 0)).set k (l.getD i 0)
theorem swp_len (l : List Int) (i k : Nat) : (swp l i k).length = l.length := by simp [swp]
theorem getD_at {l : List Int} {i : Nat} (h : i < l.length) : l.getD i 0 = l[i] := by rw [List.getD_eq_getElem?_getD, List.getElem?_eq_getElem h, Option.getD_some]
theorem swp_get {l : List Int} {i k j : Nat} (hi : i < l.length) (hk : k < l.length) : (swp l i k).getD j 0 = if j = k then l.getD i 0 else if j = i then l.getD k 0 else l.getD j 0 := by
  unfold swp
  rw [List.getD_eq_getElem?_getD, List.getElem?_set, List.getElem?_set]
  by_cases e : j = k
  · rw [if_pos e.symm, if_pos (by simp; exact e ▸ hk), if_pos e]; rfl
  · rw [if_neg (fun h => e h.symm), if_neg e]
    by_cases e2 : j = i
    · rw [if_pos e2.symm, if_pos (e2 ▸ hi), if_pos e2]; rfl
    · rw [if_neg (fun h => e2 h.symm), if_neg e2, ← List.getD_eq_getElem?_getD]
theorem ext_getD {a b : List Int} (hl : a.length = b.length) (h : ∀ j, j < a.length → a.getD j 0 = b.getD j 0) : a = b := by
  apply List.ext_getElem hl
  intro j h1 h2
  have := h j h1
  rwa [getD_at h1, getD_at h2] at this
theorem swp_swp {l : List Int} {i k : Nat} (hi : i < l.length) (hk : k < l.length) : swp (swp l i k) i k = l := by
  refine ext_getD (by rw [swp_len, swp_len]) (fun j hj => ?_)
  rw [swp_get (by rw [swp_len]; exact hi) (by rw [swp_len]; exact hk), swp_get hi hk, swp_get hi hk, swp_get hi hk]
  by_cases e1 : j = k
  · rw [if_pos e1]
    by_cases e2 : i = k
    · rw [if_pos e2, e1, e2]
    · rw [if_neg e2, if_pos rfl, e1]
  · rw [if_neg e1]
    by_cases e2 : j = i
    · rw [if_pos e2, if_pos rfl, e2]
    · rw [if_neg e2, if_neg e1, if_neg e2]
theorem getD_map {f : Int → Int} {l : List Int} {j : Nat} (h : j < l.length) : (l.map f).getD j 0 = f (l.getD j 0) := by
  rw [getD_at (by simpa using h), getD_at h, List.getElem_map]
theorem swp_map (f : Int → Int) {l : List Int} {i k : Nat} (hi : i < l.length) (hk : k < l.length) : swp (l.map f) i k = (swp l i k).map f := by
  refine ext_getD (by simp [swp_len]) (fun j hj => ?_)
  rw [swp_len, List.length_map] at hj
  rw [swp_get (l := l.map f) (by simpa using hi) (by simpa using hk), getD_map (l := swp l i k) (by rw [swp_len]; exact hj), swp_get (l := l) hi hk, getD_map hi, getD_map hk, getD_map hj]
  split
  · rfl
  · split <;> rfl
theorem swp_perm {l : List Int} {i k : Nat} (hi : i < l.length) (hk : k < l.length) : (swp l i k).Perm l := by
  rw [List.perm_iff_count]
  intro b
  unfold swp
  rw [getD_at hi, getD_at hk, List.count_set (by simpa using hk), List.count_set hi]
  have hc : ∀ j (hj : j < l.length), l[j] == b → 1 ≤ l.count b := fun j hj e => by
    have : l[j] = b := by simpa using e
    exact List.count_pos_iff.2 (this ▸ List.getElem_mem hj)
  by_cases e : i = k
  · subst e
    have h1 := hc i hi
    simp only [List.getElem_set_self]
    by_cases e1 : l[i] == b
    · have := h1 e1
      simp only [e1, if_true]
      omega
    · simp only [e1]
      simp
  · have h1 := hc i hi
    have hg : (l.set i l[k])[k]'(by simpa using hk) = l[k] := by rw [List.getElem_set]; rw [if_neg e]
    rw [hg]
    by_cases e1 : l[i] == b <;> by_cases e2 : l[k] == b <;> simp only [e1, e2, if_true, Bool.false_eq_true, if_false]
    · have := h1 e1; omega
    · have := h1 e1; omega
    · omega
    · omega
/-- What is used stays. -/
theorem usd_swp {ps q : List Int} (hl : q.length = ps.length) {i k : Nat} (hi : i < ps.length) (hk : k < ps.length) (s : Int) : usd (swp ps i k) (swp q i k) s = usd ps q s := by
  rw [usd_udn s _ _ (by rw [swp_len, swp_len]; exact hl), usd_udn s _ _ hl, swp_len]
  have e : (List.range ps.length).map (fun j : Nat => if (swp q i k).getD j 0 = s then (swp ps i k).getD j 0 else 0) = swp ((List.range ps.length).map fun j : Nat => if q.getD j 0 = s then ps.getD j 0 else 0) i k := by
    refine ext_getD (by simp [swp_len]) (fun j hj => ?_)
    rw [List.length_map, List.length_range] at hj
    have hg : ∀ (F : Nat → Int) (m : Nat), m < ps.length → ((List.range ps.length).map F).getD m 0 = F m := fun F m hm => by
      rw [getD_at (by simpa using hm)]; simp
    rw [hg _ j hj, swp_get (l := (List.range ps.length).map fun j : Nat => if q.getD j 0 = s then ps.getD j 0 else 0) (by simpa using hi) (by simpa using hk), hg _ i hi, hg _ k hk, hg _ j hj, swp_get (l := q) (by omega) (by omega), swp_get (l := ps) hi hk]
    by_cases e1 : j = k
    · rw [if_pos e1, if_pos e1, if_pos e1]
    · rw [if_neg e1, if_neg e1, if_neg e1]
      by_cases e2 : j = i
      · rw [if_pos e2, if_pos e2, if_pos e2]
      · rw [if_neg e2, if_neg e2, if_neg e2]
  rw [e]
  exact tot_perm (swp_perm (by simpa using hi) (by simpa using hk))
/-! Numbers anew. -/
theorem oer_onto : ∀ (l : List Int) (m : Int), oer m l = 0 → ∀ s, m ≤ s → s < l.foldl (fun a s => max a (s + 1)) m → s ∈ l
  | [], m, _, s, h1, h2 => by simp at h2; omega
  | x :: l, m, h, s, h1, h2 => by
    unfold oer at h
    split at h
    · omega
    · split at h
      · omega
      · rw [List.foldl_cons] at h2
        by_cases e : s = x
        · simp [e]
        · exact List.mem_cons_of_mem _ (oer_onto l _ h s (by omega) h2)
theorem pln_vals {sz : Int} {ps q : List Int} (h : Pln sz ps q) : (∀ x ∈ q, 0 ≤ x ∧ x < ((mny q).toNat : Nat)) ∧ ∀ s : Nat, s < (mny q).toNat → (s : Int) ∈ q := by
  have h0 := mny_nn q
  constructor
  · intro x hx
    have h1 := h.rng x hx
    have h2 := mny_lt hx
    omega
  · intro s hs
    exact oer_onto q 0 h.ord s (by omega) (by unfold mny at *; omega)
theorem fnd_map {f : Int → Int} {x : Int} : ∀ {l : List Int} (k : Nat), (∀ y ∈ l, f y = f x → y = x) → fnd (fun y => f x == y) k (l.map f) = fnd (fun y => x == y) k l
  | [], k, _ => rfl
  | y :: l, k, h => by
    simp only [List.map_cons, fnd]
    rw [fnd_map (k + 1) (fun z hz => h z (by simp [hz]))]
    by_cases e : x = y
    · rw [if_pos (by simp [e]), if_pos (by simp [e])]
    · rw [if_neg (by simpa using fun hh => e (h y (by simp) hh.symm).symm), if_neg (by simpa using e)]
theorem tid_map_inj {f : Int → Int} : ∀ (l met : List Int), (∀ x ∈ met ++ l, ∀ y ∈ met ++ l, f x = f y → x = y) → tid (met.map f) (l.map f) = tid met l
  | [], met, _ => rfl
  | x :: l, met, h => by
    rw [List.map_cons]
    unfold tid
    have hmem : f x ∈ met.map f ↔ x ∈ met := by
      constructor
      · intro hm
        obtain ⟨y, hy, e⟩ := List.mem_map.1 hm
        rw [← h y (by simp [hy]) x (by simp) e]
        exact hy
      · exact fun hm => List.mem_map.2 ⟨x, hm, rfl⟩
    by_cases e : x ∈ met
    · rw [if_pos e, if_pos (hmem.2 e), fnd_map 0 (fun y hy he => h y (by simp [hy]) x (by simp) he), tid_map_inj l met (fun a ha b hb => h a (by
        rcases List.mem_append.1 ha with ha | ha
        · simp [ha]
        · simp [ha]) b (by
        rcases List.mem_append.1 hb with hb | hb
        · simp [hb]
        · simp [hb]))]
    · rw [if_neg e, if_neg (fun hh => e (hmem.1 hh)), List.length_map]
      have := tid_map_inj l (met ++ [x]) (fun a ha b hb => h a (by simpa using ha) b (by simpa using hb))
      rw [List.map_append, List.map_singleton] at this
      rw [this]
theorem tid_self : ∀ (l : List Int) (m : Nat), oer m l = 0 → tid ((List.range m).map fun i : Nat => (i : Int)) l = l
  | [], m, _ => rfl
  | x :: l, m, h => by
    unfold oer at h
    split at h
    · omega
    · split at h
      · omega
      · rename_i h0 h1
        have hmem : x ∈ (List.range m).map (fun i : Nat => (i : Int)) ↔ x < m := by
          rw [List.mem_map]
          constructor
          · rintro ⟨i, hi, rfl⟩
            have := List.mem_range.1 hi
            omega
          · intro hh
            exact ⟨x.toNat, List.mem_range.2 (by omega), by omega⟩
        unfold tid
        by_cases e : x < m
        · rw [if_pos (hmem.2 e)]
          have hf : fnd (fun y => x == y) 0 ((List.range m).map fun i : Nat => (i : Int)) = x := by
            have hsp : (List.range m).map (fun i : Nat => (i : Int)) = ((List.range x.toNat).map fun i : Nat => (i : Int)) ++ x :: ((List.range' (x.toNat + 1) (m - x.toNat - 1)).map fun i : Nat => (i : Int)) := by
              have : List.range m = List.range x.toNat ++ x.toNat :: List.range' (x.toNat + 1) (m - x.toNat - 1) := by
                have h1 : List.range m = List.range' 0 (x.toNat + (m - x.toNat)) := by rw [List.range_eq_range', show x.toNat + (m - x.toNat) = m by omega]
                rw [h1, ← List.range'_append_1, ← List.range_eq_range', Nat.zero_add, show m - x.toNat = (m - x.toNat - 1) + 1 by omega, List.range'_succ]
                rfl
              rw [this, List.map_append, List.map_cons, show ((x.toNat : Nat) : Int) = x by omega]
            rw [hsp, fnd_new (x := x) (a := (List.range x.toNat).map fun i : Nat => (i : Int)) _ 0 (fun hm => by
              obtain ⟨i, hi, e⟩ := List.mem_map.1 hm
              have := List.mem_range.1 hi
              omega)]
            simp
            omega
          rw [hf, tid_self l m (by rwa [Int.max_eq_left (by omega)] at h)]
        · have e2 : x = m := by omega
          rw [if_neg (fun hh => e (hmem.1 hh))]
          have hr : (List.range m).map (fun i : Nat => (i : Int)) ++ [x] = (List.range (m + 1)).map fun i : Nat => (i : Int) := by
            rw [List.range_succ, List.map_append, e2]; rfl
          rw [hr, tid_self l (m + 1) (by rw [Int.max_eq_right (by omega), e2] at h; exact h), e2]
          simp
theorem tid_pln {sz : Int} {ps q : List Int} (h : Pln sz ps q) : tid [] q = q := tid_self q 0 h.ord
/-! Plans of the pieces whose places are exchanged. -/
def mvp (i k : Nat) (q : List Int) : List Int := tid [] (swp q i k)
theorem mvp_pln {sz : Int} {ps q : List Int} {i k : Nat} (hi : i < ps.length) (hk : k < ps.length) (hj : Job sz (swp ps i k)) (h : Pln sz ps q) : Pln sz (swp ps i k) (mvp i k q) ∧ mny (mvp i k q) = mny q := by
  have hl := h.len
  have hpm := swp_perm (l := q) (i := i) (k := k) (by omega) (by omega)
  obtain ⟨v1, v2⟩ := pln_vals h
  have h0 := mny_nn q
  unfold mvp
  refine ⟨⟨hj, by rw [tid_len, swp_len, swp_len]; exact hl, tid_oer _ [], fun x hx => ?_⟩, ?_⟩
  · rw [tid_map] at hx
    obtain ⟨y, hy, rfl⟩ := List.mem_map.1 hx
    rw [tid_usd hy, usd_swp hl hi hk]
    exact h.fit y (hpm.mem_iff.1 hy)
  · rw [tid_full, dd_range (m := (mny q).toNat) (fun x hx => v1 x (hpm.mem_iff.1 hx)) (fun s hs => hpm.mem_iff.2 (v2 s hs))]
    omega
theorem mvp_mvp {sz : Int} {ps q : List Int} {i k : Nat} (hi : i < ps.length) (hk : k < ps.length) (h : Pln sz ps q) : mvp i k (mvp i k q) = q := by
  have hl := h.len
  have hpm := swp_perm (l := q) (i := i) (k := k) (by omega) (by omega)
  unfold mvp
  rw [tid_map (swp q i k) [], swp_map _ (by rw [swp_len]; omega) (by rw [swp_len]; omega), swp_swp (by omega) (by omega)]
  have := tid_map_inj (f := fun x => ps0 x (dd [] (swp q i k))) q [] (fun x hx y hy e => by
    have hm : ∀ y ∈ q, y ∈ dd [] (swp q i k) := fun y hy => (dd_mem y _ []).2 (.inr (hpm.mem_iff.2 hy))
    exact ps0_inj (hm x (by simpa using hx)) (hm y (by simpa using hy)) e)
  rw [List.map_nil] at this
  rw [this, tid_pln h]
theorem pl_nodup {sz : Int} {mo : Nat} : ∀ (r b L : List Int), (pl sz mo r b L).Nodup
  | [], b, L => by simp [pl]
  | p :: r, b, L => by
    unfold pl
    have : ∀ (l : List Nat), l.Nodup → (l.flatMap fun s => if p ≤ rm sz L s then pl sz mo r (b ++ [(s : Int)]) (up sz L s p) else []).Nodup := by
      intro l
      induction l with
      | nil => intro _; simp
      | cons s l ih =>
        intro hn
        rw [List.nodup_cons] at hn
        rw [List.flatMap_cons, List.nodup_append]
        refine ⟨?_, ih hn.2, fun x hx y hy e => ?_⟩
        · split
          · exact pl_nodup r _ _
          · simp
        · subst e
          obtain ⟨s2, hs2, hy2⟩ := List.mem_flatMap.1 hy
          split at hx
          · split at hy2
            · obtain ⟨t1, _, e1⟩ := pl_pre r _ _ x hx
              obtain ⟨t2, _, e2⟩ := pl_pre r _ _ x hy2
              rw [e1, List.append_assoc, List.append_assoc] at e2
              have := List.append_cancel_left e2
              simp only [List.singleton_append] at this
              have h3 := (List.cons.inj this).1
              have : s = s2 := by omega
              rw [this] at hn
              exact hn.1 hs2
            · cases hy2
          · cases hx
    exact this _ (List.nodup_range')
theorem nodup_sub : ∀ {a b : List (List Int)}, a.Nodup → (∀ x ∈ a, x ∈ b) → a.length ≤ b.length
  | [], _, _, _ => by simp
  | x :: a, b, hn, h => by
    rw [List.nodup_cons] at hn
    have hx := h x (by simp)
    have := nodup_sub (a := a) (b := b.erase x) hn.2 (fun y hy => by
      have hne : y ≠ x := fun e => by rw [e] at hy; exact hn.1 hy
      exact (List.mem_erase_of_ne hne).2 (h y (by simp [hy])))
    rw [List.length_erase_of_mem hx] at this
    have := List.length_pos_of_mem hx
    rw [List.length_cons]
    omega
theorem swp_job {sz : Int} {ps : List Int} {i k : Nat} (hi : i < ps.length) (hk : k < ps.length) (hj : Job sz ps) : Job sz (swp ps i k) :=
  ⟨hj.lo, hj.hi, by rw [swp_len]; exact hj.len, fun p hp => hj.ok p ((swp_perm hi hk).mem_iff.1 hp)⟩
theorem swp_le {sz : Int} {ps : List Int} {i k : Nat} (hi : i < ps.length) (hk : k < ps.length) (hj : Job sz ps) (mo : Nat) : (apl sz ps mo).length ≤ (apl sz (swp ps i k) mo).length := by
  have hj2 := swp_job hi hk hj
  rw [← List.length_map (f := mvp i k)]
  refine nodup_sub ?_ (fun x hx => ?_)
  · rw [List.Nodup, List.pairwise_map]
    have hn : (apl sz ps mo).Nodup := pl_nodup ps [] []
    rw [List.Nodup, List.pairwise_iff_forall_sublist] at hn
    rw [List.pairwise_iff_forall_sublist]
    intro a b hab e
    have ha := ((apl_iff hj).1 (hab.subset (show a ∈ [a, b] by simp))).1
    have hb := ((apl_iff hj).1 (hab.subset (show b ∈ [a, b] by simp))).1
    refine hn hab ?_
    rw [← mvp_mvp hi hk ha, ← mvp_mvp hi hk hb, e]
  · obtain ⟨q, hq, rfl⟩ := List.mem_map.1 hx
    obtain ⟨h1, h2⟩ := (apl_iff hj).1 hq
    obtain ⟨h3, h4⟩ := mvp_pln hi hk hj2 h1
    exact (apl_iff hj2).2 ⟨h3, by omega⟩
theorem swp_count {sz : Int} {ps : List Int} {i k : Nat} (hi : i < ps.length) (hk : k < ps.length) (hj : Job sz ps) (mo : Nat) : (apl sz (swp ps i k) mo).length = (apl sz ps mo).length := by
  have h1 := swp_le hi hk hj mo
  have h2 := swp_le (ps := swp ps i k) (i := i) (k := k) (by rw [swp_len]; exact hi) (by rw [swp_len]; exact hk) (swp_job hi hk hj) mo
  rw [swp_swp hi hk] at h2
  omega
theorem fw_count {sz : Int} {ps ps' : List Int} (hj : Job sz ps) (hj' : Job sz ps') (h : ∀ mo, (apl sz ps' mo).length = (apl sz ps mo).length) : fw sz ps' = fw sz ps := by
  obtain ⟨a1, a2, a3⟩ := fw_spec hj
  obtain ⟨b1, b2, b3⟩ := fw_spec hj'
  rcases Nat.lt_trichotomy (fw sz ps') (fw sz ps) with e | e | e
  · have h1 := h (fw sz ps')
    rw [a3 _ e] at h1
    exact absurd (List.length_eq_zero_iff.1 h1) b1
  · exact e
  · have h1 := h (fw sz ps)
    rw [b3 _ e] at h1
    exact absurd (List.length_eq_zero_iff.1 h1.symm) a1
end Go.Proofs.YtgmonagekfjnmaaDoor
set_option linter.unusedVariables false
set_option linter.unusedSimpArgs false
set_option maxRecDepth 100000
namespace Go.Proofs.YtgmonagekfjnmaaDoor
open Go.Vi
/-D 53 -/
/-D 8 -/
end Go.Proofs.YtgmonagekfjnmaaDoor
set_option linter.unusedVariables false
set_option linter.unusedSimpArgs false
namespace Go.Proofs.YtgmonagekfjnmaaDoor
open Go.Vi
def goodC (s : Int) : Option (List Int) → Bool
  | some l => decide (l.length ≤ 20) && !l.isEmpty && l.all fun p => decide (1 ≤ p) && decide (s % p = 0) && l.all fun q => decide (p % q = 0) || decide (q % p = 0)
  | none => false
theorem chain_all : ∀ s : Fin 25, ∀ b : Fin 128, 1 ≤ s.val → goodC s.val (D89 N s.val b.val) = true := by decide +kernel
abbrev Stp := Int × Int × Int × Int × Int × Int × Int × Int × Int × Int × Int
abbrev ShS : Sh := .pair (.int .u8) (.pair (.int .u8) (.pair (.int .u8) (.pair (.int .u8) (.pair (.int .u8) (.pair (.int .u8) (.pair (.int .u8) (.pair (.int .u8) (.pair (.int .u8) (.pair (.int .u8) (.int .u8))))))))))
def By (x : Int) : Prop := 0 ≤ x ∧ x ≤ 255
structure StpOk (s : Stp) : Prop where
  size : By s.1
  many : By s.2.1
  chain : By s.2.2.1
  cuts : ∀ x ∈ [s.2.2.2.1, s.2.2.2.2.1, s.2.2.2.2.2.1, s.2.2.2.2.2.2.1, s.2.2.2.2.2.2.2.1, s.2.2.2.2.2.2.2.2.1, s.2.2.2.2.2.2.2.2.2.1, s.2.2.2.2.2.2.2.2.2.2], By x
theorem u8_rng {x : Int} (h : (Lit.int .u8 x).wf = true) : 0 ≤ x ∧ x ≤ 255 := by
  simpa [Lit.wf, IntKind.min, IntKind.max, IntKind.signed, IntKind.bits] using h
theorem by_wf {x : Int} (h : Wf (.int .u8) x) : By x := u8_rng h
theorem stp_ok {s : Stp} (h : Wf ShS s) : StpOk s := by
  obtain ⟨ha, hb, hc, h1, h2, h3, h4, h5, h6, h7, h8⟩ := h
  refine ⟨by_wf ha, by_wf hb, by_wf hc, fun x hx => ?_⟩
  simp only [List.mem_cons, List.not_mem_nil, or_false] at hx
  rcases hx with e | e | e | e | e | e | e | e <;> subst e
  · exact by_wf h1
  · exact by_wf h2
  · exact by_wf h3
  · exact by_wf h4
  · exact by_wf h5
  · exact by_wf h6
  · exact by_wf h7
  · exact by_wf h8
theorem pick_loop (n : Nat × Nat) (sz : Int) {cs lens : List Int} (hc : ∀ x ∈ cs, By x) (hl : lens ≠ []) (hll : lens.length ≤ 100) (h8 : cs.length ≤ 8) : ∀ (m k : Nat) (out : List Int), k ≤ cs.length → cs.length - k < m → out.length = k → (∀ x ∈ out, x ∈ lens) →
    ∃ ps, DL48_1 n m sz cs (cs.length : Int) (k : Int) lens out = some (sz, ps) ∧ ps.length = cs.length ∧ ∀ x ∈ ps, x ∈ lens
  | 0, k, out, _, h, _, _ => by omega
  | m + 1, k, out, hk, h, ho, hm => by
    rw [DL48_1_succ]
    unfold DF48_1
    have hpos : 0 < lens.length := List.length_pos_iff.2 hl
    by_cases hlt : k < cs.length
    · have hx := hc _ (List.getElem_mem hlt)
      unfold By at hx
      have hmod := Int.emod_nonneg cs[k] (show (lens.length : Int) ≠ 0 by omega)
      have hmod2 := Int.emod_lt_of_pos cs[k] (show (0 : Int) < lens.length by omega)
      have hi : (cs[k] % (lens.length : Int)).toNat < lens.length := by omega
      have hi2 : cs[k] % (lens.length : Int) = (((cs[k] % (lens.length : Int)).toNat : Nat) : Int) := by omega
      rw [dlt_t hlt, cond_true, idx_nat hlt, Option.bind_some, beq_false_of_ne (show (lens.length : Int) ≠ 0 by omega), cond_false, wr_ok (by omega) (by omega), tmod_mod hx.1, hi2, inB_nat hi, cond_true, idx_nat hi, Option.bind_some, lim_dec (by omega), cond_true, wr_succ (by omega)]
      exact pick_loop n sz hc hl hll h8 m (k + 1) _ (by omega) (by omega) (by simp [ho]) (fun x hx => by
        rcases List.mem_append.1 hx with hx | hx
        · exact hm x hx
        · rw [List.mem_singleton.1 hx]; exact List.getElem_mem _)
    · rw [dlt_f hlt, cond_false]
      exact ⟨out, rfl, by omega, hm⟩
theorem cuts_take {s : Stp} (h : StpOk s) {k : Nat} : ∀ x ∈ [s.2.2.2.1, s.2.2.2.2.1, s.2.2.2.2.2.1, s.2.2.2.2.2.2.1, s.2.2.2.2.2.2.2.1, s.2.2.2.2.2.2.2.2.1, s.2.2.2.2.2.2.2.2.2.1, s.2.2.2.2.2.2.2.2.2.2].take k, By x := fun x hx => h.cuts x (List.mem_of_mem_take hx)
theorem many_ok {s : Stp} (h : StpOk s) {most : Nat} (hm : most ≤ 8) : wr .i64 ((most : Int) + 1) = ((most + 1 : Nat) : Int) ∧ (((most + 1 : Nat) : Int) == 0) = false ∧ Int.tmod (wr .i64 s.2.1) ((most + 1 : Nat) : Int) = (((s.2.1 % ((most + 1 : Nat) : Int)).toNat : Nat) : Int) ∧ (s.2.1 % ((most + 1 : Nat) : Int)).toNat ≤ most := by
  have h1 := h.many
  unfold By at h1
  have hmod := Int.emod_nonneg s.2.1 (show ((most + 1 : Nat) : Int) ≠ 0 by omega)
  have hmod2 := Int.emod_lt_of_pos s.2.1 (show (0 : Int) < ((most + 1 : Nat) : Int) by omega)
  refine ⟨wr_succ (by omega), beq_false_of_ne (by omega), ?_, by omega⟩
  rw [wr_ok (by omega) (by omega), tmod_mod h1.1]
  omega
theorem fill_loop (n : Nat × Nat) (hn : 1000 ≤ n.1) {s : Stp} (h : StpOk s) {most : Nat} (hm : most ≤ 8) {sz : Int} (hs : 1 ≤ sz ∧ sz ≤ 24) : ∀ (m k : Nat) (lens : List Int), (k : Int) ≤ sz → sz - k < m → lens.length = k → (∀ x ∈ lens, 1 ≤ x ∧ x ≤ sz) →
    ∃ ps, DL48_2 n m most sz sz (k : Int) s.1 s.2.1 s.2.2.1 s.2.2.2.1 s.2.2.2.2.1 s.2.2.2.2.2.1 s.2.2.2.2.2.2.1 s.2.2.2.2.2.2.2.1 s.2.2.2.2.2.2.2.2.1 s.2.2.2.2.2.2.2.2.2.1 s.2.2.2.2.2.2.2.2.2.2 lens = some (sz, ps) ∧ ps.length ≤ most ∧ ∀ x ∈ ps, 1 ≤ x ∧ x ≤ sz
  | 0, k, lens, _, hh, _, _ => by omega
  | m + 1, k, lens, hk, hh, hl, hb => by
    rw [DL48_2_succ]
    unfold DF48_2
    by_cases hlt : (k : Int) < sz
    · rw [decide_eq_true hlt, cond_true, lim_dec (by omega), cond_true, wr_succ (by omega)]
      exact fill_loop n hn h hm hs m (k + 1) _ (by omega) (by omega) (by simp [hl]) (fun x hx => by
        rcases List.mem_append.1 hx with hx | hx
        · exact hb x hx
        · rw [List.mem_singleton.1 hx]; omega)
    · obtain ⟨e1, e2, e3, e4⟩ := many_ok h hm
      rw [decide_eq_false hlt, cond_false, e1, e2, cond_false, e3, bounds_hi (by omega), cond_true, Int.toNat_natCast]
      obtain ⟨ps, hp, hpl, hpm⟩ := pick_loop n sz (cs := [s.2.2.2.1, s.2.2.2.2.1, s.2.2.2.2.2.1, s.2.2.2.2.2.2.1, s.2.2.2.2.2.2.2.1, s.2.2.2.2.2.2.2.2.1, s.2.2.2.2.2.2.2.2.2.1, s.2.2.2.2.2.2.2.2.2.2].take (s.2.1 % ((most + 1 : Nat) : Int)).toNat) (lens := lens) (cuts_take h) (by intro e; rw [e] at hl; simp at hl; omega) (by omega) (by rw [List.length_take]; exact Nat.min_le_right _ _) n.1 0 [] (by omega) (by simp; omega) rfl (by simp)
      exact ⟨ps, hp, by rw [hpl, List.length_take]; omega, fun x hx => hb x (hpm x hx)⟩
/-- What a job by numbers is. -/
theorem made_ok {s : Stp} (h : StpOk s) {most : Nat} (hm : most ≤ 8) : ∃ sz ps, D48 N s most = some (sz, ps) ∧ Job sz ps ∧ ps.length ≤ most ∧ (s.2.2.1 % 2 = 1 → IsC sz ps) := by
  have h1 := h.size
  have h3 := h.chain
  unfold By at h1 h3
  obtain ⟨e1, e2, e3, e4⟩ := many_ok h hm
  have hsz : wr .i64 (1 + Int.tmod (wr .i64 s.1) 24) = 1 + s.1 % 24 := by
    rw [wr_ok (x := s.1) (by omega) (by omega), tmod_mod h1.1, wr_ok (by omega) (by omega)]
  have hb : wr .i64 (Int.tdiv (wr .i64 s.2.2.1) 2) = s.2.2.1 / 2 := by
    rw [wr_ok (x := s.2.2.1) (by omega) (by omega), Int.tdiv_eq_ediv_of_nonneg h3.1, wr_ok (by omega) (by omega)]
  unfold D48
  rw [show ((24 : Nat) == 0) = false from rfl, show ((2 : Nat) == 0) = false from rfl, cond_false, cond_false, hsz, tmod_mod h3.1]
  by_cases e : s.2.2.1 % 2 = 1
  · rw [show (s.2.2.1 % 2 == 1) = true by simpa using e, cond_true, cond_false, hb]
    have hg := chain_all ⟨(1 + s.1 % 24).toNat, by omega⟩ ⟨(s.2.2.1 / 2).toNat, by omega⟩ (by simp only []; omega)
    simp only [] at hg
    rw [show (((1 + s.1 % 24).toNat : Nat) : Int) = 1 + s.1 % 24 by omega, show (((s.2.2.1 / 2).toNat : Nat) : Int) = s.2.2.1 / 2 by omega] at hg
    cases hD : D89 N (1 + s.1 % 24) (s.2.2.1 / 2) with
    | none => rw [hD] at hg; cases hg
    | some lens =>
      rw [hD] at hg
      simp only [goodC, Bool.and_eq_true, decide_eq_true_eq, List.all_eq_true, Bool.or_eq_true, Bool.not_eq_true', List.isEmpty_eq_false_iff] at hg
      obtain ⟨⟨hg1, hg2⟩, hg3⟩ := hg
      rw [Option.bind_some, e1, e2, cond_false, e3, bounds_hi (by omega), cond_true, Int.toNat_natCast]
      obtain ⟨ps, hp, hpl, hpm⟩ := pick_loop N (1 + s.1 % 24) (cs := [s.2.2.2.1, s.2.2.2.2.1, s.2.2.2.2.2.1, s.2.2.2.2.2.2.1, s.2.2.2.2.2.2.2.1, s.2.2.2.2.2.2.2.2.1, s.2.2.2.2.2.2.2.2.2.1, s.2.2.2.2.2.2.2.2.2.2].take (s.2.1 % ((most + 1 : Nat) : Int)).toNat) (lens := lens) (cuts_take h) hg2 (by omega) (by rw [List.length_take]; exact Nat.min_le_right _ _) N.1 0 [] (by omega) (by have : N.1 = 1000000 := rfl; simp; omega) rfl (by simp)
      have hdiv : ∀ p ∈ lens, 1 ≤ p ∧ p ≤ 1 + s.1 % 24 ∧ (1 + s.1 % 24) % p = 0 := fun p hp => by
        have := (hg3 p hp).1
        exact ⟨this.1, Int.le_of_dvd (by omega) (Int.dvd_of_emod_eq_zero this.2), this.2⟩
      have hlen : ps.length ≤ most := by rw [hpl, List.length_take]; omega
      refine ⟨1 + s.1 % 24, ps, hp, ⟨by omega, by omega, by omega, fun p hp => ?_⟩, hlen, fun _ => ⟨fun p hp => (hdiv p (hpm p hp)).2.2, ?_⟩⟩
      · have := hdiv p (hpm p hp)
        exact ⟨this.1, this.2.1⟩
      · rw [List.pairwise_iff_forall_sublist]
        intro a b hab
        have ha := hpm a (hab.subset (by simp))
        have hb := hpm b (hab.subset (by simp))
        exact (hg3 a ha).2 b hb
  · rw [show (s.2.2.1 % 2 == 1) = false from beq_false_of_ne e, cond_false]
    obtain ⟨ps, hp, hpl, hpm⟩ := fill_loop N hN1 h hm (sz := 1 + s.1 % 24) ⟨by omega, by omega⟩ N.1 0 [] (by omega) (by have : N.1 = 1000000 := rfl; omega) rfl (by simp)
    exact ⟨1 + s.1 % 24, ps, hp, ⟨by omega, by omega, by omega, hpm⟩, hpl, fun h => absurd h e⟩
theorem bdS_in {sz k : Int} {ps : List Int} (hj : Job sz ps) (hk : 0 ≤ k ∧ k ≤ sz / 2) : bdS sz ps k = (bnd sz ps k, 0) := by unfold bdS; rw [if_neg (by simpa using chk_job.2 hj), if_neg (by omega)]
end Go.Proofs.YtgmonagekfjnmaaDoor
set_option linter.unusedVariables false
set_option linter.unusedSimpArgs false
set_option maxRecDepth 100000
namespace Go.Proofs.YtgmonagekfjnmaaDoor
open Go.Vi
abbrev R11 := Bool
noncomputable def c11 : Code := bodyOf Tryd.f11
noncomputable def an11 : Ann := (.s .l (.s .l (.s .l (.s (.s .l (.j [5, 6, 7, 86, 87, 90, 91, 94, 95, 98, 99, 100, 103, 104, 105, 142, 143, 146, 147, 148, 154, 155, 158, 159, 160, 163] (.j [3, 5, 6, 7, 33, 34, 86, 87, 90, 91, 94, 95, 98, 99, 100, 103, 104, 105, 142, 143, 146, 147, 148, 154, 155, 158, 159, 160, 163] (.s .l (.s (.j [3, 5, 6, 7, 33, 34, 86, 87, 90, 91, 94, 95, 98, 99, 100, 103, 104, 105, 142, 143, 146, 147, 148, 154, 155, 158, 159, 160, 163] .l .l) (.s (.j [3, 5, 6, 7, 33, 34, 86, 87, 90, 91, 94, 95, 98, 99, 100, 103, 104, 105, 142, 143, 146, 147, 148, 154, 155, 158, 159, 160, 163] .l .l) .l))) .l) .l)) (.s .l (.s .l (.s .l (.s .l (.s (.s .l (.j [5, 6, 7, 142, 143, 146, 147, 148, 154, 155, 158, 159, 160, 163] .l .l)) (.s .l (.s .l (.s (.s .l (.j [11, 13, 18, 19, 154, 155, 158, 159, 160, 163] (.j [5, 6, 7, 11, 13, 18, 19, 121, 122, 142, 143, 146, 147, 148, 154, 155, 158, 159, 160, 163] (.s .l (.s (.j [5, 6, 7, 11, 13, 18, 19, 121, 122, 142, 143, 146, 147, 148, 154, 155, 158, 159, 160, 163] .l .l) (.s (.j [5, 6, 7, 11, 13, 18, 19, 121, 122, 142, 143, 146, 147, 148, 154, 155, 158, 159, 160, 163] (.s .l (.s .l (.s .l (.s .l (.j [5, 6, 7, 11, 13, 18, 19, 121, 122, 142, 143, 146, 147, 148, 154, 155, 158, 159, 160, 163] .l .l))))) .l) .l))) .l) .l)) .l))))))))))))
def rk11 : List RK := [.c .bool 4]
noncomputable def rt11 (st : St) : Option R11 := rtG rk11 st
noncomputable def E11 (n : Nat × Nat) : Env := { T := tab, phi := (consPhi 17 (fun _ => true) (P17 n) (consPhi 34 (fun _ => true) (P34 n) (consPhi 38 (fun _ => true) (P38 n) (consPhi 40 (fun _ => true) (P40 n) (consPhi 42 (fun _ => true) (P42 n) (consPhi 48 (fun _ => true) (P48 n) (consPhi 56 (fun _ => true) (P56 n) noPhi))))))), eff := fun g => Nat.beq g 48, fuel := n.1, hold := n.2 }
noncomputable def kq11_1 (n : Nat × Nat) : St → Option R11 := run (E11 n) (cB (cB (cB (cB c11)))) (Ann.snd (Ann.snd (Ann.snd (Ann.snd an11)))) rt11 (fun _ _ => none) rt11
noncomputable def xb11_3 (n : Nat × Nat) : Nat → St → Option R11 := fun j s => bif Nat.beq j 0 then normC [5, 6, 7, 86, 87, 90, 91, 94, 95, 98, 99, 100, 103, 104, 105, 142, 143, 146, 147, 148, 154, 155, 158, 159, 160, 163] s (kq11_1 n) else (fun _ _ => none) j s
noncomputable def F11_4 (n : Nat × Nat) : (St → Option R11) → St → Option R11 := fun K s => run (E11 n) (cA (cA (cB (cA (cB (cB (cB c11))))))) (Ann.fst (Ann.fst (Ann.snd (Ann.fst (Ann.snd (Ann.snd (Ann.snd an11))))))) (fun s => normC [3, 5, 6, 7, 33, 34, 86, 87, 90, 91, 94, 95, 98, 99, 100, 103, 104, 105, 142, 143, 146, 147, 148, 154, 155, 158, 159, 160, 163] s K) (xb11_3 n) rt11 s
noncomputable def kq11_12 (n : Nat × Nat) : St → Option R11 := run (E11 n) (cB (cB (cB (cB (cB (cB (cB (cB (cB (cB (cB (cB c11)))))))))))) (Ann.snd (Ann.snd (Ann.snd (Ann.snd (Ann.snd (Ann.snd (Ann.snd (Ann.snd (Ann.snd (Ann.snd (Ann.snd (Ann.snd an11)))))))))))) rt11 (fun _ _ => none) rt11
noncomputable def xb11_14 (n : Nat × Nat) : Nat → St → Option R11 := fun j s => bif Nat.beq j 2 then normC [11, 13, 18, 19, 154, 155, 158, 159, 160, 163] s (kq11_12 n) else (fun _ _ => none) j s
noncomputable def F11_15 (n : Nat × Nat) : (St → Option R11) → St → Option R11 := fun K s => run (E11 n) (cA (cA (cB (cA (cB (cB (cB (cB (cB (cB (cB (cB (cB (cB (cB c11))))))))))))))) (Ann.fst (Ann.fst (Ann.snd (Ann.fst (Ann.snd (Ann.snd (Ann.snd (Ann.snd (Ann.snd (Ann.snd (Ann.snd (Ann.snd (Ann.snd (Ann.snd (Ann.snd an11))))))))))))))) (fun s => normC [5, 6, 7, 11, 13, 18, 19, 121, 122, 142, 143, 146, 147, 148, 154, 155, 158, 159, 160, 163] s K) (xb11_14 n) rt11 s
noncomputable def L11_1 (n : Nat × Nat) (m : Nat) (size5 : Int) (pieces6 : List Int) (v33 : Int) (v34 : Int) (v3_0 : Int) (v3_1 : Int) (v3_2 : Int) (v3_3 : Int) (v3_4 : Int) (v3_5 : Int) (v3_6 : Int) (v3_7 : Int) (moved7 : List Int) : Option R11 := loopN (F11_4 n) m { tm := [uu, uu, uu, .ptr 3 0, uu, .c (.int .i64 size5), .c (.sl (.int .i64) pieces6 false), .own 7 none false, uu, uu, uu, uu, uu, uu, uu, uu, uu, uu, uu, uu, uu, uu, uu, uu, uu, uu, uu, uu, uu, uu, uu, uu, uu, .c (.int .i64 v33), .c (.int .i64 v34), uu, uu, uu, uu, uu, uu, uu, uu, uu, uu, uu, uu, uu, uu, uu, uu, uu, uu, uu, uu, uu, uu, uu, uu, uu, uu, uu, uu, uu, uu, uu, uu, uu, uu, uu, uu, uu, uu, uu, uu, uu, uu, uu, uu, uu, uu, uu, uu, uu, uu, uu, uu, uu, uu, uu, uu, uu, uu, uu, uu, uu, uu, uu, uu, uu, uu, uu, uu, uu, uu, uu, uu, uu, uu, uu, uu, uu, uu, uu, uu, uu, uu, uu, uu, uu, uu, uu, uu, uu, uu, uu, uu, uu, uu, uu, uu, uu, uu, uu, uu, uu, uu, uu, uu, uu, uu, uu, uu, uu, uu, uu, uu, uu, uu, uu, uu, uu, uu, uu, uu, uu, uu, uu, uu, uu, uu, uu, uu, uu, uu], hp := (upd (upd emp 7 (.arr (.int .i64) moved7 false)) 3 (.box [.int .u8 v3_0, .int .u8 v3_1, .int .u8 v3_2, .int .u8 v3_3, .int .u8 v3_4, .int .u8 v3_5, .int .u8 v3_6, .int .u8 v3_7])) }
noncomputable def L11_2 (n : Nat × Nat) (m : Nat) (size5 : Int) (pieces6 : List Int) (e11 : Int) (f13 : Int) (x18 : Bool) (y19 : Bool) (v121 : Int) (v122 : Int) (moved7 : List Int) : Option R11 := loopN (F11_15 n) m { tm := [uu, uu, uu, uu, uu, .c (.int .i64 size5), .c (.sl (.int .i64) pieces6 false), .own 7 none false, uu, uu, uu, .c (.int .i64 e11), uu, .c (.int .i64 f13), uu, uu, uu, uu, .c (.bool x18), .c (.bool y19), uu, uu, uu, uu, uu, uu, uu, uu, uu, uu, uu, uu, uu, uu, uu, uu, uu, uu, uu, uu, uu, uu, uu, uu, uu, uu, uu, uu, uu, uu, uu, uu, uu, uu, uu, uu, uu, uu, uu, uu, uu, uu, uu, uu, uu, uu, uu, uu, uu, uu, uu, uu, uu, uu, uu, uu, uu, uu, uu, uu, uu, uu, uu, uu, uu, uu, uu, uu, uu, uu, uu, uu, uu, uu, uu, uu, uu, uu, uu, uu, uu, uu, uu, uu, uu, uu, uu, uu, uu, uu, uu, uu, uu, uu, uu, uu, uu, uu, uu, uu, uu, .c (.int .i64 v121), .c (.int .i64 v122), uu, uu, uu, uu, uu, uu, uu, uu, uu, uu, uu, uu, uu, uu, uu, uu, uu, uu, uu, uu, uu, uu, uu, uu, uu, uu, uu, uu, uu, uu, uu, uu, uu, uu, uu, uu, uu, uu, uu, uu, uu, uu], hp := (upd emp 7 (.arr (.int .i64) moved7 false)) }
theorem L11_1_eq (n : Nat × Nat) (m1 : Nat) (size5 : Int) (pieces6 : List Int) (v33 : Int) (v34 : Int) (v3_0 : Int) (v3_1 : Int) (v3_2 : Int) (v3_3 : Int) (v3_4 : Int) (v3_5 : Int) (v3_6 : Int) (v3_7 : Int) (moved7 : List Int) : L11_1 n (m1 + 1) size5 pieces6 v33 v34 v3_0 v3_1 v3_2 v3_3 v3_4 v3_5 v3_6 v3_7 moved7 =
 (bif decide (v34 < v33) then (bif inB v34 8 then (idx [v3_0, v3_1, v3_2, v3_3, v3_4, v3_5, v3_6, v3_7] v34).bind fun x3' =>
 (bif (wr .i64 (v34 + 1)) == 0 then none
 else (bif inB (Int.tmod (wr .i64 x3') (wr .i64 (v34 + 1))) moved7.length then (idx moved7 (Int.tmod (wr .i64 x3') (wr .i64 (v34 + 1)))).bind fun x4' =>
 (bif inB v34 moved7.length then (idx moved7 v34).bind fun x5' =>
 (bif inB v34 moved7.length then (idx moved7 v34).bind fun x6' =>
 (bif inB (Int.tmod (wr .i64 x3') (wr .i64 (v34 + 1))) (moved7.set (Int.toNat v34) x4').length then (idx (moved7.set (Int.toNat v34) x4') (Int.tmod (wr .i64 x3') (wr .i64 (v34 + 1)))).bind fun x7' =>
                  L11_1 n m1 size5 pieces6 v33 (wr .i64 (v34 + 1)) v3_0 v3_1 v3_2 v3_3 v3_4 v3_5 v3_6 v3_7 ((moved7.set (Int.toNat v34) x4').set (Int.toNat (Int.tmod (wr .i64 x3') (wr .i64 (v34 + 1)))) x5')
 else none)
 else none)
 else none)
 else none))
 else none)
 else (S34 n size5 pieces6).bind fun r8' =>
 (S34 n size5 moved7).bind fun r9' =>
 (S38 n size5 pieces6).bind fun r10' =>
 (S38 n size5 moved7).bind fun r11' =>
 ((bif ((r8'.2 != 0) == false) then some (r9'.2 != 0)
 else some true)).bind fun b12' =>
 ((bif (b12' == false) then some (r10'.2 != 0)
 else some true)).bind fun b13' =>
 ((bif (b13' == false) then some (r11'.2 != 0)
 else some true)).bind fun b14' =>
 ((bif (b14' == false) then some (r8'.1 != r9'.1)
 else some true)).bind fun b15' =>
 ((bif (b15' == false) then some (r10'.1 != r11'.1)
 else some true)).bind fun b16' =>
 (bif b16' then some false
 else (S40 n size5 pieces6).bind fun r17' =>
 (S40 n size5 moved7).bind fun r18' =>
 (bif 2 == 0 then none
 else L11_2 n n.1 size5 pieces6 r17'.2 r18'.2 r17'.1 r18'.1 (wr .i64 ((wr .i64 (Int.tdiv size5 2)) + 1)) 0 moved7))) := by kernel_rfl
theorem L11_2_eq (n : Nat × Nat) (m1 : Nat) (size5 : Int) (pieces6 : List Int) (e11 : Int) (f13 : Int) (x18 : Bool) (y19 : Bool) (v121 : Int) (v122 : Int) (moved7 : List Int) : L11_2 n (m1 + 1) size5 pieces6 e11 f13 x18 y19 v121 v122 moved7 =
 (bif decide (v122 < v121) then (S42 n size5 pieces6 v122).bind fun r19' =>
 (S42 n size5 moved7 v122).bind fun r20' =>
 ((bif ((r19'.2 != 0) == false) then some (r20'.2 != 0)
 else some true)).bind fun b21' =>
 ((bif (b21' == false) then some (r19'.1 != r20'.1)
 else some true)).bind fun b22' =>
 (bif b22' then some false
 else L11_2 n m1 size5 pieces6 e11 f13 x18 y19 v121 (wr .i64 (v122 + 1)) moved7)
 else ((bif ((e11 == 0) == true) then some (f13 == 0)
 else some false)).bind fun b23' =>
 ((bif (b23' == true) then some (x18 == y19)
 else some false)).bind fun b24' =>
 ((bif (b24' == true) then (S17 n).bind fun r25' =>
 some r25'
 else some false)).bind fun b26' =>
 some b26') := by kernel_rfl
noncomputable def S11 (n : Nat × Nat) (s0 : Int × Int × Int × Int × Int × Int × Int × Int × Int × Int × Int) (v1 : Int × Int × Int × Int × Int × Int × Int × Int) : Option R11 := run (E11 n) c11 an11 rt11 (fun _ _ => none) rt11 { tm := [.agg [.int .u8 s0.1, .int .u8 s0.2.1, .int .u8 s0.2.2.1, .int .u8 s0.2.2.2.1, .int .u8 s0.2.2.2.2.1, .int .u8 s0.2.2.2.2.2.1, .int .u8 s0.2.2.2.2.2.2.1, .int .u8 s0.2.2.2.2.2.2.2.1, .int .u8 s0.2.2.2.2.2.2.2.2.1, .int .u8 s0.2.2.2.2.2.2.2.2.2.1, .int .u8 s0.2.2.2.2.2.2.2.2.2.2], .agg [.int .u8 v1.1, .int .u8 v1.2.1, .int .u8 v1.2.2.1, .int .u8 v1.2.2.2.1, .int .u8 v1.2.2.2.2.1, .int .u8 v1.2.2.2.2.2.1, .int .u8 v1.2.2.2.2.2.2.1, .int .u8 v1.2.2.2.2.2.2.2], uu, uu, uu, uu, uu, uu, uu, uu, uu, uu, uu, uu, uu, uu, uu, uu, uu, uu, uu, uu, uu, uu, uu, uu, uu, uu, uu, uu, uu, uu, uu, uu, uu, uu, uu, uu, uu, uu, uu, uu, uu, uu, uu, uu, uu, uu, uu, uu, uu, uu, uu, uu, uu, uu, uu, uu, uu, uu, uu, uu, uu, uu, uu, uu, uu, uu, uu, uu, uu, uu, uu, uu, uu, uu, uu, uu, uu, uu, uu, uu, uu, uu, uu, uu, uu, uu, uu, uu, uu, uu, uu, uu, uu, uu, uu, uu, uu, uu, uu, uu, uu, uu, uu, uu, uu, uu, uu, uu, uu, uu, uu, uu, uu, uu, uu, uu, uu, uu, uu, uu, uu, uu, uu, uu, uu, uu, uu, uu, uu, uu, uu, uu, uu, uu, uu, uu, uu, uu, uu, uu, uu, uu, uu, uu, uu, uu, uu, uu, uu, uu, uu, uu, uu, uu, uu, uu, uu, uu, uu, uu, uu, uu, uu], hp := emp }
theorem S11_eq (n : Nat × Nat) (s0 : Int × Int × Int × Int × Int × Int × Int × Int × Int × Int × Int) (v1 : Int × Int × Int × Int × Int × Int × Int × Int) : S11 n s0 v1 =
 (S48 n s0 7).bind fun r1' =>
 (S56 n r1'.2).bind fun r2' =>
    L11_1 n n.1 r1'.1 r1'.2 (r2'.length : Int) 0 v1.1 v1.2.1 v1.2.2.1 v1.2.2.2.1 v1.2.2.2.2.1 v1.2.2.2.2.2.1 v1.2.2.2.2.2.2.1 v1.2.2.2.2.2.2.2 r2' := by kernel_rfl
/-D 11 -/
noncomputable def DF11_2 (n : Nat × Nat) (f1 : Int → List Int → Int → Int → Bool → Bool → Int → Int → List Int → Option R11) (size5 : Int) (pieces6 : List Int) (e11 : Int) (f13 : Int) (x18 : Bool) (y19 : Bool) (v121 : Int) (v122 : Int) (moved7 : List Int) : Option R11 :=
 (bif decide (v122 < v121) then (D42 n size5 pieces6 v122).bind fun r19' =>
 (D42 n size5 moved7 v122).bind fun r20' =>
 ((bif ((r19'.2 != 0) == false) then some (r20'.2 != 0)
 else some true)).bind fun b21' =>
 ((bif (b21' == false) then some (r19'.1 != r20'.1)
 else some true)).bind fun b22' =>
 (bif b22' then some false
 else f1 size5 pieces6 e11 f13 x18 y19 v121 (wr .i64 (v122 + 1)) moved7)
 else ((bif ((e11 == 0) == true) then some (f13 == 0)
 else some false)).bind fun b23' =>
 ((bif (b23' == true) then some (x18 == y19)
 else some false)).bind fun b24' =>
 ((bif (b24' == true) then (D17 n).bind fun r25' =>
 some r25'
 else some false)).bind fun b26' =>
 some b26')
noncomputable def DL11_2 (n : Nat × Nat) (m : Nat) : Int → List Int → Int → Int → Bool → Bool → Int → Int → List Int → Option R11 := Nat.rec (motive := fun _ => Int → List Int → Int → Int → Bool → Bool → Int → Int → List Int → Option R11) (fun _ _ _ _ _ _ _ _ _ => none) (fun _ ih => DF11_2 n ih) m
theorem DL11_2_succ (n : Nat × Nat) (m : Nat) : DL11_2 n (m + 1) = DF11_2 n (DL11_2 n m) := rfl
theorem DL11_2_eq (n : Nat × Nat) (hn : n.2 = 1) : ∀ m, L11_2 n m = DL11_2 n m
  | 0 => by funext size5 pieces6 e11 f13 x18 y19 v121 v122 moved7; kernel_rfl
  | m + 1 => by
    have ih := DL11_2_eq n hn m
    funext size5 pieces6 e11 f13 x18 y19 v121 v122 moved7; refine (L11_2_eq n m size5 pieces6 e11 f13 x18 y19 v121 v122 moved7).trans ?_
    rw [DL11_2_succ]
    unfold DF11_2
    (try simp only [ih, S17_D n hn, S34_D n hn, S38_D n hn, S40_D n hn, S42_D n hn, S48_D n hn, S56_D n hn]) <;> first | with_reducible rfl | rfl
noncomputable def DF11_1 (n : Nat × Nat) (f1 : Int → List Int → Int → Int → Int → Int → Int → Int → Int → Int → Int → Int → List Int → Option R11) (size5 : Int) (pieces6 : List Int) (v33 : Int) (v34 : Int) (v3_0 : Int) (v3_1 : Int) (v3_2 : Int) (v3_3 : Int) (v3_4 : Int) (v3_5 : Int) (v3_6 : Int) (v3_7 : Int) (moved7 : List Int) : Option R11 :=
 (bif decide (v34 < v33) then (bif inB v34 8 then (idx [v3_0, v3_1, v3_2, v3_3, v3_4, v3_5, v3_6, v3_7] v34).bind fun x3' =>
 (bif (wr .i64 (v34 + 1)) == 0 then none
 else (bif inB (Int.tmod (wr .i64 x3') (wr .i64 (v34 + 1))) moved7.length then (idx moved7 (Int.tmod (wr .i64 x3') (wr .i64 (v34 + 1)))).bind fun x4' =>
 (bif inB v34 moved7.length then (idx moved7 v34).bind fun x5' =>
 (bif inB v34 moved7.length then (idx moved7 v34).bind fun x6' =>
 (bif inB (Int.tmod (wr .i64 x3') (wr .i64 (v34 + 1))) (moved7.set (Int.toNat v34) x4').length then (idx (moved7.set (Int.toNat v34) x4') (Int.tmod (wr .i64 x3') (wr .i64 (v34 + 1)))).bind fun x7' =>
                  f1 size5 pieces6 v33 (wr .i64 (v34 + 1)) v3_0 v3_1 v3_2 v3_3 v3_4 v3_5 v3_6 v3_7 ((moved7.set (Int.toNat v34) x4').set (Int.toNat (Int.tmod (wr .i64 x3') (wr .i64 (v34 + 1)))) x5')
 else none)
 else none)
 else none)
 else none))
 else none)
 else (D34 n size5 pieces6).bind fun r8' =>
 (D34 n size5 moved7).bind fun r9' =>
 (D38 n size5 pieces6).bind fun r10' =>
 (D38 n size5 moved7).bind fun r11' =>
 ((bif ((r8'.2 != 0) == false) then some (r9'.2 != 0)
 else some true)).bind fun b12' =>
 ((bif (b12' == false) then some (r10'.2 != 0)
 else some true)).bind fun b13' =>
 ((bif (b13' == false) then some (r11'.2 != 0)
 else some true)).bind fun b14' =>
 ((bif (b14' == false) then some (r8'.1 != r9'.1)
 else some true)).bind fun b15' =>
 ((bif (b15' == false) then some (r10'.1 != r11'.1)
 else some true)).bind fun b16' =>
 (bif b16' then some false
 else (D40 n size5 pieces6).bind fun r17' =>
 (D40 n size5 moved7).bind fun r18' =>
 (bif 2 == 0 then none
 else DL11_2 n n.1 size5 pieces6 r17'.2 r18'.2 r17'.1 r18'.1 (wr .i64 ((wr .i64 (Int.tdiv size5 2)) + 1)) 0 moved7)))
noncomputable def DL11_1 (n : Nat × Nat) (m : Nat) : Int → List Int → Int → Int → Int → Int → Int → Int → Int → Int → Int → Int → List Int → Option R11 := Nat.rec (motive := fun _ => Int → List Int → Int → Int → Int → Int → Int → Int → Int → Int → Int → Int → List Int → Option R11) (fun _ _ _ _ _ _ _ _ _ _ _ _ _ => none) (fun _ ih => DF11_1 n ih) m
theorem DL11_1_succ (n : Nat × Nat) (m : Nat) : DL11_1 n (m + 1) = DF11_1 n (DL11_1 n m) := rfl
theorem DL11_1_eq (n : Nat × Nat) (hn : n.2 = 1) : ∀ m, L11_1 n m = DL11_1 n m
  | 0 => by funext size5 pieces6 v33 v34 v3_0 v3_1 v3_2 v3_3 v3_4 v3_5 v3_6 v3_7 moved7; kernel_rfl
  | m + 1 => by
    have ih := DL11_1_eq n hn m
    funext size5 pieces6 v33 v34 v3_0 v3_1 v3_2 v3_3 v3_4 v3_5 v3_6 v3_7 moved7; refine (L11_1_eq n m size5 pieces6 v33 v34 v3_0 v3_1 v3_2 v3_3 v3_4 v3_5 v3_6 v3_7 moved7).trans ?_
    rw [DL11_1_succ]
    unfold DF11_1
    (try simp only [ih, DL11_2_eq n hn, S17_D n hn, S34_D n hn, S38_D n hn, S40_D n hn, S42_D n hn, S48_D n hn, S56_D n hn]) <;> first | with_reducible rfl | rfl
noncomputable def D11 (n : Nat × Nat) (s0 : Int × Int × Int × Int × Int × Int × Int × Int × Int × Int × Int) (v1 : Int × Int × Int × Int × Int × Int × Int × Int) : Option R11 :=
 (D48 n s0 7).bind fun r1' =>
 (D56 n r1'.2).bind fun r2' =>
    DL11_1 n n.1 r1'.1 r1'.2 (r2'.length : Int) 0 v1.1 v1.2.1 v1.2.2.1 v1.2.2.2.1 v1.2.2.2.2.1 v1.2.2.2.2.2.1 v1.2.2.2.2.2.2.1 v1.2.2.2.2.2.2.2 r2'
theorem S11_D (n : Nat × Nat) (hn : n.2 = 1) : S11 n = D11 n := by
  funext s0 v1; refine (S11_eq n s0 v1).trans ?_
  unfold D11
  (try simp only [DL11_2_eq n hn, DL11_1_eq n hn, S17_D n hn, S34_D n hn, S38_D n hn, S40_D n hn, S42_D n hn, S48_D n hn, S56_D n hn]) <;> first | with_reducible rfl | rfl
end Go.Proofs.YtgmonagekfjnmaaDoor
set_option linter.unusedVariables false
set_option linter.unusedSimpArgs false
namespace Go.Proofs.YtgmonagekfjnmaaDoor
open Go.Vi

abbrev B8 := Int × Int × Int × Int × Int × Int × Int × Int
abbrev ShB : Sh := .pair (.int .u8) (.pair (.int .u8) (.pair (.int .u8) (.pair (.int .u8) (.pair (.int .u8) (.pair (.int .u8) (.pair (.int .u8) (.int .u8)))))))
def bl (v : B8) : List Int := [v.1, v.2.1, v.2.2.1, v.2.2.2.1, v.2.2.2.2.1, v.2.2.2.2.2.1, v.2.2.2.2.2.2.1, v.2.2.2.2.2.2.2]
theorem b8_ok {v : B8} (h : Wf ShB v) : ∀ x ∈ bl v, By x := by
  obtain ⟨h1, h2, h3, h4, h5, h6, h7, h8⟩ := h
  intro x hx
  unfold bl at hx
  simp only [List.mem_cons, List.not_mem_nil, or_false] at hx
  rcases hx with e | e | e | e | e | e | e | e <;> subst e
  · exact by_wf h1
  · exact by_wf h2
  · exact by_wf h3
  · exact by_wf h4
  · exact by_wf h5
  · exact by_wf h6
  · exact by_wf h7
  · exact by_wf h8
theorem bl_len (v : B8) : (bl v).length = 8 := rfl
/-- The place that a number names. -/
def pick (v : B8) (i : Nat) : Nat := ((bl v).getD i 0 % ((i + 1 : Nat) : Int)).toNat
theorem pick_ok {v : B8} (h : ∀ x ∈ bl v, By x) {i : Nat} (hi : i < 8) : idx (bl v) (i : Int) = some ((bl v).getD i 0) ∧ Int.tmod (wr .i64 ((bl v).getD i 0)) ((i + 1 : Nat) : Int) = (pick v i : Int) ∧ pick v i ≤ i := by
  have hl := bl_len v
  have hb := h _ (List.getElem_mem (show i < (bl v).length by omega))
  rw [← getD_at (by omega)] at hb
  unfold By at hb
  have hmod := Int.emod_nonneg ((bl v).getD i 0) (show ((i + 1 : Nat) : Int) ≠ 0 by omega)
  have hmod2 := Int.emod_lt_of_pos ((bl v).getD i 0) (show (0 : Int) < ((i + 1 : Nat) : Int) by omega)
  refine ⟨by rw [idx_nat (by omega), getD_at (by omega)], ?_, by unfold pick; omega⟩
  rw [wr_ok (by omega) (by omega), tmod_mod hb.1]
  unfold pick
  omega
theorem add_perm {f : List Int → Int} (hf : Add f) {l l' : List Int} (h : l.Perm l') : f l = f l' := by
  induction h with
  | nil => rfl
  | @cons x a b _ ih => rw [hf.cons x a, hf.cons x b, ih]
  | swap x y l => rw [hf.cons y, hf.cons x l, hf.cons x (y :: l), hf.cons y l]; omega
  | trans _ _ ih1 ih2 => exact ih1.trans ih2
theorem bnd_perm {sz k : Int} {l l' : List Int} (h : l.Perm l') : bnd sz l k = bnd sz l' k := by
  unfold bnd
  rw [add_perm (bal_add sz k) h, add_perm (blf_add sz k) h, add_perm (bsm_add sz k) h]
/-- Pieces with other numbers. -/
structure Mvd (sz : Int) (ps mv : List Int) : Prop where
  job : Job sz mv
  perm : mv.Perm ps
  cnt : ∀ mo, (apl sz mv mo).length = (apl sz ps mo).length
theorem Mvd.swap {sz : Int} {ps mv : List Int} (h : Mvd sz ps mv) {i k : Nat} (hi : i < mv.length) (hk : k < mv.length) : Mvd sz ps (swp mv i k) :=
  ⟨swp_job hi hk h.job, (swp_perm hi hk).trans h.perm, fun mo => (swp_count hi hk h.job mo).trans (h.cnt mo)⟩
theorem nm_bounds {sz : Int} {ps mv : List Int} (hj : Job sz ps) (h : Mvd sz ps mv) (x : Bool) : ∀ (m d k : Nat), (k : Int) + d = sz / 2 + 1 → d < m → DL11_2 N m sz ps 0 0 x x (sz / 2 + 1) (k : Int) mv = some true
  | 0, d, k, _, hh => by omega
  | m + 1, 0, k, hk, hh => by
    rw [DL11_2_succ]
    unfold DF11_2
    rw [decide_eq_false (show ¬ (k : Int) < sz / 2 + 1 by omega), cond_false]
    simp only [beq_self_eq_true, cond_true, Option.bind_some, works_eq]
  | m + 1, d + 1, k, hk, hh => by
    have hk2 : 0 ≤ (k : Int) ∧ (k : Int) ≤ sz / 2 := by omega
    have hhi := hj.hi
    rw [DL11_2_succ]
    unfold DF11_2
    rw [decide_eq_true (show (k : Int) < sz / 2 + 1 by omega), cond_true, Bound_eq hN1, Option.bind_some, Bound_eq hN1, Option.bind_some, bdS_in hj hk2, bdS_in h.job hk2, bnd_perm (k := (k : Int)) (sz := sz) h.perm]
    simp only [bne_self_eq_false, beq_self_eq_true, cond_true, Option.bind_some, cond_false]
    rw [wr_succ (by omega)]
    exact nm_bounds hj h x m d (k + 1) (by omega) (by omega)
theorem nm_loop {sz : Int} {ps : List Int} (hj : Job sz ps) {v : B8} (hv : ∀ x ∈ bl v, By x) : ∀ (m i : Nat) (mv : List Int), i ≤ ps.length → ps.length - i < m → Mvd sz ps mv →
    DL11_1 N m sz ps (ps.length : Int) (i : Int) v.1 v.2.1 v.2.2.1 v.2.2.2.1 v.2.2.2.2.1 v.2.2.2.2.2.1 v.2.2.2.2.2.2.1 v.2.2.2.2.2.2.2 mv = some true
  | 0, i, mv, _, h, _ => by omega
  | m + 1, i, mv, hi, hm, h => by
    have h8 := hj.len
    have hlen : mv.length = ps.length := h.perm.length_eq
    rw [DL11_1_succ]
    unfold DF11_1
    by_cases hlt : i < ps.length
    · obtain ⟨p1, p2, p3⟩ := pick_ok hv (show i < 8 by omega)
      have hs := h.swap (i := i) (k := pick v i) (by omega) (by omega)
      have e1 : (mv.set i (mv.getD (pick v i) 0)).set (pick v i) (mv.getD i 0) = swp mv i (pick v i) := rfl
      rw [dlt_t hlt, cond_true, inB_nat (show i < 8 by omega), cond_true]
      rw [show idx [v.1, v.2.1, v.2.2.1, v.2.2.2.1, v.2.2.2.2.1, v.2.2.2.2.2.1, v.2.2.2.2.2.2.1, v.2.2.2.2.2.2.2] (i : Int) = some ((bl v).getD i 0) from p1, Option.bind_some, wr_succ (by omega), beq_false_of_ne (show ((i + 1 : Nat) : Int) ≠ 0 by omega), cond_false, p2]
      have hk : pick v i < mv.length := by omega
      have hi2 : i < mv.length := by omega
      have hk3 : pick v i < (mv.set i (mv.getD (pick v i) 0)).length := by simpa using hk
      have e3 : ∃ y, idx (mv.set i (mv.getD (pick v i) 0)) (pick v i : Int) = some y := ⟨_, idx_nat hk3⟩
      obtain ⟨y, hy⟩ := e3
      rw [inB_nat hk, cond_true, idx_nat hk, Option.bind_some, inB_nat hi2, cond_true, idx_nat hi2, Option.bind_some, cond_true, Option.bind_some, Int.toNat_natCast, ← getD_at hk, ← getD_at hi2, inB_nat hk3, cond_true, hy, Option.bind_some, Int.toNat_natCast, e1]
      exact nm_loop hj hv m (i + 1) _ (by omega) (by omega) hs
    · obtain ⟨e, h0, h12⟩ := half_ok ⟨hj.lo, hj.hi⟩
      have hfw : fw sz mv = fw sz ps := fw_count hj h.job h.cnt
      have hcn := h.cnt (fw sz ps)
      have hch : chS sz mv = chS sz ps := by
        unfold chS
        rw [if_neg (by simpa using chk_job.2 h.job), if_neg (by simpa using chk_job.2 hj)]
        congr 1
        exact decide_eq_decide.2 (isC_perm h.perm)
      have hch2 : (chS sz ps).2 = 0 := by unfold chS; rw [if_neg (by simpa using chk_job.2 hj)]
      rw [dlt_f hlt, cond_false, Fewest_eq, Option.bind_some, Fewest_eq, Option.bind_some, Count_eq, Option.bind_some, Count_eq, Option.bind_some, fwS_eq hj, fwS_eq h.job, cnS_eq hj, cnS_eq h.job, hfw, hcn]
      simp only [bne_self_eq_false, beq_self_eq_true, cond_true, Option.bind_some, cond_false]
      rw [Chain_eq hN1, Option.bind_some, Chain_eq hN1, Option.bind_some, hch, hch2, show ((2 : Nat) == 0) = false from rfl, cond_false, e, wr_ok (x := sz / 2 + 1) (by omega) (by omega)]
      exact nm_bounds hj h _ N.1 (sz / 2 + 1).toNat 0 (by omega) (by have : N.1 = 1000000 := rfl; omega)
theorem named_ok {s : Stp} (h : StpOk s) {v : B8} (hv : ∀ x ∈ bl v, By x) : S11 N s v = some true := by
  rw [S11_D N rfl]
  unfold D11
  obtain ⟨sz, ps, h1, hj, _, _⟩ := made_ok h (most := 7) (by omega)
  have e1 : D48 N s 7 = some (sz, ps) := h1
  have h8 := hj.len
  rw [e1, Option.bind_some]
  simp only []
  rw [clone_eq N ps (by omega), Option.bind_some]
  exact nm_loop hj hv N.1 0 ps (by omega) (by have : N.1 = 1000000 := rfl; omega) ⟨hj, List.Perm.refl _, fun _ => rfl⟩
/-! The falling order, by lengths. -/
theorem perm_sort_eq {R : Int → Int → Prop} (asym : ∀ a b, R a b → R b a → False) : ∀ {l l' : List Int}, l.Perm l' → l.Pairwise R → l'.Pairwise R → l = l'
  | [], l', h, _, _ => h.nil_eq
  | x :: l, [], h, _, _ => absurd h.length_eq (by simp)
  | x :: l, y :: l', h, h1, h2 => by
    rw [List.pairwise_cons] at h1 h2
    by_cases e : x = y
    · subst e
      rw [perm_sort_eq asym (List.Perm.cons_inv h) h1.2 h2.2]
    · have hx : x ∈ l' := (List.mem_cons.1 (h.mem_iff.1 (by simp))).resolve_left e
      have hy : y ∈ l := (List.mem_cons.1 (h.mem_iff.2 (by simp))).resolve_left (fun hh => e hh.symm)
      exact (asym _ _ (h1.1 y hy) (h2.1 x hx)).elim
theorem plc_mem (s : Int) : ∀ (l : List Int) (k : Nat) (x : Int), x ∈ plc s k l ↔ ∃ i : Nat, l[i]? = some s ∧ x = ((k + i : Nat) : Int)
  | [], k, x => by simp [plc]
  | y :: l, k, x => by
    have ih := plc_mem s l (k + 1) x
    have hsplit : (∃ i : Nat, (y :: l)[i]? = some s ∧ x = ((k + i : Nat) : Int)) ↔ (y = s ∧ x = (k : Int)) ∨ ∃ i : Nat, l[i]? = some s ∧ x = ((k + 1 + i : Nat) : Int) := by
      constructor
      · rintro ⟨i, h1, h2⟩
        cases i with
        | zero => exact .inl ⟨by simpa using h1, by simpa using h2⟩
        | succ i => exact .inr ⟨i, by simpa using h1, by rw [h2]; omega⟩
      · rintro (⟨h1, h2⟩ | ⟨i, h1, h2⟩)
        · exact ⟨0, by simp [h1], by simp [h2]⟩
        · exact ⟨i + 1, by simpa using h1, by rw [h2]; omega⟩
    have hp : plc s k (y :: l) = if y = s then (k : Int) :: plc s (k + 1) l else plc s (k + 1) l := rfl
    rw [hsplit, ← ih, hp]
    by_cases e : y = s
    · rw [if_pos e, List.mem_cons]
      simp [e]
    · rw [if_neg e]
      simp [e]
theorem plc_pair (s : Int) : ∀ (l : List Int) (k : Nat), (plc s k l).Pairwise (· < ·)
  | [], k => by simp [plc]
  | y :: l, k => by
    unfold plc
    split
    · refine List.pairwise_cons.2 ⟨fun x hx => ?_, plc_pair s l (k + 1)⟩
      obtain ⟨i, _, rfl⟩ := (plc_mem s l (k + 1) x).1 hx
      omega
    · exact plc_pair s l (k + 1)
def flo (ps : List Int) : Nat → List Int
  | 0 => []
  | k + 1 => plc ((k + 1 : Nat) : Int) 0 ps ++ flo ps k
theorem flo_mem (ps : List Int) : ∀ (k : Nat) (x : Int), x ∈ flo ps k ↔ ∃ i : Nat, x = (i : Int) ∧ ∃ p, ps[i]? = some p ∧ 1 ≤ p ∧ p ≤ k
  | 0, x => by
    unfold flo
    constructor
    · intro h; cases h
    · rintro ⟨i, _, p, _, h1, h2⟩; omega
  | k + 1, x => by
    unfold flo
    rw [List.mem_append, plc_mem, flo_mem ps k]
    constructor
    · rintro (⟨i, h1, h2⟩ | ⟨i, h1, p, h2, h3, h4⟩)
      · exact ⟨i, by rw [h2]; omega, _, h1, by omega, by omega⟩
      · exact ⟨i, h1, p, h2, h3, by omega⟩
    · rintro ⟨i, h1, p, h2, h3, h4⟩
      by_cases e : p = ((k + 1 : Nat) : Int)
      · exact .inl ⟨i, by rw [← e]; exact h2, by rw [h1]; omega⟩
      · exact .inr ⟨i, h1, p, h2, h3, by omega⟩
theorem pc_nat {ps : List Int} {i : Nat} {p : Int} (h : ps[i]? = some p) : pc ps (i : Int) = p := by
  unfold pc
  rw [Int.toNat_natCast, List.getD_eq_getElem?_getD, h, Option.getD_some]
theorem flo_pair (ps : List Int) : ∀ k : Nat, (flo ps k).Pairwise (Fbf ps)
  | 0 => by simp [flo]
  | k + 1 => by
    unfold flo
    rw [List.pairwise_append]
    refine ⟨?_, flo_pair ps k, fun x hx y hy => ?_⟩
    · rw [List.pairwise_iff_forall_sublist]
      intro a b hab
      obtain ⟨i, h1, h2⟩ := (plc_mem _ _ _ _).1 (hab.subset (show a ∈ [a, b] by simp))
      obtain ⟨j, h3, h4⟩ := (plc_mem _ _ _ _).1 (hab.subset (show b ∈ [a, b] by simp))
      have hlt := List.pairwise_iff_forall_sublist.1 (plc_pair ((k + 1 : Nat) : Int) ps 0) hab
      rw [Nat.zero_add] at h2 h4
      subst h2 h4
      exact .inr ⟨by rw [pc_nat h1, pc_nat h3], hlt⟩
    · obtain ⟨i, h1, h2⟩ := (plc_mem _ _ _ _).1 hx
      obtain ⟨j, h3, p, h4, h5, h6⟩ := (flo_mem ps k y).1 hy
      rw [Nat.zero_add] at h2
      subst h2 h3
      left
      rw [pc_nat h1, pc_nat h4]
      omega
theorem flo_fal {ps : List Int} (hb : ∀ p ∈ ps, 1 ≤ p ∧ p ≤ 24) : flo ps 24 = fal ps := by
  have irr : ∀ a, ¬ Fbf ps a a := fun a h => by unfold Fbf at h; omega
  have hnd : ∀ {l : List Int}, l.Pairwise (Fbf ps) → l.Nodup := fun h => h.imp (fun hab e => by rw [e] at hab; exact irr _ hab)
  refine perm_sort_eq (R := Fbf ps) (fun a b h1 h2 => by unfold Fbf at h1 h2; omega) ?_ (flo_pair ps 24) (fal_sort ps)
  refine (List.perm_ext_iff_of_nodup (hnd (flo_pair ps 24)) (hnd (fal_sort ps))).2 (fun x => ?_)
  rw [flo_mem, (fal_perm ps).mem_iff, List.mem_map]
  constructor
  · rintro ⟨i, h1, p, h2, _, _⟩
    have hi : i < ps.length := by
      rcases Nat.lt_or_ge i ps.length with h | h
      · exact h
      · rw [List.getElem?_eq_none h] at h2; cases h2
    exact ⟨i, List.mem_range.2 hi, h1.symm⟩
  · rintro ⟨i, h1, h2⟩
    have hi := List.mem_range.1 h1
    have := hb _ (List.getElem_mem hi)
    exact ⟨i, h2.symm, _, List.getElem?_eq_getElem hi, this.1, by omega⟩
theorem fg_in (n : Nat × Nat) (f1 : List Int → Int → List Int → Option R50) (ps : List Int) (len : Int) (h8 : ps.length ≤ 8) : ∀ (m k : Nat) (out : List Int), k ≤ ps.length → ps.length - k < m → out.length + (ps.length - k) ≤ 1000 →
    DL50_2 n f1 m ps len ps (ps.length : Int) (k : Int) out = f1 ps (wr .i64 (len - 1)) (out ++ plc len k (ps.drop k))
  | 0, k, _, _, h, _ => by omega
  | m + 1, k, out, hk, h, ho => by
    rw [DL50_2_succ]
    unfold DF50_2
    by_cases hlt : k < ps.length
    · rw [dlt_t hlt, cond_true, idx_nat hlt, Option.bind_some, drop_cons hlt]
      unfold DL50_3 plc
      by_cases e : ps[k] = len
      · rw [show (ps[k] == len) = true by simpa using e, cond_true, lim_dec (by omega), cond_true, wr_succ (by omega), if_pos e]
        rw [fg_in n f1 ps len h8 m (k + 1) _ (by omega) (by omega) (by rw [List.length_append, List.length_singleton]; omega), List.append_assoc, List.singleton_append]
      · rw [beq_false_of_ne e, cond_false, wr_succ (by omega), if_neg e, fg_in n f1 ps len h8 m (k + 1) _ (by omega) (by omega) (by omega)]
    · rw [dlt_f hlt, cond_false, List.drop_of_length_le (by omega)]
      simp [plc]
theorem fg_loop {n : Nat × Nat} (hn : 1000 ≤ n.1) (ps : List Int) (h8 : ps.length ≤ 8) : ∀ (m k : Nat) (out : List Int), k < m → k ≤ 24 → out.length + 8 * k ≤ 900 → DL50_1 n m ps (k : Int) out = some (out ++ flo ps k)
  | 0, k, _, h, _, _ => by omega
  | m + 1, 0, out, h, _, _ => by
    rw [DL50_1_succ]
    unfold DF50_1 flo
    rw [decide_eq_false (by omega), cond_false, List.append_nil]
  | m + 1, k + 1, out, h, h24, ho => by
    have hpl := plc_len ((k + 1 : Nat) : Int) ps 0
    rw [DL50_1_succ]
    unfold DF50_1
    have := fg_in n (DL50_1 n m) ps ((k + 1 : Nat) : Int) h8 n.1 0 out (by omega) (by omega) (by omega)
    rw [show ((0 : Nat) : Int) = 0 from rfl, List.drop_zero] at this
    rw [decide_eq_true (show ((k + 1 : Nat) : Int) > 0 by omega), cond_true]
    refine Eq.trans this ?_
    rw [wr_ok (by omega) (by omega), show ((k + 1 : Nat) : Int) - 1 = (k : Int) by omega, fg_loop hn ps h8 m k _ (by omega) (by omega) (by rw [List.length_append]; omega), List.append_assoc]
    rfl
theorem falling_eq {n : Nat × Nat} (hn : 1000 ≤ n.1) {ps : List Int} (hb : ∀ p ∈ ps, 1 ≤ p ∧ p ≤ 24) (h8 : ps.length ≤ 8) : D50 n ps = some (fal ps) := by
  unfold D50
  have := fg_loop hn ps h8 n.1 24 [] (by omega) (by omega) (by simp)
  rw [show ((24 : Nat) : Int) = 24 from rfl, List.nil_append, flo_fal hb] at this
  exact this
/-! Chains fill sheets. -/

/-! In the order of a plan's sheets. -/
def srtd (q : List Int) : Nat → List Int
  | 0 => []
  | m + 1 => srtd q m ++ plc (m : Int) 0 q
theorem srtd_mem (q : List Int) : ∀ (m : Nat) (x : Int), x ∈ srtd q m ↔ ∃ j : Nat, x = (j : Int) ∧ ∃ s : Nat, s < m ∧ q[j]? = some (s : Int)
  | 0, x => by
    unfold srtd
    constructor
    · intro h; cases h
    · rintro ⟨_, _, s, h, _⟩; omega
  | m + 1, x => by
    unfold srtd
    rw [List.mem_append, srtd_mem q m, plc_mem]
    constructor
    · rintro (⟨j, h1, s, h2, h3⟩ | ⟨j, h1, h2⟩)
      · exact ⟨j, h1, s, by omega, h3⟩
      · exact ⟨j, by rw [h2]; omega, m, by omega, h1⟩
    · rintro ⟨j, h1, s, h2, h3⟩
      by_cases e : s = m
      · subst e
        exact .inr ⟨j, h3, by rw [h1]; omega⟩
      · exact .inl ⟨j, h1, s, by omega, h3⟩
theorem srtd_nodup (q : List Int) : ∀ m : Nat, (srtd q m).Nodup
  | 0 => by simp [srtd]
  | m + 1 => by
    unfold srtd
    rw [List.nodup_append]
    refine ⟨srtd_nodup q m, (plc_pair (m : Int) q 0).imp (fun h => by omega), fun x hx y hy e => ?_⟩
    subst e
    obtain ⟨j, h1, s, h2, h3⟩ := (srtd_mem q m x).1 hx
    obtain ⟨k, h4, h5⟩ := (plc_mem _ _ _ _).1 hy
    have : j = k := by omega
    subst this
    rw [h3] at h4
    have := Option.some.inj h4
    omega
theorem srtd_ord {sz : Int} {ps q : List Int} (h : Pln sz ps q) : Ord ps (srtd q (mny q).toNat) := by
  have hl := h.len
  obtain ⟨v1, v2⟩ := pln_vals h
  refine (List.perm_ext_iff_of_nodup (srtd_nodup q _) ?_).2 (fun x => ?_)
  · rw [List.Nodup, List.pairwise_map]
    exact (List.pairwise_lt_range).imp (fun h => by omega)
  · rw [srtd_mem, List.mem_map]
    constructor
    · rintro ⟨j, h1, s, _, h3⟩
      have hj : j < q.length := by
        rcases Nat.lt_or_ge j q.length with h | h
        · exact h
        · rw [List.getElem?_eq_none h] at h3; cases h3
      exact ⟨j, List.mem_range.2 (by omega), h1.symm⟩
    · rintro ⟨j, h1, h2⟩
      have hj := List.mem_range.1 h1
      have hv := v1 _ (List.getElem_mem (show j < q.length by omega))
      refine ⟨j, h2.symm, (q[j]'(by omega)).toNat, by omega, ?_⟩
      rw [List.getElem?_eq_getElem (by omega)]
      congr 1
      omega
theorem rm_up_all {sz : Int} {L : List Int} {S : Nat} (p : Int) (h : S ≤ L.length) (s : Nat) : rm sz (up sz L S p) s = if S = s then rm sz L S - p else rm sz L s := by
  have hul := up_len (sz := sz) p h
  by_cases e : s < (up sz L S p).length
  · rw [rm_get e, up_get]
  · have h1 : rm sz (up sz L S p) s = sz := by unfold rm; rw [List.getD_eq_getElem?_getD, List.getElem?_eq_none (by omega), Option.getD_none]
    have h2 : rm sz L s = sz := by unfold rm; rw [List.getD_eq_getElem?_getD, List.getElem?_eq_none (by omega), Option.getD_none]
    rw [h1, if_neg (by omega), h2]
theorem group_ff {sz : Int} {ps : List Int} (hj : Job sz ps) (s : Nat) : ∀ (g : List Int) (t : List Int × List Int), (∀ i ∈ g, 0 ≤ i ∧ i < ps.length) → t.2.length ≤ s + 1 → tot (g.map (pc ps)) ≤ rm sz t.2 s → (ffo sz ps g t).2.length ≤ s + 1
  | [], t, _, h, _ => h
  | i :: g, t, hr, h, hs => by
    have hi := hr i (by simp)
    have hp := hj.ok _ (pc_mem hi.1 hi.2)
    have hrest : 0 ≤ tot (g.map (pc ps)) := (tot_rng (fun x hx => by
      obtain ⟨k, hk, rfl⟩ := List.mem_map.1 hx
      have h1 := hr k (by simp [hk])
      have := hj.ok _ (pc_mem h1.1 h1.2)
      have := hj.hi
      omega)).1
    rw [List.map_cons] at hs
    simp only [tot] at hs
    have hfl := ffp_le (pc ps i) t.2
    have hS : ffp (pc ps i) t.2 ≤ s := by
      rcases Nat.lt_or_ge s t.2.length with e | e
      · rcases Nat.lt_or_ge s (ffp (pc ps i) t.2) with e2 | e2
        · have := ffp_below e e2
          rw [rm_get e] at hs
          omega
        · exact e2
      · omega
    have hul := up_len (sz := sz) (pc ps i) hfl
    show (ffo sz ps g (fst1 sz ps t i)).2.length ≤ s + 1
    refine group_ff hj s g _ (fun k hk => hr k (by simp [hk])) ?_ ?_
    · show (up sz t.2 (ffp (pc ps i) t.2) (pc ps i)).length ≤ s + 1
      omega
    · show tot (g.map (pc ps)) ≤ rm sz (up sz t.2 (ffp (pc ps i) t.2) (pc ps i)) s
      rw [rm_up_all _ hfl]
      split
      · rename_i e; rw [e]; omega
      · omega
theorem plc_tot (ps : List Int) (s : Int) : ∀ (l ps' : List Int) (k : Nat), l.length = ps'.length → (∀ j : Nat, ps'[j]? = ps[k + j]?) → tot ((plc s k l).map (pc ps)) = usd ps' l s
  | [], [], _, _, _ => rfl
  | x :: l, p :: ps', k, h, hp => by
    have h0 := hp 0
    simp only [List.getElem?_cons_zero, Nat.add_zero] at h0
    have ih := plc_tot ps s l ps' (k + 1) (by simpa using h) (fun j => by
      have := hp (j + 1)
      rw [List.getElem?_cons_succ] at this
      rw [this]
      congr 1
      omega)
    have hpk : pc ps (k : Int) = p := pc_nat h0.symm
    simp only [plc, usd]
    by_cases e : x = s
    · rw [if_pos e, if_pos e, List.map_cons]
      simp only [tot]
      rw [ih, hpk]
    · rw [if_neg e, if_neg e, ih]; omega
  | [], _ :: _, _, h, _ => by simp at h
  | _ :: _, [], _, h, _ => by simp at h
theorem srtd_ff {sz : Int} {ps q : List Int} (h : Pln sz ps q) : ∀ m : Nat, m ≤ (mny q).toNat → (ffo sz ps (srtd q m) (zer ps.length, [])).2.length ≤ m
  | 0, _ => Nat.le_refl _
  | m + 1, hm => by
    have ih := srtd_ff h m (by omega)
    have hor := (srtd_ord h).rng
    have hlo := h.job.lo
    unfold srtd
    have e : ffo sz ps (srtd q m ++ plc (m : Int) 0 q) (zer ps.length, []) = ffo sz ps (plc (m : Int) 0 q) (ffo sz ps (srtd q m) (zer ps.length, [])) := by unfold ffo; rw [List.foldl_append]
    rw [e]
    refine group_ff h.job m _ _ (fun i hi => ?_) (by omega) ?_
    · obtain ⟨j, h1, h2⟩ := (plc_mem _ _ _ _).1 hi
      have hj : j < q.length := by
        rcases Nat.lt_or_ge j q.length with h | h
        · exact h
        · rw [List.getElem?_eq_none h] at h1; cases h1
      have := h.len
      omega
    · rw [plc_tot ps (m : Int) q ps 0 h.len (fun j => by rw [Nat.zero_add])]
      have hrm : rm sz (ffo sz ps (srtd q m) (zer ps.length, [])).2 m = sz := by unfold rm; rw [List.getD_eq_getElem?_getD, List.getElem?_eq_none (by omega), Option.getD_none]
      rw [hrm]
      by_cases hx : (m : Int) ∈ q
      · exact h.fit _ hx
      · rw [usd_none hx]; omega
theorem sof_mny (n : Nat × Nat) {l : List Int} (hs : l.length < 1000) (hb : ∀ x ∈ l, 0 ≤ x ∧ x ≤ 100000) : ∀ (m k : Nat) (v : Int), k ≤ l.length → l.length - k < m → DL54_1 n m v l (l.length : Int) (k : Int) = some ((l.drop k).foldl (fun a s => max a (s + 1)) v)
  | 0, k, v, _, h => by omega
  | m + 1, k, v, hk, h => by
    rw [DL54_1_succ]
    unfold DF54_1
    by_cases hlt : k < l.length
    · have hx := hb _ (List.getElem_mem hlt)
      rw [dlt_t hlt, cond_true, idx_nat hlt, Option.bind_some, wr_ok (x := l[k] + 1) (by omega) (by omega), max_if, wr_succ (by omega), sof_mny n hs hb m (k + 1) _ (by omega) (by omega), drop_cons hlt, List.foldl_cons]
    · rw [dlt_f hlt, cond_false, List.drop_of_length_le (by omega)]
      rfl
theorem sheetsOf_eq {sz : Int} {ps q : List Int} (h : Pln sz ps q) : D54 N q = some (mny q) := by
  have := h.len
  have := h.job.len
  unfold D54
  exact sof_mny N (by omega) h.rng N.1 0 0 (by omega) (by have : N.1 = 1000000 := rfl; omega)

/-! Sheets not more than half full. -/
def hlf (sz : Int) : List Int → Int
  | [] => 0
  | x :: L => (if sz ≤ 2 * x then 1 else 0) + hlf sz L
theorem hlf_zero {sz : Int} : ∀ {L : List Int}, (∀ x ∈ L, 2 * x < sz) → hlf sz L = 0
  | [], _ => rfl
  | x :: L, h => by
    have := h x (by simp)
    simp only [hlf]
    rw [if_neg (by omega), hlf_zero (fun y hy => h y (by simp [hy]))]
    rfl
theorem hlf_rng (sz : Int) : ∀ L : List Int, 0 ≤ hlf sz L ∧ hlf sz L ≤ L.length
  | [] => by simp [hlf]
  | x :: L => by
    have := hlf_rng sz L
    simp only [hlf, List.length_cons]
    split <;> omega
theorem hlf_one {sz : Int} : ∀ {L : List Int}, L.Pairwise (fun x y => x + y < sz) → hlf sz L ≤ 1
  | [], _ => by simp [hlf]
  | x :: L, h => by
    rw [List.pairwise_cons] at h
    have ih := hlf_one h.2
    simp only [hlf]
    by_cases e : sz ≤ 2 * x
    · rw [if_pos e, hlf_zero (fun y hy => by have := h.1 y hy; omega)]; omega
    · rw [if_neg e]; omega
theorem swp_app (a z : List Int) {i k : Nat} (hi : i < a.length) (hk : k < a.length) : swp (a ++ z) i k = swp a i k ++ z := by
  unfold swp
  have e : ∀ j, j < a.length → (a ++ z).getD j 0 = a.getD j 0 := fun j hj => by
    rw [List.getD_eq_getElem?_getD, List.getElem?_append_left hj, ← List.getD_eq_getElem?_getD]
  rw [e i hi, e k hk, List.set_append, if_pos hi, List.set_append, if_pos (by simpa using hk)]

theorem sort_in (n : Nat × Nat) (f1 : Int → List Int → Int → List Int → Int → Int → List Int → Option R9) (sz : Int) (ps : List Int) (few v170 v171 s : Int) {q : List Int} (h8 : q.length ≤ 8) : ∀ (m k : Nat) (out : List Int), k ≤ q.length → q.length - k < m → out.length + (q.length - k) ≤ 1000 →
    DL9_5 n f1 m sz ps few q s v170 v171 q (q.length : Int) (k : Int) out = f1 sz ps few q v170 (wr .i64 (v171 + 1)) (out ++ plc s k (q.drop k))
  | 0, k, _, _, h, _ => by omega
  | m + 1, k, out, hk, h, ho => by
    rw [DL9_5_succ]
    unfold DF9_5
    by_cases hlt : k < q.length
    · rw [dlt_t hlt, cond_true, idx_nat hlt, Option.bind_some, drop_cons hlt]
      unfold DL9_6 plc
      by_cases e : q[k] = s
      · rw [show (q[k] == s) = true by simpa using e, cond_true, lim_dec (by omega), cond_true, wr_succ (by omega), if_pos e]
        rw [sort_in n f1 sz ps few v170 v171 s h8 m (k + 1) _ (by omega) (by omega) (by rw [List.length_append, List.length_singleton]; omega), List.append_assoc, List.singleton_append]
      · rw [beq_false_of_ne e, cond_false, wr_succ (by omega), if_neg e, sort_in n f1 sz ps few v170 v171 s h8 m (k + 1) _ (by omega) (by omega) (by omega)]
    · rw [dlt_f hlt, cond_false, List.drop_of_length_le (by omega)]
      simp [plc]
theorem srtd_len (q : List Int) : ∀ m : Nat, (srtd q m).length ≤ m * q.length
  | 0 => by simp [srtd]
  | m + 1 => by
    have h1 := srtd_len q m
    have h2 := plc_len (m : Int) q 0
    unfold srtd
    rw [List.length_append, Nat.succ_mul]
    omega
theorem sort_loop {sz : Int} {ps : List Int} (hj : Job sz ps) : ∀ (m s : Nat), s ≤ fw sz ps → fw sz ps - s < m → DL9_4 N m sz ps (fw sz ps) (fst sz ps) (fw sz ps) (s : Int) (srtd (fst sz ps) s) = some true
  | 0, s, _, h => by omega
  | m + 1, s, hs, h => by
    have hp := fst_pln hj
    have hmy := fst_mny hj
    have hl := hp.len
    have h8 := hj.len
    obtain ⟨f1, f2, f3⟩ := fw_spec hj
    rw [DL9_4_succ]
    unfold DF9_4
    by_cases hlt : s < fw sz ps
    · have hlen : (srtd (fst sz ps) s).length ≤ 64 := by
        have h1 := srtd_len (fst sz ps) s
        have h2 : s * (fst sz ps).length ≤ 8 * 8 := Nat.mul_le_mul (by omega) (by omega)
        omega
      have := sort_in N (DL9_4 N m) sz ps (fw sz ps) (fw sz ps) (s : Int) (s : Int) (q := fst sz ps) (by omega) N.1 0 (srtd (fst sz ps) s) (by omega) (by have : N.1 = 1000000 := rfl; omega) (by omega)
      rw [show ((0 : Nat) : Int) = 0 from rfl, List.drop_zero] at this
      rw [dlt_t hlt, cond_true]
      refine Eq.trans this ?_
      rw [wr_succ (by omega)]
      exact sort_loop hj m (s + 1) (by omega) (by omega)
    · have he : s = fw sz ps := by omega
      subst he
      have ho : Ord ps (srtd (fst sz ps) (fw sz ps)) := by
        have := srtd_ord hp
        rw [hmy] at this
        exact this
      have hff := srtd_ff hp (fw sz ps) (by omega)
      obtain ⟨hpl, hm2⟩ := ffA_pln hj ho
      have hge := fw_le hpl
      unfold ffA at hm2 hge hpl
      have hlen := ho.len
      have hm3 : mny (tid [] (ffo sz ps (srtd (fst sz ps) (fw sz ps)) (zer ps.length, [])).1) = fw sz ps := by omega
      rw [dlt_f hlt, cond_false, show (((srtd (fst sz ps) (fw sz ps)).length : Int) != (ps.length : Int)) = false by simp [hlen], cond_false, Fit_eq hj ho, Option.bind_some]
      unfold ffA
      rw [sheetsOf_eq hpl, hm3]
      simp only [beq_self_eq_true, cond_true, Option.bind_some, works_eq]
theorem half_loop {sz : Int} {ps : List Int} (hj : Job sz ps) (plan L : List Int) (hL : L.length ≤ 8) (hr : ∀ x ∈ L, 0 ≤ x ∧ x < sz) (hone : hlf sz L ≤ 1) (hpl : Pln sz ps plan) : ∀ (m k : Nat) (a : Int), k ≤ L.length → L.length - k < m → 0 ≤ a → a + hlf sz (L.drop k) ≤ 1 →
    DL9_2 N m sz ps a (L.length : Int) (k : Int) plan L = some true
  | 0, k, a, _, h, _, _ => by omega
  | m + 1, k, a, hk, h, ha, hh => by
    have hhi := hj.hi
    have hlo := hj.lo
    have h8 := hj.len
    rw [DL9_2_succ]
    unfold DF9_2
    by_cases hlt : k < L.length
    · have hx := hr _ (List.getElem_mem hlt)
      have hhr := hlf_rng sz (L.drop (k + 1))
      rw [drop_cons hlt] at hh
      simp only [hlf] at hh
      rw [dlt_t hlt, cond_true, inB_nat hlt, cond_true, idx_nat hlt, Option.bind_some, wr_ok (x := 2 * L[k]) (by omega) (by omega)]
      unfold DL9_3
      rw [wr_succ (by omega)]
      by_cases e : sz ≤ 2 * L[k]
      · rw [if_pos e] at hh
        rw [decide_eq_true (show 2 * L[k] ≥ sz from e), cond_true, wr_ok (x := a + 1) (by omega) (by omega)]
        exact half_loop hj plan L hL hr hone hpl m (k + 1) (a + 1) (by omega) (by omega) (by omega) (by omega)
      · rw [if_neg e] at hh
        rw [decide_eq_false (show ¬ 2 * L[k] ≥ sz from e), cond_false]
        exact half_loop hj plan L hL hr hone hpl m (k + 1) a (by omega) (by omega) ha (by omega)
    · rw [List.drop_of_length_le (by omega)] at hh
      simp only [hlf] at hh
      have hb : ∀ p ∈ ps, 1 ≤ p ∧ p ≤ 24 := fun p hp => by have := hj.ok p hp; omega
      have ho : Ord ps (fal ps) := fal_perm ps
      obtain ⟨hfp, hfm⟩ := ffA_pln hj ho
      have hfd := ffd hj ho ((fal_sort ps).imp (fun h => by unfold Fbf at h; omega)) (fst_pln hj)
      have hmy := fst_mny hj
      have hfl := (fst_pln hj).len
      have hge := fw_le hpl
      obtain ⟨f1, f2, f3⟩ := fw_spec hj
      rw [hmy] at hfd
      rw [dlt_f hlt, cond_false, Fewest_eq, Option.bind_some, First_eq, Option.bind_some, falling_eq hN1 hb h8, Option.bind_some, Fit_eq hj ho, Option.bind_some, fwS_eq hj, fsS_eq hj, decide_eq_false (show ¬ a > 1 by omega)]
      simp only [bne_self_eq_false, beq_self_eq_true, cond_true, Option.bind_some]
      rw [show (((fst sz ps).length : Int) != (ps.length : Int)) = false by simp [hfl]]
      simp only [beq_self_eq_true, cond_true, Option.bind_some]
      rw [decide_eq_false (show ¬ ((fw sz ps : Nat) : Int) < 0 by omega), decide_eq_false (show ¬ ((fw sz ps : Nat) : Int) > 8 by omega), sheetsOf_eq hpl, sheetsOf_eq hfp, sheetsOf_eq (fst_pln hj), hmy, hfm]
      simp only [beq_self_eq_true, cond_true, Option.bind_some]
      rw [decide_eq_false (show ¬ mny plan < (fw sz ps : Int) by omega), wr_ok (x := 2 * ((ffA sz ps (fal ps)).2.length : Int)) (by omega) (by omega), wr_ok (x := 3 * (fw sz ps : Int)) (by omega) (by omega), decide_eq_false (show ¬ 2 * ((ffA sz ps (fal ps)).2.length : Int) > 3 * (fw sz ps : Int) by omega)]
      simp only [beq_self_eq_true, cond_true, Option.bind_some, bne_self_eq_false, cond_false]
      exact sort_loop hj N.1 0 (by omega) (by have : N.1 = 1000000 := rfl; omega)
theorem fi_pair {sz : Int} {ps o A L : List Int} (h : FI sz ps o A L) : L.Pairwise (fun x y => x + y < sz) := by
  rw [List.pairwise_iff_getElem]
  intro i j hi hj hij
  exact h.two i j hi hj (by omega)
theorem ord_loop {sz : Int} {ps : List Int} (hj : Job sz ps) {v : B8} (hv : ∀ x ∈ bl v, By x) : ∀ (m i : Nat) (a : List Int), i ≤ ps.length → ps.length - i < m → a.Perm ((List.range i).map fun i : Nat => (i : Int)) →
    DL9_1 N m sz ps (ps.length : Int) (i : Int) v.1 v.2.1 v.2.2.1 v.2.2.2.1 v.2.2.2.2.1 v.2.2.2.2.2.1 v.2.2.2.2.2.2.1 v.2.2.2.2.2.2.2 (a ++ List.replicate (ps.length - i) 0) = some true
  | 0, i, a, _, h, _ => by omega
  | m + 1, i, a, hi, hm, h => by
    have h8 := hj.len
    have hal : a.length = i := by rw [h.length_eq]; simp
    rw [DL9_1_succ]
    unfold DF9_1
    by_cases hlt : i < ps.length
    · obtain ⟨p1, p2, p3⟩ := pick_ok hv (show i < 8 by omega)
      have hrep : List.replicate (ps.length - i) (0 : Int) = 0 :: List.replicate (ps.length - (i + 1)) 0 := by
        rw [← List.replicate_succ]; congr 1; omega
      have hset : (a ++ List.replicate (ps.length - i) 0).set (Int.toNat (i : Int)) (i : Int) = (a ++ [(i : Int)]) ++ List.replicate (ps.length - (i + 1)) 0 := by
        rw [hrep, Int.toNat_natCast, set_at hal, List.append_assoc, List.singleton_append]
      have hg0 : idx (a ++ List.replicate (ps.length - i) 0) (i : Int) = some 0 := by rw [hrep]; exact idx_at hal
      have hal2 : (a ++ [(i : Int)]).length = i + 1 := by simp [hal]
      have hperm : (a ++ [(i : Int)]).Perm ((List.range (i + 1)).map fun i : Nat => (i : Int)) := by
        rw [List.range_succ, List.map_append]
        exact h.append_right _
      have hsw := (swp_perm (l := a ++ [(i : Int)]) (i := i) (k := pick v i) (by omega) (by omega)).trans hperm
      have hsa := swp_app (a ++ [(i : Int)]) (List.replicate (ps.length - (i + 1)) 0) (i := i) (k := pick v i) (by omega) (by omega)
      generalize hO : (a ++ [(i : Int)]) ++ List.replicate (ps.length - (i + 1)) 0 = O at *
      have hOl : O.length = ps.length := by rw [← hO]; simp; omega
      have e1 : (O.set i (O.getD (pick v i) 0)).set (pick v i) (O.getD i 0) = swp O i (pick v i) := rfl
      have hk : pick v i < O.length := by omega
      have hi2 : i < O.length := by omega
      have hk3 : pick v i < (O.set i (O.getD (pick v i) 0)).length := by simpa using hk
      have e3 : ∃ y, idx (O.set i (O.getD (pick v i) 0)) (pick v i : Int) = some y := ⟨_, idx_nat hk3⟩
      obtain ⟨y, hy⟩ := e3
      rw [dlt_t hlt, cond_true, inB_nat (by simp; omega), cond_true, hg0, Option.bind_some, inB_nat (show i < 8 by omega), cond_true]
      rw [show idx [v.1, v.2.1, v.2.2.1, v.2.2.2.1, v.2.2.2.2.1, v.2.2.2.2.2.1, v.2.2.2.2.2.2.1, v.2.2.2.2.2.2.2] (i : Int) = some ((bl v).getD i 0) from p1, Option.bind_some, wr_succ (by omega), beq_false_of_ne (show ((i + 1 : Nat) : Int) ≠ 0 by omega), cond_false, p2, hset]
      rw [inB_nat hk, cond_true, idx_nat hk, Option.bind_some, inB_nat hi2, cond_true, idx_nat hi2, Option.bind_some, cond_true, Option.bind_some, Int.toNat_natCast, ← getD_at hk, ← getD_at hi2, inB_nat hk3, cond_true, hy, Option.bind_some, Int.toNat_natCast, e1, hsa]
      exact ord_loop hj hv m (i + 1) _ (by omega) (by omega) hsw
    · have he : i = ps.length := by omega
      subst he
      have ho : Ord ps a := h
      have hfi := ffA_FI hj ho
      obtain ⟨hpl, hmy⟩ := ffA_pln hj ho
      have hlen := hpl.len
      have hL8 : (ffA sz ps a).2.length ≤ 8 := by
        have := ffo_llen sz ps a (zer ps.length, [])
        unfold ffA
        simp only [List.length_nil] at this
        omega
      have hone := hlf_one (fi_pair hfi)
      rw [dlt_f hlt, cond_false, Nat.sub_self, List.replicate_zero, List.append_nil, Filled_eq hj ho, Option.bind_some, Fit_eq hj ho, Option.bind_some]
      simp only [bne_self_eq_false, beq_self_eq_true, cond_true]
      rw [same_eq hN1 (by omega), Option.bind_some, decide_eq_true rfl]
      simp only [Bool.not_true, Option.bind_some, cond_false]
      exact half_loop hj _ _ hL8 hfi.lr hone hpl N.1 0 0 (by omega) (by have : N.1 = 1000000 := rfl; omega) (by omega) (by rw [List.drop_zero]; omega)
theorem any_ok {s : Stp} (h : StpOk s) {v : B8} (hv : ∀ x ∈ bl v, By x) : S9 N s v = some true := by
  rw [S9_D N rfl]
  unfold D9
  obtain ⟨sz, ps, h1, hj, _, _⟩ := made_ok h (most := 8) (by omega)
  have e1 : D48 N s 8 = some (sz, ps) := h1
  have h8 := hj.len
  rw [e1, Option.bind_some]
  simp only []
  rw [decide_eq_true (show (0 : Int) ≤ (ps.length : Int) by omega), decide_eq_true (show (ps.length : Int) ≤ (ps.length : Int) by omega), decide_eq_true (show (ps.length : Int) ≤ lim by unfold lim; omega), Int.toNat_natCast, List.length_replicate]
  exact ord_loop hj hv N.1 0 [] (by omega) (by have : N.1 = 1000000 := rfl; omega) (List.Perm.refl _)
end Go.Proofs.YtgmonagekfjnmaaDoor
