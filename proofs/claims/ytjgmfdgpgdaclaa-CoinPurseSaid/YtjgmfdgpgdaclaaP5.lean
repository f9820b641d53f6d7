/- Texts of this claim, joined: ViS to G37. -/
import Derived.Carry
import Derived.JoinedCond
import Derived.KernelRfl
import Derived.LoopIn
import Derived.LoopNIn
import Derived.Maps.Ext
import Derived.Maps.OwnIn
import Derived.Maps.RangeWalk
import Derived.Maps.Views
import Derived.OpenShut
import Derived.OwnWalkIn
import Derived.ProofKit
import Derived.RangeFuncBound
import Derived.RangeFuncBox
import Derived.RangeFuncCalls
import Derived.RangeFuncLeaves
import Derived.RangeFuncNested
import Derived.Shelf.Abstract
import Derived.Shelf.SlMaps.Clone
import Derived.TacticsInMore
import Derived.Test.YtjgmfdgpgdaclaaProg
import Derived.WalkKit
import Derived.Test.YtjgmfdgpgdaclaaP4
/-
  Vi: functions that write what they are handed: a contract out of a run.
-/
set_option linter.unusedVariables false
set_option linter.unusedSimpArgs false
namespace Go.Vi
open Op
section
variable {P : Program} {E : Env} {x : Cx} {γ γ' : Gam} {w w0 : World} {a : Act} {st st' : St} {A A0 A1 : Nat → Prop}
variable {Q : Exit → Act → World → Prop} {H H' : Heap} {ρ : Type} {k : St → Option ρ} {r : ρ}
theorem updAll_in {H : Heap} : ∀ {L : List (Nat × O)} {k : Nat} {ob : O}, (L.map (·.1)).Nodup → (k, ob) ∈ L → updAll H L k = some ob
  | [], _, _, _, h => by cases h
  | (k', ob') :: L, k, ob, hn, h => by
    obtain ⟨h1, h2⟩ := List.nodup_cons.1 hn
    simp only [updAll]
    rcases List.mem_cons.1 h with h | h
    · cases h
      exact upd_self _ _ _
    · have hne : k ≠ k' := fun e => h1 (by
        simp only
        rw [← e]
        exact List.mem_map.2 ⟨(k, ob), h, rfl⟩)
      rw [upd_ne _ _ hne]
      exact updAll_in h2 h
def qksCnt : List QK → Nat
  | [] => 0
  | k :: r => k.cnt + qksCnt r
theorem boxes_keys : ∀ (n : Nat) (l : List Sh) (y : capsDen l), (boxes n l y).map (·.1) = List.range' (pinLo + n) l.length
  | _, [], _ => rfl
  | n, s :: r, y => by
    simp only [boxes, List.map_cons, List.length_cons, List.range'_succ]
    rw [boxes_keys (n + 1) r y.2, Nat.add_assoc]
theorem objs_keys (n : Nat) (k : QK) (y : k.den) : (k.objs n y).map (·.1) = List.range' (pinLo + n) k.cnt := by
  cases k with
  | pl k => rfl
  | oa e => rfl
  | ob s => rfl
  | «of» g caps => exact boxes_keys n caps y
  | fp g caps => exact boxes_keys n caps y
  | sf f cds => rfl
theorem qksH_keys : ∀ (n : Nat) (l : List QK) (y : qksDen l), (qksH n l y).map (·.1) = List.range' (pinLo + n) (qksCnt l)
  | _, [], _ => rfl
  | n, k :: r, y => by
    simp only [qksH, List.map_append, objs_keys, qksH_keys (n + k.cnt) r, qksCnt]
    rw [← Nat.add_assoc, List.range'_append_1]
theorem boxOf_io {s : Sh} {v : V} {y : s.den} {i : Info} {u : Value} (h : boxOf s v = some y) (hv : IoV w A0 v i u) : (∃ b c, i = .at b c ∧ u = .pointer (some ⟨b, 0, none⟩)) ∧ objR w A0 (.box (cells s y)) i := by
  unfold boxOf at h
  split at h
  · rename_i cs
    obtain ⟨⟨b, c, rfl, hu⟩, cur, et, h1, h2⟩ := hv
    exact ⟨⟨b, c, rfl, hu⟩, cur, et, h1, CR.of_VRs s y _ (VRs.of_ofC s cs y _ h h2)⟩
  · cases h
/-- The things that are handed in, one by one: the value in the slot, and what it stands for. -/
theorem boxes_VR : ∀ (n : Nat) (l : List Sh) (vs : List V) (is : List Info) (us : List Value) (y : capsDen l), boxesOf l vs = some y → IoL w A0 vs is us → (∀ j i, is[j]? = some i → γ (pinLo + (n + j)) = some i) →
    All2 (VR1 γ w A H) (ptrs n l) us ∧ is.length = l.length ∧ ∀ j i, is[j]? = some i → ∃ ob, (pinLo + (n + j), ob) ∈ boxes n l y ∧ objR w A0 ob i
  | n, [], [], [], [], y, h, hv, hg => ⟨trivial, rfl, by simp⟩
  | n, s :: l, v :: vs, i :: is, u :: us, y, h, hv, hg => by
    simp only [boxesOf] at h
    obtain ⟨y1, h1, h⟩ := Option.bind_eq_some_iff.1 h
    obtain ⟨y2, h2, h⟩ := Option.bind_eq_some_iff.1 h
    cases h
    obtain ⟨⟨b, c, hi, hu⟩, ho⟩ := boxOf_io h1 hv.1
    obtain ⟨i1, i2, i3⟩ := boxes_VR (n + 1) l vs is us y2 h2 hv.2 fun j i' hj => by
      have := hg (j + 1) i' (by simpa using hj)
      rwa [show n + 1 + j = n + (j + 1) by omega]
    refine ⟨⟨⟨b, c, by rw [← hi]; exact hg 0 i (by simp), hu⟩, i1⟩, by simp [i2], fun j i' hj => ?_⟩
    cases j with
    | zero =>
      simp at hj
      subst hj
      exact ⟨_, by simp [boxes], ho⟩
    | succ j =>
      obtain ⟨ob, hm, hr⟩ := i3 j i' (by simpa using hj)
      rw [show n + 1 + j = n + (j + 1) by omega] at hm
      exact ⟨ob, by simp [boxes, hm], hr⟩
  | _, [], _ :: _, _, _, _, h, _, _ => by cases h
  | _, _ :: _, [], _, _, _, h, _, _ => by cases h
  | _, [], [], _ :: _, _, _, _, h, _ => by exact h.elim
  | _, [], [], [], _ :: _, _, _, h, _ => h.elim
  | _, _ :: _, _ :: _, [], _, _, _, h, _ => h.elim
  | _, _ :: _, _ :: _, _ :: _, [], _, _, h, _ => h.elim
theorem PK.val_refs (pk : PK) (y : pk.den) (k : Nat) : refs k (pk.val y) = false := by
  cases pk with
  | c s =>
    simp only [PK.val]
    cases hs : s.agg with
    | true => rfl
    | false =>
      simp only [cond_false]
      split <;> rfl
  | p s => rfl
  | f g caps =>
    have : ∀ (l : List Sh) (y : capsDen l), refsAny k (capsV l y) = false := by
      intro l
      induction l with
      | nil => intro _; rfl
      | cons s l ih => intro y; exact ih y.2
    exact this caps y
theorem PtrR.gam (hG : ∀ k i, γ k = some i → γ' k = some i) : ∀ (k : Nat) (u : Value), PtrR γ k u → PtrR γ' k u := by
  rintro k u ⟨b, c, h1, h2⟩
  exact ⟨b, c, hG k _ h1, h2⟩
theorem CDR.gam (hG : ∀ k i, γ k = some i → γ' k = some i) {b : Nat} : ∀ (c : CD) (u : Value), CDR γ w A b c u → CDR γ' w A b c u := by
  intro c u h
  cases c with
  | b k => exact PtrR.gam hG k u h
  | s => exact h
  | v g ks =>
    obtain ⟨b', us, h1, h2, h3⟩ := h
    exact ⟨b', us, h1, h2, h3.mono (PtrR.gam hG)⟩
theorem ptrs_CDR {b : Nat} : ∀ (n : Nat) (l : List Sh) (us : List Value), All2 (VR1 γ w A H) (ptrs n l) us → All2 (CDR γ w A b) (pinBs n l) us
  | _, [], [], _ => trivial
  | n, _ :: l, u :: us, h => ⟨h.1, ptrs_CDR (n + 1) l us h.2⟩
  | _, [], _ :: _, h => h.elim
  | _, _ :: _, [], h => h.elim
theorem qks_VR {is0 : List Info} (hG : ∀ k i, pinG is0 k = some i → γ k = some i) (hA : ∀ b, A0 b → A b) (hH : ∀ k ob, (k, ob) ∈ (qksH 0 ([] : List QK) ()) → H k = some ob) : ∀ (l : List QK) (n : Nat) (vs : List V) (is : List Info) (us : List Value) (y : qksDen l), qksArg l vs = some y → IoRel w A0 is0 (l.map QK.flag) vs is us →
    (∀ j i, is[j]? = some i → γ (pinLo + (n + j)) = some i) → (∀ p ∈ qksH n l y, H p.1 = some p.2) →
    All2 (VR γ w A H) (qksV n l y) us ∧ is.length = qksCnt l ∧ ∀ j i, is[j]? = some i → ∃ ob, (pinLo + (n + j), ob) ∈ qksH n l y ∧ objR w A0 ob i
  | [], n, [], [], [], y, h, hv, hg, hH => ⟨trivial, rfl, by simp⟩
  | .pl k :: l, n, v :: vs, is, u :: us, y, h, hv, hg, hH => by
    simp only [qksArg] at h
    obtain ⟨y1, h1, h⟩ := Option.bind_eq_some_iff.1 h
    obtain ⟨y2, h2, h⟩ := Option.bind_eq_some_iff.1 h
    cases h
    obtain ⟨hv1, hv2⟩ := hv
    obtain ⟨i1, i2, i3⟩ := qks_VR hG hA (fun _ _ h => by cases h) l (n + 0) vs is us y2 h2 hv2 hg fun p hp => hH p (by simpa [qksH, QK.objs, QK.cnt] using hp)
    refine ⟨⟨?_, i1⟩, by simp [qksCnt, QK.cnt, i2], fun j i hj => ?_⟩
    · have h3 : VR (pinG is0) w A0 emp (k.val y1) u := PK.arg_val h1 hv1
      refine VR.keyr _ _ (fun q hq => by
        have hq' : refs q (k.val y1) = true := hq
        rw [PK.val_refs] at hq'
        cases hq') (VR.mono (fun b hb => ⟨hA b hb, rfl⟩) _ _ h3)
    · obtain ⟨ob, hm, hr⟩ := i3 j i hj
      exact ⟨ob, by simpa [qksH, QK.objs, QK.cnt] using hm, hr⟩
  | .oa e :: l, n, v :: vs, [], u :: us, y, h, hv, hg, hH => by
    cases v with
    | fn g caps => simp only [qksArg, QK.arg, Option.bind_none] at h; cases h
    | fpb g caps => simp only [qksArg, QK.arg, Option.bind_none] at h; cases h
    | _ => exact hv.elim
  | .oa e :: l, n, v :: vs, i :: is, u :: us, y, h, hv, hg, hH => by
    simp only [qksArg] at h
    obtain ⟨y1, h1, h⟩ := Option.bind_eq_some_iff.1 h
    obtain ⟨y2, h2, h⟩ := Option.bind_eq_some_iff.1 h
    cases h
    simp only [QK.arg] at h1
    split at h1
    · rename_i e' xs t
      obtain ⟨he, rfl⟩ := castL_eq' h1
      subst he
      obtain ⟨hv1, hv2⟩ : IoV w A0 (.c (.sl e' xs t)) i u ∧ IoRel w A0 is0 (l.map QK.flag) vs is us := hv
      obtain ⟨i1, i2, i3⟩ := qks_VR hG hA (fun _ _ h => by cases h) l (n + 1) vs is us y2 h2 hv2 (fun j i' hj => by
        have := hg (j + 1) i' (by simpa using hj)
        rwa [show n + 1 + j = n + (j + 1) by omega]) fun p hp => hH p (by simp only [qksH, QK.cnt, List.mem_append]; exact .inr hp)
      refine ⟨⟨⟨i, e', xs, false, hg 0 i (by simp), hH (pinLo + n, .arr e' xs false) (by simp [qksH, QK.objs]), hv1.1⟩, i1⟩, by simp [qksCnt, QK.cnt, i2]; omega, fun j i' hj => ?_⟩
      cases j with
      | zero =>
        simp at hj
        subst hj
        exact ⟨_, by simp [qksH, QK.objs], hv1.2⟩
      | succ j =>
        obtain ⟨ob, hm, hr⟩ := i3 j i' (by simpa using hj)
        rw [show n + 1 + j = n + (j + 1) by omega] at hm
        exact ⟨ob, by simp only [qksH, QK.cnt, List.mem_append]; exact .inr hm, hr⟩
    · cases h1
  | .ob s :: l, n, v :: vs, [], u :: us, y, h, hv, hg, hH => by
    cases v with
    | fn g caps => simp only [qksArg, QK.arg, boxOf, Option.bind_none] at h; cases h
    | fpb g caps => simp only [qksArg, QK.arg, boxOf, Option.bind_none] at h; cases h
    | _ => exact hv.elim
  | .ob s :: l, n, v :: vs, i :: is, u :: us, y, h, hv, hg, hH => by
    simp only [qksArg] at h
    obtain ⟨y1, h1, h⟩ := Option.bind_eq_some_iff.1 h
    obtain ⟨y2, h2, h⟩ := Option.bind_eq_some_iff.1 h
    cases h
    obtain ⟨cs, rfl⟩ : ∃ cs, v = .iptr cs := by
      simp only [QK.arg, boxOf] at h1
      split at h1
      · exact ⟨_, rfl⟩
      · cases h1
    obtain ⟨hv1, hv2⟩ : IoV w A0 (.iptr cs) i u ∧ IoRel w A0 is0 (l.map QK.flag) vs is us := hv
    obtain ⟨⟨b, c, hi, hu⟩, ho⟩ := boxOf_io (s := s) (y := y1) (v := .iptr cs) h1 hv1
    obtain ⟨i1, i2, i3⟩ := qks_VR hG hA (fun _ _ h => by cases h) l (n + 1) vs is us y2 h2 hv2 (fun j i' hj => by
      have := hg (j + 1) i' (by simpa using hj)
      rwa [show n + 1 + j = n + (j + 1) by omega]) fun p hp => hH p (by simp only [qksH, QK.cnt, List.mem_append]; exact .inr hp)
    refine ⟨⟨⟨b, c, by rw [← hi]; exact hg 0 i (by simp), hu⟩, i1⟩, by simp [qksCnt, QK.cnt, i2]; omega, fun j i' hj => ?_⟩
    cases j with
    | zero =>
      simp at hj
      subst hj
      exact ⟨_, by simp [qksH, QK.objs], ho⟩
    | succ j =>
      obtain ⟨ob, hm, hr⟩ := i3 j i' (by simpa using hj)
      rw [show n + 1 + j = n + (j + 1) by omega] at hm
      exact ⟨ob, by simp only [qksH, QK.cnt, List.mem_append]; exact .inr hm, hr⟩
  | .of g caps :: l, n, v :: vs, is, u :: us, y, h, hv, hg, hH => by
    simp only [qksArg] at h
    obtain ⟨y1, h1, h⟩ := Option.bind_eq_some_iff.1 h
    obtain ⟨y2, h2, h⟩ := Option.bind_eq_some_iff.1 h
    cases h
    simp only [QK.arg] at h1
    split at h1
    · rename_i g' vs'
      obtain ⟨hgg, h1⟩ := cond_some h1 rfl
      have := Nat.eq_of_beq_eq_true hgg
      subst this
      obtain ⟨is1, is2, us', rfl, hu, hv1, hv2⟩ := hv
      obtain ⟨j1, j2, j3⟩ := boxes_VR (γ := γ) (A := A) (H := H) n caps vs' is1 us' y1 h1 hv1 fun j i hj => hg j i (by
        rw [List.getElem?_append_left (List.getElem?_eq_some_iff.1 hj).1]
        exact hj)
      obtain ⟨i1, i2, i3⟩ := qks_VR hG hA (fun _ _ h => by cases h) l (n + caps.length) vs is2 us y2 h2 hv2 (fun j i' hj => by
        have := hg (caps.length + j) i' (by
          rw [List.getElem?_append_right (by omega), j2, show caps.length + j - caps.length = j by omega]
          exact hj)
        rwa [show n + caps.length + j = n + (caps.length + j) by omega]) fun p hp => hH p (by simp only [qksH, QK.cnt, List.mem_append]; exact .inr hp)
      refine ⟨⟨⟨us', hu, j1⟩, i1⟩, by simp [qksCnt, QK.cnt, i2, j2], fun j i' hj => ?_⟩
      rcases Nat.lt_or_ge j is1.length with hlt | hge
      · rw [List.getElem?_append_left hlt] at hj
        obtain ⟨ob, hm, hr⟩ := j3 j i' hj
        exact ⟨ob, by simp only [qksH, QK.objs, List.mem_append]; exact .inl hm, hr⟩
      · rw [List.getElem?_append_right hge] at hj
        obtain ⟨ob, hm, hr⟩ := i3 (j - is1.length) i' hj
        rw [show n + caps.length + (j - is1.length) = n + j by omega] at hm
        exact ⟨ob, by simp only [qksH, QK.cnt, List.mem_append]; exact .inr hm, hr⟩
    · cases h1
  | .fp g caps :: l, n, v :: vs, is, u :: us, y, h, hv, hg, hH => by
    simp only [qksArg] at h
    obtain ⟨y1, h1, h⟩ := Option.bind_eq_some_iff.1 h
    obtain ⟨y2, h2, h⟩ := Option.bind_eq_some_iff.1 h
    cases h
    simp only [QK.arg] at h1
    split at h1
    · rename_i g' css
      obtain ⟨hgg, h1⟩ := cond_some h1 rfl
      have := Nat.eq_of_beq_eq_true hgg
      subst this
      obtain ⟨is1, is2, us', b, rfl, hu, hbox, hv1, hv2⟩ := hv
      obtain ⟨j1, j2, j3⟩ := boxes_VR (γ := γ) (A := A) (H := H) n caps (css.map .iptr) is1 us' y1 h1 hv1 fun j i hj => hg j i (by
        rw [List.getElem?_append_left (List.getElem?_eq_some_iff.1 hj).1]
        exact hj)
      obtain ⟨i1, i2, i3⟩ := qks_VR hG hA (fun _ _ h => by cases h) l (n + caps.length) vs is2 us y2 h2 hv2 (fun j i' hj => by
        have := hg (caps.length + j) i' (by
          rw [List.getElem?_append_right (by omega), j2, show caps.length + j - caps.length = j by omega]
          exact hj)
        rwa [show n + caps.length + j = n + (caps.length + j) by omega]) fun p hp => hH p (by simp only [qksH, QK.cnt, List.mem_append]; exact .inr hp)
      refine ⟨⟨⟨b, us', hu, hbox.mono (fun b hb => ⟨hA b hb, rfl⟩), ptrs_CDR n caps us' j1⟩, i1⟩, by simp [qksCnt, QK.cnt, i2, j2], fun j i' hj => ?_⟩
      rcases Nat.lt_or_ge j is1.length with hlt | hge
      · rw [List.getElem?_append_left hlt] at hj
        obtain ⟨ob, hm, hr⟩ := j3 j i' hj
        exact ⟨ob, by simp only [qksH, QK.objs, List.mem_append]; exact .inl hm, hr⟩
      · rw [List.getElem?_append_right hge] at hj
        obtain ⟨ob, hm, hr⟩ := i3 (j - is1.length) i' hj
        rw [show n + caps.length + (j - is1.length) = n + j by omega] at hm
        exact ⟨ob, by simp only [qksH, QK.cnt, List.mem_append]; exact .inr hm, hr⟩
    · cases h1
  | .sf f cds :: l, n, v :: vs, is, u :: us, y, h, hv, hg, hH => by
    simp only [qksArg] at h
    obtain ⟨y1, h1, h⟩ := Option.bind_eq_some_iff.1 h
    obtain ⟨y2, h2, h⟩ := Option.bind_eq_some_iff.1 h
    cases h
    obtain ⟨hv1, hv2⟩ := hv
    obtain ⟨i1, i2, i3⟩ := qks_VR hG hA (fun _ _ h => by cases h) l (n + 0) vs is us y2 h2 hv2 hg fun p hp => hH p (by simpa [qksH, QK.objs, QK.cnt] using hp)
    refine ⟨⟨?_, i1⟩, by simp [qksCnt, QK.cnt, i2], fun j i hj => ?_⟩
    · simp only [QK.arg] at h1
      split at h1
      · rename_i f' cds'
        obtain ⟨hd, h1⟩ := cond_some h1 rfl
        rw [Bool.and_eq_true, decide_eq_true_eq] at hd
        obtain ⟨hd1, rfl⟩ := hd
        have := Nat.eq_of_beq_eq_true hd1
        subst this
        obtain ⟨b, us', e1, e2, e3⟩ := hv1
        have hA' : ∀ b, A0 b → A b ∧ w.heap[b]? = w.heap[b]? := fun b hb => ⟨hA b hb, rfl⟩
        exact ⟨b, us', e1, e2.mono hA', (e3.mono (CDR.mono hA')).mono (CDR.gam hG)⟩
      · cases h1
    · obtain ⟨ob, hm, hr⟩ := i3 j i hj
      exact ⟨ob, by simpa [qksH, QK.objs, QK.cnt] using hm, hr⟩
  | [], _, _ :: _, _, _, _, h, _, _, _ => by cases h
  | _ :: _, _, [], _, _, _, h, _, _, _ => by cases h
  | [], _, [], _ :: _, _, _, _, h, _, _ => h.elim
  | [], _, [], [], _ :: _, _, _, h, _, _ => h.elim
  | .pl _ :: _, _, _ :: _, [], [], _, _, h, _, _ => h.elim
  | .pl _ :: _, _, _ :: _, _ :: _, [], _, _, h, _, _ => h.elim
  | .oa _ :: _, _, v :: _, [], [], _, _, h, _, _ => by cases v <;> exact h.elim
  | .oa _ :: _, _, v :: _, _ :: _, [], _, _, h, _, _ => by cases v <;> exact h.elim
  | .ob _ :: _, _, v :: _, [], [], _, _, h, _, _ => by cases v <;> exact h.elim
  | .ob _ :: _, _, v :: _, _ :: _, [], _, _, h, _, _ => by cases v <;> exact h.elim
  | .of _ _ :: _, _, v :: _, [], [], _, _, h, _, _ => by cases v <;> exact h.elim
  | .of _ _ :: _, _, v :: _, _ :: _, [], _, _, h, _, _ => by cases v <;> exact h.elim
  | .fp _ _ :: _, _, v :: _, [], [], _, _, h, _, _ => by cases v <;> exact h.elim
  | .fp _ _ :: _, _, v :: _, _ :: _, [], _, _, h, _, _ => by cases v <;> exact h.elim
  | .sf _ _ :: _, _, _ :: _, [], [], _, _, h, _, _ => h.elim
  | .sf _ _ :: _, _, _ :: _, _ :: _, [], _, _, h, _, _ => h.elim
theorem qksV_len : ∀ (n : Nat) (l : List QK) (xs : qksDen l), (qksV n l xs).length = l.length
  | _, [], _ => rfl
  | n, k :: l, xs => by simp [qksV, qksV_len (n + k.cnt) l]
theorem qksCnt_ods : ∀ (l : List QK), (l.flatMap QK.ods).length = qksCnt l
  | [] => rfl
  | k :: l => by
    rw [List.flatMap_cons, List.length_append, qksCnt_ods l, qksCnt]
    congr 1
    cases k <;> simp [QK.ods, QK.cnt]
theorem OD.get_R {d : OD} {ob : O} {y : d.den} {i : Info} (h : d.get ob = some y) (ho : objR w A ob i) (hA : ∀ b, A b → A1 b) : OutR w A1 (d.out y) i := by
  have hA' : ∀ b, A b → A1 b ∧ w.heap[b]? = w.heap[b]? := fun b hb => ⟨hA b hb, rfl⟩
  cases d with
  | a e =>
    cases ob with
    | arr e' ys n =>
      obtain ⟨he, rfl⟩ := castL_eq' h
      subst he
      exact (objR.mono hA' _ i (fun _ _ _ => rfl) ho).weak
    | _ => cases h
  | b s =>
    cases ob with
    | box cs =>
      cases i with
      | emp => exact ho.elim
      | «at» b c =>
        obtain ⟨cur, et, h1, h2⟩ := ho
        exact ⟨cur, et, h1, (CR.of_VRs s y _ (VRs.of_ofC s cs y _ h h2)).mono (CR.mono hA')⟩
    | _ => cases h
theorem odsGet_R (hr : RS x γ st a w) (hA : ∀ b, Av x γ w b → A1 b) : ∀ (l : List OD) (n : Nat) (is : List Info) (y : odsDen l), odsGet st.hp n l = some y → is.length = l.length → (∀ j i, is[j]? = some i → x.pin (pinLo + (n + j)) = some i) →
    All2 (OutR w A1) (outsOf l y) is ∧ ∀ j i, is[j]? = some i → γ (pinLo + (n + j)) = some i
  | [], n, [], y, h, hl, hp => ⟨trivial, by simp⟩
  | d :: l, n, i :: is, y, h, hl, hp => by
    simp only [odsGet] at h
    split at h
    · rename_i ob hob
      obtain ⟨y1, h1, h⟩ := Option.bind_eq_some_iff.1 h
      obtain ⟨y2, h2, h⟩ := Option.bind_eq_some_iff.1 h
      cases h
      have hpin := hr.inv.pin (pinLo + n) i (hp 0 i (by simp)) (by rw [hob]; simp)
      obtain ⟨ob', h3, h4⟩ := hr.inv.own _ _ hpin
      rw [hob] at h3
      cases h3
      obtain ⟨j1, j2⟩ := odsGet_R hr hA l (n + 1) is y2 h2 (by simpa using hl) fun j i' hj => by
        have := hp (j + 1) i' (by simpa using hj)
        rwa [show n + 1 + j = n + (j + 1) by omega]
      refine ⟨⟨OD.get_R h1 h4 hA, j1⟩, fun j i' hj => ?_⟩
      cases j with
      | zero =>
        simp at hj
        subst hj
        exact hpin
      | succ j =>
        have := j2 j i' (by simpa using hj)
        rwa [show n + 1 + j = n + (j + 1) by omega] at this
    · cases h
  | [], _, _ :: _, _, _, hl, _ => by simp at hl
  | _ :: _, _, [], _, _, hl, _ => by simp at hl
theorem boxes_no : ∀ (n : Nat) (l : List Sh) (y : capsDen l), ∀ p ∈ boxes n l y, NoOsl p.2
  | _, [], _, p, h => by cases h
  | n, s :: l, y, p, h => by
    simp only [boxes, List.mem_cons] at h
    rcases h with rfl | h
    · exact NoOsl.box (noOsl_cells s y.1)
    · exact boxes_no (n + 1) l y.2 p h
theorem objs_no (n : Nat) (k : QK) (y : k.den) : ∀ p ∈ k.objs n y, NoOsl p.2 := by
  cases k with
  | pl k => intro p h; cases h
  | sf f c => intro p h; cases h
  | oa e => intro p h; simp only [QK.objs, List.mem_singleton] at h; subst h; exact NoOsl.arr
  | ob s => intro p h; simp only [QK.objs, List.mem_singleton] at h; subst h; exact NoOsl.box (noOsl_cells s y)
  | of g caps => exact boxes_no n caps y
  | fp g caps => exact boxes_no n caps y
theorem qksH_no : ∀ (n : Nat) (l : List QK) (y : qksDen l), ∀ p ∈ qksH n l y, NoOsl p.2
  | _, [], _, p, h => by cases h
  | n, k :: l, y, p, h => by
    rcases List.mem_append.1 h with h | h
    · exact objs_no n k y.1 p h
    · exact qksH_no _ l y.2 p h
theorem updAll_mem {k : Nat} {ob : O} : ∀ {L : List (Nat × O)}, updAll emp L k = some ob → ∃ p ∈ L, p.2 = ob
  | [], h => by cases h
  | (k', ob') :: L, h => by
    simp only [updAll, upd] at h
    cases hb : Nat.beq k k' with
    | true => rw [hb] at h; cases h; exact ⟨_, List.mem_cons_self, rfl⟩
    | false =>
      rw [hb] at h
      obtain ⟨p, hp, e⟩ := updAll_mem (L := L) h
      exact ⟨p, List.mem_cons_of_mem _ hp, e⟩
theorem FCio.of_runG (hT : TabOK P E.T) (hE : EqsOK P E.T) (hphi : EnvOK P E) (hpar : EnvPar E) (hm : P.follows .mixedOrders = true) {sc : Scp} {g : FuncId} {fn : Func} {c : Code} {an : Ann} (hsc : ∀ x, ∀ p ∈ occ c an, ScAt P x sc p.1 p.2) {qks : List QK} {rks : List RK} {xs : qksDen qks} {vs : List V}
    {r : rksDen rks × odsDen (qks.flatMap QK.ods)} (hf : P.funcs[g]? = some fn) (hb : fn.body = some c) (hrk : rksOK E.T fn.results.toList rks = true) (hv : qksArg qks vs = some xs)
    (h : runG E sc c an (rtIO rks (qks.flatMap QK.ods)) (fun _ _ => none) (rtIO rks (qks.flatMap QK.ods)) (st1 qks xs fn.ntmps) = some r) : FCio P g (qks.map QK.flag) vs (rets rks r.1) (outsOf (qks.flatMap QK.ods) r.2) := by
  intro w A0 is args hA0 hrel hap hdis hgl
  let M : Nat → Prop := fun b => ∃ i ∈ is, ∃ c, i = .at b c
  let x : Cx := { B := w.heap.size, M := M, A0 := fun b => A0 b ∨ M b, w0 := w, ma := fun _ h => .inr h, pin := fun k => if pinLo ≤ k then is[k - pinLo]? else none,
                  glob := ⟨rfl, hgl.mono (Nat.le_refl _) fun b hb => ⟨.inl hb, rfl⟩⟩,
                  gM := fun g ns hg hM => by
                    obtain ⟨i, hi, c, hic⟩ := hM
                    exact (hdis i hi g c hic).2 (hgl g ns hg).2.1,
                  pinlo := fun k i hk => by
                    have hk' : (if pinLo ≤ k then is[k - pinLo]? else none) = some i := hk
                    split at hk'
                    · assumption
                    · cases hk' }
  let γ : Gam := x.pin
  let H : Heap := updAll emp (qksH 0 qks xs)
  have hpin : ∀ j, γ (pinLo + (0 + j)) = is[j]? := fun j => by
    show (if pinLo ≤ pinLo + (0 + j) then is[pinLo + (0 + j) - pinLo]? else none) = is[j]?
    rw [if_pos (by omega), show pinLo + (0 + j) - pinLo = j by omega]
  have hγ : ∀ k i, γ k = some i → ∃ j, k = pinLo + (0 + j) ∧ is[j]? = some i := by
    intro k i hk
    have hlo := x.pinlo k i hk
    refine ⟨k - pinLo, by omega, ?_⟩
    have := hpin (k - pinLo)
    rw [show pinLo + (0 + (k - pinLo)) = k by omega] at this
    rw [← this]
    exact hk
  have hMA : ∀ b, M b → b < w.heap.size ∧ ¬ A0 b := by
    rintro b ⟨i, hi, c, rfl⟩
    exact hdis _ hi b c rfl
  have hav : ∀ b, A0 b → Av x γ w b := fun b hb => ⟨hA0 b hb, fun _ => .inl hb, fun k c hk => by
    obtain ⟨j, _, hj⟩ := hγ k _ hk
    exact (hMA b ⟨_, List.mem_of_getElem? hj, c, rfl⟩).2 hb⟩
  have hpg : ∀ k i, pinG is k = some i → γ k = some i := by
    intro k i hk
    show (if pinLo ≤ k then is[k - pinLo]? else none) = some i
    unfold pinG at hk
    cases hb : Nat.ble pinLo k with
    | true => rw [hb] at hk; rw [if_pos (Nat.le_of_ble_eq_true hb)]; exact hk
    | false => rw [hb] at hk; cases hk
  have hkeys : ((qksH 0 qks xs).map (·.1)).Nodup := by rw [qksH_keys]; exact List.nodup_range'
  obtain ⟨hV, hlen, hobj⟩ := qks_VR (γ := γ) (H := H) (A := Av x γ w) (is0 := is) hpg hav (fun _ _ h => by cases h) qks 0 vs is args xs hv hrel (fun j i hj => by rw [hpin]; exact hj) (fun p hp => updAll_in hkeys hp)
  have hal := hV.length
  rw [qksV_len] at hal
  have hr : RS x γ (st1 qks xs fn.ntmps) { tmps := args.toArray ++ Array.replicate (fn.ntmps - args.toArray.size) undef, defers := [] } w := by
    refine ⟨⟨Nat.le_refl _, rfl, rfl, rfl, fun b _ _ => rfl, ?_, ?_, ?_, fun k i hk _ => hk, fun k cs off b c ob h1 h2 h3 h4 => by
      obtain ⟨p, hp, e⟩ := updAll_mem h1
      exact absurd h2 (qksH_no 0 qks xs p hp cs off e)⟩, ?_, ?_, rfl⟩
    · intro k i hk
      obtain ⟨j, rfl, hj⟩ := hγ k i hk
      obtain ⟨ob, hm, ho⟩ := hobj j i hj
      exact ⟨ob, updAll_in hkeys hm, objR.mono (fun b hb => ⟨hav b hb, rfl⟩) _ _ (fun _ _ _ => rfl) ho⟩
    · intro k b c hk
      obtain ⟨j, rfl, hj⟩ := hγ k _ hk
      have hm : M b := ⟨_, List.mem_of_getElem? hj, c, rfl⟩
      exact ⟨.inr hm, (hMA b hm).1⟩
    · intro k k' b c c' hk hk'
      obtain ⟨j, rfl, hj⟩ := hγ k _ hk
      obtain ⟨j', rfl, hj'⟩ := hγ k' _ hk'
      have : j = j' := by
        rcases Nat.lt_trichotomy j j' with hlt | he | hlt
        · exfalso
          have h1 := (List.getElem?_eq_some_iff.1 hj)
          have h2 := (List.getElem?_eq_some_iff.1 hj')
          exact List.pairwise_iff_getElem.1 hap j j' h1.1 h2.1 hlt b c c' h1.2 h2.2
        · exact he
        · exfalso
          have h1 := (List.getElem?_eq_some_iff.1 hj)
          have h2 := (List.getElem?_eq_some_iff.1 hj')
          exact List.pairwise_iff_getElem.1 hap j' j h2.1 h1.1 hlt b c' c h2.2 h1.2
      rw [this]
    · simp only [st1, List.length_append, qksV_len, List.length_replicate, Array.size_append, List.size_toArray, Array.size_replicate]
      omega
    · intro t v hv'
      simp only [st1, List.getElem?_append] at hv'
      split at hv'
      · rename_i hlt
        obtain ⟨u, hu, hvr⟩ := hV.get hv'
        have : (args.toArray ++ Array.replicate (fn.ntmps - args.toArray.size) undef).getD t undef = u := by
          have hta : t < args.length := (List.getElem?_eq_some_iff.1 hu).1
          rw [Array.getD_eq_getD_getElem?, Array.getElem?_append_left (by simpa using hta)]
          simp [hu]
        rw [this]
        exact hvr
      · rw [List.getElem?_replicate] at hv'
        split at hv'
        · cases hv'
          trivial
        · cases hv'
  have fin : ∀ st γ' a w', rtIO rks (qks.flatMap QK.ods) st = some r → RS x γ' st a w' → a.defers = [] ∧ ∃ v, (results fn a.tmps).run P w' = .ok v w' ∧
      (GrowsBut is w w' ∧ ∃ js us, v = retVal us ∧ RetRs w w' (newA w w' A0 (js ++ is)) (rets rks r.1) js us ∧ All2 (OutR w' (newA w w' A0 (js ++ is))) (outsOf (qks.flatMap QK.ods) r.2) is) := by
    intro st γ' a w' hrt hr'
    unfold rtIO at hrt
    obtain ⟨hkl, hrt⟩ := cond_some hrt rfl
    obtain ⟨y1, h1, hrt⟩ := Option.bind_eq_some_iff.1 hrt
    obtain ⟨y2, h2, hrt⟩ := Option.bind_eq_some_iff.1 hrt
    cases hrt
    unfold rtG at h1
    obtain ⟨hk, h1⟩ := cond_some h1 rfl
    simp only [rkOK, Bool.and_eq_true] at hk
    have hnd := nodupB_spec hk.1
    have hklo : ∀ k ∈ (rks.flatMap (RK.ownK st)) ++ (rks.flatMap (RK.slK st)), k < pinLo := fun k hkm => Nat.le_of_ble_eq_true (List.all_eq_true.1 hkl k hkm)
    have hpins : ∀ j i, is[j]? = some i → γ' (pinLo + (0 + j)) = some i := by
      obtain ⟨_, j2⟩ := odsGet_R (A1 := Av x γ' w') hr' (fun b hb => hb) (qks.flatMap QK.ods) 0 is y2 h2 (by rw [hlen, qksCnt_ods]) (fun j i hj => by
        have := hpin j
        rw [hj] at this
        exact this)
      exact j2
    -- what the call may not give back lies in blocks of its own
    have hnM : ∀ k b c, k < pinLo → γ' k = some (.at b c) → w.heap.size ≤ b := by
      intro k b c hklt hkb
      rcases (hr'.inv.rng k b c hkb).1 with h | ⟨i, hi, c', rfl⟩
      · exact h
      · exfalso
        obtain ⟨j, hj⟩ := List.getElem?_of_mem hi
        have := hr'.inv.inj k _ b c c' hkb (hpins j _ hj)
        omega
    let js := rks.map (RK.info γ' st)
    have hjs : ∀ i ∈ js, ∀ b c, i = .at b c → ∃ k ∈ rks.flatMap (RK.ownK st), γ' k = some (.at b c) := by
      intro i hi b c he
      obtain ⟨rk, hm, rfl⟩ := List.mem_map.1 hi
      obtain ⟨k, hk, hg⟩ := info_at he
      exact ⟨k, List.mem_flatMap.2 ⟨rk, hm, hk⟩, hg⟩
    have hA1 : ∀ b, Av x γ' w' b → newA w w' A0 (js ++ is) b := by
      intro b hb
      refine ⟨hb.1, fun hlt => ?_, fun i hi c he => ?_⟩
      · rcases hb.2.1 hlt with h | ⟨i, hi, c, rfl⟩
        · exact h
        · exfalso
          obtain ⟨j, hj⟩ := List.getElem?_of_mem hi
          exact hb.2.2 _ c (hpins j _ hj)
      · rcases List.mem_append.1 hi with hi | hi
        · obtain ⟨k, _, hg⟩ := hjs i hi b c he
          exact hb.2.2 k c hg
        · obtain ⟨j, hj⟩ := List.getElem?_of_mem hi
          rw [he] at hj
          exact hb.2.2 _ c (hpins j _ hj)
    have hS : ∀ k ∈ rks.flatMap (RK.slK st), ∀ b c, γ' k = some (.at b c) → newA w w' A0 (js ++ is) b := by
      intro k hkm b c hg
      have hlo := hklo k (List.mem_append.2 (.inr hkm))
      have h5 := hnM k b c hlo hg
      refine ⟨(hr'.inv.rng k b c hg).2, fun hlt => by omega, fun i hi c' he => ?_⟩
      rcases List.mem_append.1 hi with hi | hi
      · obtain ⟨k', hk', hg'⟩ := hjs i hi b c' he
        have := hr'.inv.inj k k' b c c' hg hg'
        subst this
        have h3 := List.all_eq_true.1 hk.2 k hkm
        rw [mem_memN.2 hk'] at h3
        cases h3
      · have := (hMA b ⟨i, hi, c', he⟩).1
        omega
    obtain ⟨us, q1, q2⟩ := RKs_get (w0 := w) hT hr' hA1 rks fn.results.toList y1 hrk h1 hnd (fun k hkm b c hg => hnM k b c (hklo k (List.mem_append.2 (.inl hkm))) hg) hS
    obtain ⟨o1, _⟩ := odsGet_R (A1 := newA w w' A0 (js ++ is)) hr' hA1 (qks.flatMap QK.ods) 0 is y2 h2 (by rw [hlen, qksCnt_ods]) (fun j i hj => by
      have := hpin j
      rw [hj] at this
      exact this)
    refine ⟨hr'.nod, retVal us, results_run q1, ⟨hr'.inv.size, hr'.inv.os, hr'.inv.tape, hr'.inv.output, fun b hb hn => hr'.inv.blk b hb ?_⟩, js, us, rfl, q2, o1⟩
    rintro ⟨i, hi, c, he⟩
    exact hn i hi c he
  refine calls_of_wp hf hb (runG_sound hT hE hphi hpar hm c an (hsc x) _ _ _ _ _ _ _ _ h hr ⟨?_, ?_, ?_⟩)
  · intro st γ a w' hrt hr'
    exact fin st γ a w' hrt hr'
  · intro j st γ a w' hrt hr'
    cases hrt
  · intro st γ a w' hrt hr'
    exact fin st γ a w' hrt hr'
/-! ### What is called -/
def FCios (P : Program) (g : FuncId) (flags : List Bool) (F : List V → (ρ : Type) → (Ret → List Out → Option ρ) → Option ρ) : Prop :=
  ∀ vs ρ (K : Ret → List Out → Option ρ) r, F vs ρ K = some r → ∃ ret outs, K ret outs = some r ∧ FCio P g flags vs ret outs
def Pario1 (F : List V → (ρ : Type) → (Ret → List Out → Option ρ) → Option ρ) : Prop :=
  ∀ vs (ρ : Type) (K : Ret → List Out → Option ρ) r, F vs ρ K = some r → ∃ ret outs, K ret outs = some r ∧ ∀ (ρ' : Type) (K' : Ret → List Out → Option ρ'), F vs ρ' K' = K' ret outs
theorem phioOf_FCios {g : FuncId} {qks : List QK} {rks : List RK} {S : qksDen qks → Option (rksDen rks × odsDen (qks.flatMap QK.ods))} (h : ∀ xs r, S xs = some r → ∀ vs, qksArg qks vs = some xs → FCio P g (qks.map QK.flag) vs (rets rks r.1) (outsOf (qks.flatMap QK.ods) r.2)) :
    FCios P g (qks.map QK.flag) (phioOf qks rks (qks.flatMap QK.ods) S) := by
  intro vs ρ K r hk
  unfold phioOf at hk
  obtain ⟨xs, h1, hk⟩ := Option.bind_eq_some_iff.1 hk
  obtain ⟨y, h2, hk⟩ := Option.bind_eq_some_iff.1 hk
  exact ⟨_, _, hk, h xs y h2 vs h1⟩
theorem phioOf_Pario1 {qks : List QK} {rks : List RK} {ods : List OD} {S : qksDen qks → Option (rksDen rks × odsDen ods)} : Pario1 (phioOf qks rks ods S) := by
  intro vs ρ K r hk
  unfold phioOf at hk
  obtain ⟨xs, h1, hk⟩ := Option.bind_eq_some_iff.1 hk
  obtain ⟨y, h2, hk⟩ := Option.bind_eq_some_iff.1 hk
  refine ⟨_, _, hk, fun ρ' K' => ?_⟩
  simp only [phioOf, h1, Option.bind_some, h2]
/-- The callees that write: which one, by what its arguments are; what is handed in; what it does. -/
structure IoE where
  g : FuncId
  q : List V → Bool
  flags : List Bool
  F : List V → (ρ : Type) → (Ret → List Out → Option ρ) → Option ρ
def iopL : List IoE → FuncId → Option (List Bool)
  | [], _ => none
  | e :: r, g => bif Nat.beq g e.g then some e.flags else iopL r g
def phioL : List IoE → Phio
  | [], _, _, _, _ => none
  | e :: r, g, vs, ρ, K => bif Nat.beq g e.g && e.q vs then e.F vs ρ K else phioL r g vs ρ K
/-- Entries for one function hand in the same. -/
def ioSame : List IoE → Bool
  | [] => true
  | e :: r => r.all (fun e' => !(Nat.beq e'.g e.g) || e'.flags == e.flags) && ioSame r
def IoOK (P : Program) : List IoE → Prop
  | [] => True
  | e :: r => FCios P e.g e.flags e.F ∧ CallOK P e.g ∧ IoOK P r
def IoPar : List IoE → Prop
  | [] => True
  | e :: r => Pario1 e.F ∧ IoPar r
theorem phioL_mem : ∀ {l : List IoE} {g : FuncId} {vs : List V} {ρ : Type} {K : Ret → List Out → Option ρ} {r : ρ}, phioL l g vs ρ K = some r → ∃ e ∈ l, e.g = g ∧ e.F vs ρ K = some r ∧ ∀ (ρ' : Type) (K' : Ret → List Out → Option ρ'), phioL l g vs ρ' K' = e.F vs ρ' K'
  | [], g, vs, ρ, K, r, h => by cases h
  | e :: l, g, vs, ρ, K, r, h => by
    simp only [phioL] at h
    cases hb : Nat.beq g e.g && e.q vs with
    | true =>
      rw [hb] at h
      have hb' := hb
      rw [Bool.and_eq_true] at hb'
      exact ⟨e, by simp, (Nat.eq_of_beq_eq_true hb'.1).symm, h, fun ρ' K' => by simp only [phioL, hb, cond_true]⟩
    | false =>
      rw [hb] at h
      obtain ⟨e', h1, h2, h3, h4⟩ := phioL_mem h
      exact ⟨e', by simp [h1], h2, h3, fun ρ' K' => by simp only [phioL, hb, cond_false]; exact h4 ρ' K'⟩
theorem iopL_mem : ∀ {l : List IoE} {g : FuncId} {fl : List Bool}, iopL l g = some fl → ioSame l = true → ∀ e ∈ l, e.g = g → e.flags = fl
  | [], _, _, h, _, _, _, _ => by cases h
  | e :: l, g, fl, h, hs, e', he', hg => by
    simp only [iopL] at h
    simp only [ioSame, Bool.and_eq_true] at hs
    cases hb : Nat.beq g e.g with
    | true =>
      rw [hb] at h
      cases h
      have hge := Nat.eq_of_beq_eq_true hb
      rcases List.mem_cons.1 he' with rfl | hm
      · rfl
      · have := List.all_eq_true.1 hs.1 e' hm
        rw [hg, hge, Nat.beq_refl] at this
        simpa using this
    | false =>
      rw [hb] at h
      rcases List.mem_cons.1 he' with rfl | hm
      · rw [hg, Nat.beq_refl] at hb
        cases hb
      · exact iopL_mem h hs.2 e' hm hg
theorem IoOK.mem : ∀ {l : List IoE}, IoOK P l → ∀ e ∈ l, FCios P e.g e.flags e.F ∧ CallOK P e.g
  | [], _, _, h => by cases h
  | e :: l, h, e', he' => by
    rcases List.mem_cons.1 he' with rfl | hm
    · exact ⟨h.1, h.2.1⟩
    · exact IoOK.mem h.2.2 e' hm
theorem IoPar.mem : ∀ {l : List IoE}, IoPar l → ∀ e ∈ l, Pario1 e.F
  | [], _, _, h => by cases h
  | e :: l, h, e', he' => by
    rcases List.mem_cons.1 he' with rfl | hm
    · exact h.1
    · exact IoPar.mem h.2 e' hm
theorem envOK (h1 : PhiOK P E.phi) {l : List IoE} (hp : E.phio = phioL l) (hi : E.iop = iopL l) (hs : ioSame l = true) (h2 : IoOK P l) : EnvOK P E := by
  refine ⟨h1, fun g flags vs ρ K r hfl hk => ?_⟩
  rw [hp] at hk
  rw [hi] at hfl
  obtain ⟨e, hm, hg, hF, _⟩ := phioL_mem hk
  have hf := iopL_mem hfl hs e hm hg
  obtain ⟨hc, hcall⟩ := h2.mem e hm
  obtain ⟨ret, outs, q1, q2⟩ := hc vs ρ K r hF
  rw [hg, hf] at q2
  rw [hg] at hcall
  exact ⟨ret, outs, q1, q2, hcall⟩
theorem envPar (h1 : PhiPar E.phi) {l : List IoE} (hp : E.phio = phioL l) (h2 : IoPar l) : EnvPar E := by
  refine ⟨h1, fun g flags vs ρ K r _ hk => ?_⟩
  rw [hp] at hk ⊢
  obtain ⟨e, hm, hg, hF, hall⟩ := phioL_mem hk
  obtain ⟨ret, outs, q1, q2⟩ := h2.mem e hm vs ρ K r hF
  exact ⟨ret, outs, q1, fun ρ' K' => (hall ρ' K').trans (q2 ρ' K')⟩
theorem envOK0 (h1 : PhiOK P E.phi) (hp : E.phio = fun _ _ _ _ => none) (hi : E.iop = fun _ => none) : EnvOK P E :=
  ⟨h1, fun g flags vs ρ K r hfl hk => by rw [hi] at hfl; cases hfl⟩
theorem envPar0 (h1 : PhiPar E.phi) (hp : E.phio = fun _ _ _ _ => none) : EnvPar E :=
  ⟨h1, fun g flags vs ρ K r _ hk => by rw [hp] at hk; cases hk⟩
end
end Go.Vi
/-
  Vi: from what a statement's reading of the arguments says to the data that a contract wants; the given row.
-/
set_option linter.unusedVariables false
set_option linter.unusedSimpArgs false
namespace Go.Vi
open Go.ChangeShapes Go.WideShapes Go.ChangeAt Go.RowKit
def rdL (P : Program) (rd : TypeId → Sh → Bool) : Nat → List (Nat × TypeId) → Sh → Bool
  | off, [(o, t)], s => (Nat.beq o off && Nat.beq (P.cellsOf t) s.nc && rd t s) || (match s with | .pair a .unit => Nat.beq o off && Nat.beq (P.cellsOf t) a.nc && rd t a | _ => false)
  | off, (o, t) :: r, .pair a b => (Nat.beq o off && Nat.beq (P.cellsOf t) a.nc && rd t a) && rdL P rd (off + a.nc) r b
  | _, [], .unit => true
  | _, _, _ => false
/-- Does a type read as this shape? -/
def rdB (P : Program) : Nat → TypeId → Sh → Bool
  | 0, _, _ => false
  | n + 1, t, s =>
    match P.underlying t with
    | some .bool => decide (s = .bool)
    | some (.int k) => decide (s = .int k)
    | some .string => decide (s = .str)
    | some (.slice e) => (match s with | .sl e' => rdB P n e e' && Nat.beq (P.cellsOf e) e'.nc && Nat.ble 1 e'.nc | _ => false)
    | some (.struct fs) => s.agg && Nat.beq (P.cellsOf t) s.nc && rdL P (rdB P n) 0 (fs.toList.map fun f => (f.offset, f.type)) s
    | some (.array m e) => s.agg && Nat.beq (P.cellsOf t) s.nc && rdL P (rdB P n) 0 ((List.range m).map fun i => (i * P.cellsOf e, e)) s
    | _ => false
/-- Numbers lie within their kinds. -/
def Wf : (s : Sh) → s.den → Prop
  | .int k, n => (Lit.int k n).wf = true
  | .sl e, xs => xs.length ≤ 9223372036854775807 ∧ ∀ x ∈ xs, Wf e x
  | .pair a b, x => Wf a x.1 ∧ Wf b x.2
  | .str, s => s.size ≤ 9223372036854775807
  | _, _ => True
theorem mapM_some {α β : Type} {f : α → Option β} : ∀ {l : List α} {ys : List β}, l.mapM f = some ys → All2 (fun a y => f a = some y) l ys
  | [], ys, h => by
    simp at h
    subst h
    trivial
  | a :: l, ys, h => by
    rw [List.mapM_cons] at h
    cases h1 : f a with
    | none => rw [h1] at h; cases h
    | some y =>
      rw [h1] at h
      cases h2 : l.mapM f with
      | none =>
        rw [h2] at h
        cases h
      | some zs =>
        rw [h2] at h
        cases h
        exact ⟨h1, mapM_some h2⟩
theorem All2.unmap {α β γ : Type} {R : β → γ → Prop} {f : α → β} : ∀ {l : List α} {ys : List γ}, All2 (fun a y => R (f a) y) l ys → All2 R (l.map f) ys
  | [], [], _ => trivial
  | _ :: _, _ :: _, h => ⟨h.1, All2.unmap h.2⟩
section
variable {P : Program} {W : World} {H : Type} {enc : TypeId × Value → H} {sp : Nat → Bool} {held : Bool} {A : Nat → Prop}
theorem rdL_sound {rd : TypeId → Sh → Bool} {f : TypeId → List Value → Option (DataW H × List MemPlace)} (IH : ∀ t s cs d, rd t s = true → f t cs = some d → ∃ x : s.den, VRs W A s x cs ∧ Wf s x) (cs : List Value) :
    ∀ (l : List (Nat × TypeId)) (off : Nat) (s : Sh) (ys : List (DataW H × List MemPlace)), rdL P rd off l s = true → All2 (fun p y => f p.2 ((cs.drop p.1).take (P.cellsOf p.2)) = some y) l ys →
      ∃ x : s.den, VRs W A s x ((cs.drop off).take s.nc) ∧ Wf s x
  | [], off, s, ys, h, hy => by
    cases s <;> simp [rdL] at h
    exact ⟨(), by simp [VRs, Sh.nc], trivial⟩
  | [(o, t)], off, s, [y], h, hy => by
    simp only [rdL, Bool.or_eq_true, Bool.and_eq_true] at h
    rcases h with ⟨⟨h1, h2⟩, h3⟩ | h
    · have := Nat.eq_of_beq_eq_true h1
      have h2 := Nat.eq_of_beq_eq_true h2
      subst this
      have hy1 := hy.1
      simp only [h2] at hy1
      exact IH t s _ y h3 hy1
    · cases s with
      | pair a b =>
        cases b with
        | unit =>
          simp only [Bool.and_eq_true] at h
          obtain ⟨⟨h1, h2⟩, h3⟩ := h
          have := Nat.eq_of_beq_eq_true h1
          have h2 := Nat.eq_of_beq_eq_true h2
          subst this
          have hy1 := hy.1
          simp only [h2] at hy1
          obtain ⟨x, hx, hw⟩ := IH t a _ y h3 hy1
          refine ⟨(x, ()), ⟨?_, ?_⟩, hw, trivial⟩
          · simpa [Sh.nc, List.take_take] using hx
          · simp [Sh.nc, VRs]
        | _ => simp at h
      | _ => simp at h
  | (o, t) :: p :: r, off, s, y :: ys, h, hy => by
    cases s with
    | pair a b =>
      simp only [rdL, Bool.and_eq_true] at h
      obtain ⟨⟨⟨h1, h2⟩, h3⟩, h4⟩ := h
      have := Nat.eq_of_beq_eq_true h1
      have h2 := Nat.eq_of_beq_eq_true h2
      subst this
      have hy1 := hy.1
      simp only [h2] at hy1
      obtain ⟨x, hx, hw⟩ := IH t a _ y h3 hy1
      obtain ⟨x2, hx2, hw2⟩ := rdL_sound IH cs (p :: r) _ b ys h4 hy.2
      refine ⟨(x, x2), ⟨?_, ?_⟩, hw, hw2⟩
      · rw [Sh.nc, List.take_take, Nat.min_eq_left (by omega)]
        exact hx
      · rw [Sh.nc, List.drop_take, List.drop_drop, Nat.add_sub_cancel_left]
        exact hx2
    | _ => simp [rdL] at h
  | [_], _, _, [], _, hy => hy.elim
  | [_], _, _, _ :: _ :: _, _, hy => hy.2.elim
  | _ :: _ :: _, _, _, [], _, hy => hy.elim
theorem rows_of {e : Sh} {f : List Value → Option (DataW H × List MemPlace)} (IH : ∀ cs d, f cs = some d → ∃ x : e.den, VRs W A e x cs ∧ Wf e x) {n : Nat} {a : Addr} : ∀ (l : List Nat) (ys : List (DataW H × List MemPlace)),
    All2 (fun i y => (W.cells? 0 (a.add (i * n)) n).bind f = some y) l ys → ∃ xs : List e.den, All2 (fun i x => ∃ us, W.cells? 0 (a.add (i * n)) n = some us ∧ VRs W A e x us) l xs ∧ ∀ x ∈ xs, Wf e x
  | [], [], _ => ⟨[], trivial, by simp⟩
  | i :: l, y :: ys, h => by
    obtain ⟨us, h1, h2⟩ := Option.bind_eq_some_iff.1 h.1
    obtain ⟨x, hx, hw⟩ := IH us y h2
    obtain ⟨xs, hxs, hws⟩ := rows_of IH l ys h.2
    exact ⟨x :: xs, ⟨⟨us, h1, hx⟩, hxs⟩, by simpa using ⟨hw, hws⟩⟩
theorem cells_row {b o : Nat} {cur : Array Value} {et : TypeId} {fz : Nat × Nat} (h : W.heap[b]? = some (.cells cur et fz)) : ∀ {n : Nat} {us : List Value}, W.cells? 0 ⟨b, o, none⟩ n = some us → us = (cur.toList.drop o).take n ∧ o + us.length ≤ o + n ∧ us.length = n ∧ (0 < n → o + n ≤ cur.size) := by
  intro n us hu
  simp only [World.cells?, Nat.zero_le, if_true] at hu
  have h1 := mapM_some hu
  have hl := h1.length
  simp at hl
  have hg : ∀ i, i < n → us[i]? = cur.toList[o + i]? ∧ o + i < cur.size := by
    intro i hi
    obtain ⟨v, h2, h3⟩ := h1.get (i := i) (a := i) (by simp [hi])
    rw [add_eq, cell_row h] at h3
    rw [h2, h3]
    refine ⟨rfl, ?_⟩
    have := List.getElem?_eq_some_iff.1 h3
    obtain ⟨this, _⟩ := this
    simpa using this
  refine ⟨?_, by omega, hl.symm, fun hn => by have := (hg (n - 1) (by omega)).2; omega⟩
  apply List.ext_getElem?
  intro i
  rw [List.getElem?_take, List.getElem?_drop]
  split
  · rename_i hi
    exact (hg i hi).1
  · rename_i hi
    exact List.getElem?_eq_none (by omega)
theorem All2.range {α : Type} {R : Nat → α → Prop} {n : Nat} {xs : List α} (h : All2 R (List.range n) xs) : xs.length = n ∧ ∀ i x, xs[i]? = some x → R i x := by
  have hl := h.length
  simp at hl
  refine ⟨hl.symm, fun i x hx => ?_⟩
  have hi : i < n := by
    obtain ⟨hi, _⟩ := List.getElem?_eq_some_iff.1 hx
    omega
  obtain ⟨y, h1, h2⟩ := h.get (i := i) (a := i) (by simp [hi])
  rw [h1] at hx
  cases hx
  exact h2
theorem rdB_sound (hA : ∀ b, b < W.heap.size → A b) : ∀ (n : Nat) (t : TypeId) (s : Sh) (fuel : Nat) (cs : List Value) (d : DataW H × List MemPlace), rdB P n t s = true → DataW.trod enc P W 0 sp held fuel t cs = some d →
    ∃ x : s.den, VRs W A s x cs ∧ Wf s x
  | 0, _, _, _, _, _, h, _ => by cases h
  | n + 1, t, s, 0, cs, d, h, hd => by cases hd
  | n + 1, t, s, fuel + 1, cs, d, h, hd => by
    unfold rdB at h
    split at h
    · rename_i hu
      have hs := of_decide_eq_true h
      subst hs
      simp only [DataW.trod, hu] at hd
      match cs, hd with
      | [.bool b], _ => exact ⟨(b : Bool), rfl, trivial⟩
    · rename_i k hu
      have hs := of_decide_eq_true h
      subst hs
      simp only [DataW.trod, hu] at hd
      match cs, hd with
      | [.int k' m], hd =>
        have hd : (if k' = k ∧ (Lit.int k m).wf = true then some (DataW.lit (Lit.int k m), []) else none) = some d := hd
        by_cases hc : k' = k ∧ (Lit.int k m).wf = true
        · obtain ⟨rfl, hw⟩ := hc
          exact ⟨(m : Int), rfl, hw⟩
        · rw [if_neg hc] at hd
          cases hd
    · rename_i hu
      have hs := of_decide_eq_true h
      subst hs
      simp only [DataW.trod, hu] at hd
      match cs, hd with
      | [.string b], hd =>
        have hd : (if b.size ≤ maxLen then some (DataW.lit (Lit.string b.data.toList), []) else none) = some d := hd
        by_cases hc : b.size ≤ maxLen
        · refine ⟨(b : ByteArray), rfl, ?_⟩
          simp only [Wf]
          exact Nat.le_trans hc (by decide)
        · rw [if_neg hc] at hd
          cases hd
    · rename_i et hu
      cases s with
      | sl e =>
        simp only [Bool.and_eq_true] at h
        obtain ⟨⟨h1, h2⟩, h3⟩ := h
        have h2 := Nat.eq_of_beq_eq_true h2
        have h3 := Nat.le_of_ble_eq_true h3
        simp only [DataW.trod, hu] at hd
        match cs, hd with
        | [.slice none 0 0], _ => exact ⟨[], ⟨none, 0, rfl, by simp, .inl rfl⟩, by simp [Wf]⟩
        | [.slice (some a) len cap], hd =>
          by_cases hc : 0 ≤ a.block ∧ len ≤ cap ∧ cap ≤ maxLen
          · simp only [hc, and_self, if_true] at hd
            obtain ⟨elems, he, hd⟩ := Option.bind_eq_some_iff.1 hd
            have he := mapM_some he
            rw [h2] at he
            obtain ⟨xs, hxs, hw⟩ := rows_of (e := e) (f := DataW.trod enc P W 0 sp held fuel et) (fun cs d hd => rdB_sound hA n et e fuel cs d h1 hd) _ _ he
            obtain ⟨hlen, hget⟩ := All2.range hxs
            refine ⟨xs, ⟨some a, cap, by rw [hlen], by omega, ?_⟩, ?_, hw⟩
            · cases hxl : xs with
              | nil => exact .inl rfl
              | cons y ys =>
                right
                have hlp : 0 < xs.length := by rw [hxl]; simp
                obtain ⟨us0, hu0, _⟩ := hget 0 xs[0] (List.getElem?_eq_getElem hlp)
                have hc0 := mapM_some (by simpa [World.cells?] using hu0 : (List.range e.nc).mapM (fun i => W.cell? ((a.add (0 * e.nc)).add i)) = some us0)
                obtain ⟨v0, _, hv0⟩ := hc0.get (i := 0) (a := 0) (List.getElem?_range (by omega))
                simp [Addr.add] at hv0
                have hsp := World.cell?_spot hv0
                obtain ⟨b, o, spot⟩ := a
                simp at hsp
                subst hsp
                have hblk : ∃ cur et' fz, W.heap[b]? = some (.cells cur et' fz) := by
                  unfold World.cell? at hv0
                  simp only at hv0
                  split at hv0
                  · rename_i c _ _ hb
                    exact ⟨_, _, _, hb⟩
                  · cases hv0
                obtain ⟨cur, et', fz, hb⟩ := hblk
                have hbl : b < W.heap.size := by
                  obtain ⟨hi, _⟩ := Array.getElem?_eq_some_iff.1 hb
                  exact hi
                rw [← hxl]
                refine ⟨b, o, cur, et', fz, rfl, hA b hbl, hb, ?_, ?_⟩
                · obtain ⟨us, hus, _⟩ := hget (xs.length - 1) (xs[xs.length - 1]'(by omega)) (by simp [hlp])
                  rw [add_eq] at hus
                  have := (cells_row hb hus).2.2.2 (by omega)
                  have e2 : (xs.length - 1) * e.nc + e.nc = xs.length * e.nc := by
                    conv => rhs; rw [show xs.length = (xs.length - 1) + 1 by omega, Nat.add_mul, Nat.one_mul]
                  omega
                · intro i x hx
                  obtain ⟨us, hus, hv⟩ := hget i x hx
                  rw [add_eq] at hus
                  rw [← (cells_row hb hus).1]
                  exact hv
            · have h4 := hc.2.2
              have h5 : cap ≤ 9223372036854775807 := Nat.le_trans h4 (by decide)
              omega
          · simp only [hc, if_false] at hd
            cases hd
      | _ => cases h
    · rename_i fs hu
      simp only [Bool.and_eq_true] at h
      obtain ⟨⟨h1, h2⟩, h3⟩ := h
      have h2 := Nat.eq_of_beq_eq_true h2
      simp only [DataW.trod, hu] at hd
      split at hd
      · rename_i hc
        obtain ⟨ys, hy, _⟩ := Option.map_eq_some_iff.1 hd
        have hy := mapM_some hy
        have hy2 := All2.unmap (R := fun (p : Nat × TypeId) y => DataW.trod enc P W 0 sp held fuel p.2 ((cs.drop p.1).take (P.cellsOf p.2)) = some y) (f := fun (f : Field) => (f.offset, f.type)) hy
        obtain ⟨x, hx, hw⟩ := rdL_sound (fun t s cs d ht hd => rdB_sound hA n t s fuel cs d ht hd) cs _ 0 s ys h3 hy2
        refine ⟨x, ?_, hw⟩
        rwa [List.drop_zero, List.take_of_length_le (by omega)] at hx
      · cases hd
    · rename_i m e hu
      simp only [Bool.and_eq_true] at h
      obtain ⟨⟨h1, h2⟩, h3⟩ := h
      have h2 := Nat.eq_of_beq_eq_true h2
      simp only [DataW.trod, hu] at hd
      split at hd
      · rename_i hc
        obtain ⟨ys, hy, _⟩ := Option.map_eq_some_iff.1 hd
        have hy := mapM_some hy
        have hy2 := All2.unmap (R := fun (p : Nat × TypeId) y => DataW.trod enc P W 0 sp held fuel p.2 ((cs.drop p.1).take (P.cellsOf p.2)) = some y) (f := fun i => (i * P.cellsOf e, e)) hy
        obtain ⟨x, hx, hw⟩ := rdL_sound (fun t s cs d ht hd => rdB_sound hA n t s fuel cs d ht hd) cs _ 0 s ys h3 hy2
        refine ⟨x, ?_, hw⟩
        rwa [List.drop_zero, List.take_of_length_le (by omega)] at hx
      · cases hd
    · cases h
theorem ofC_cells : ∀ (s : Sh) (x : s.den), ofC s (cells s x) = some x
  | .int k, x => by simp [cells, ofC]
  | .bool, x => rfl
  | .str, x => rfl
  | .sl e, xs => by simp [cells, ofC]
  | .unit, x => rfl
  | .pair a b, x => by
    have h1 : (cells a x.1 ++ cells b x.2).take a.nc = cells a x.1 := by rw [← cells_length a x.1, List.take_left]
    have h2 : (cells a x.1 ++ cells b x.2).drop a.nc = cells b x.2 := by rw [← cells_length a x.1, List.drop_left]
    simp only [cells, ofC, h1, h2, ofC_cells a, ofC_cells b]
theorem valOf_val (s : Sh) (x : s.den) : valOf s ((PK.c s).val x) = some x := by
  cases hs : s.agg with
  | true => simp only [PK.val, hs, cond_true, valOf, ofC_cells]
  | false =>
    have hl := cells_length s x
    rw [nagg_one hs] at hl
    match hc : cells s x, hl with
    | [c], _ =>
      have e : (PK.c s).val x = .c c := by simp only [PK.val, hs, cond_false, hc]
      rw [e]
      simp only [valOf, hs, cond_false]
      rw [← hc]
      exact ofC_cells s x
theorem rdB_agg {n : Nat} {t : TypeId} {s : Sh} (h : rdB P n t s = true) (hs : s.agg = true) : (∃ fs, P.underlying t = some (.struct fs)) ∨ ∃ m e, P.underlying t = some (.array m e) := by
  cases n with
  | zero => cases h
  | succ n =>
    unfold rdB at h
    split at h
    · have := of_decide_eq_true h; subst this; cases hs
    · have := of_decide_eq_true h; subst this; cases hs
    · have := of_decide_eq_true h; subst this; cases hs
    · cases s <;> first | cases h | cases hs
    · rename_i fs hu; exact .inl ⟨_, hu⟩
    · rename_i m e hu; exact .inr ⟨_, _, hu⟩
    · cases h
theorem rdB_nagg {n : Nat} {t : TypeId} {s : Sh} (h : rdB P n t s = true) (hs : s.agg = false) : P.underlying t = some .bool ∨ (∃ k, P.underlying t = some (.int k)) ∨ P.underlying t = some .string ∨ ∃ e, P.underlying t = some (.slice e) := by
  cases n with
  | zero => cases h
  | succ n =>
    unfold rdB at h
    split at h
    · rename_i hu; exact .inl hu
    · rename_i k hu; exact .inr (.inl ⟨k, hu⟩)
    · rename_i hu; exact .inr (.inr (.inl hu))
    · rename_i e hu; exact .inr (.inr (.inr ⟨e, hu⟩))
    · simp [hs] at h
    · simp [hs] at h
    · cases h
theorem trod_arg {n : Nat} {t : TypeId} {s : Sh} {v : Value} {d : DataW H} {ps : List MemPlace} {base : Nat} {r : Reach} (hn : rdB P n t s = true) (hval : Value.okWide P W r base t v) (h : DataW.Trod enc P W 0 sp held t v d ps) (hA : ∀ b, b < W.heap.size → A b) :
    ∃ x : s.den, VR noGam W A emp ((PK.c s).val x) v ∧ Wf s x := by
  obtain ⟨fuel, h⟩ := h
  obtain ⟨x, hx, hw⟩ := rdB_sound hA n t s fuel _ _ hn h
  refine ⟨x, ?_, hw⟩
  have hc := CR.of_VRs s x _ hx
  cases hs : s.agg with
  | true =>
    simp only [PK.val, hs, cond_true]
    have : ∃ cs, v = .agg cs := by
      rcases rdB_agg hn hs with ⟨fs, hu⟩ | ⟨m, e, hu⟩
      · simp only [Value.okWide, hu] at hval
        obtain ⟨cs, h1, _⟩ := hval
        exact ⟨cs, h1⟩
      · simp only [Value.okWide, hu] at hval
        obtain ⟨cs, h1, _⟩ := hval
        exact ⟨cs, h1⟩
    obtain ⟨cs, rfl⟩ := this
    exact ⟨cs.toList, by simp, hc⟩
  | false =>
    have hl := cells_length s x
    rw [nagg_one hs] at hl
    match hcs : cells s x, hl with
    | [c], _ =>
      rw [hcs] at hc
      obtain ⟨u, hu, hcr⟩ := hc.one
      have : v = u := by
        cases v with
        | agg cs =>
          exfalso
          rcases rdB_nagg hn hs with h1 | ⟨k, h1⟩ | h1 | ⟨e, h1⟩ <;> simp [Value.okWide, h1, Cell.okWide, Cell.ok] at hval
        | _ => simpa [Value.cells] using hu
      subst this
      simp only [PK.val, hs, cond_false, hcs]
      exact hcr
end
end Go.Vi
/-
  Vi: a law's contract out of its contract in data: it returns true, and what it was handed reads as before.
-/
set_option linter.unusedVariables false
set_option linter.unusedSimpArgs false
namespace Go.Vi
open Go.ChangeShapes Go.WideShapes Go.ChangeAt Go.RowKit
section
variable {P : Program} {W W' : World} {H : Type} {enc : TypeId × Value → H} {A : Nat → Prop}
def pks (ss : List Sh) : List PK := ss.map .c
def rdArgs (P : Program) (n : Nat) : List TypeId → List Sh → Bool
  | [], [] => true
  | t :: ts, s :: ss => rdB P n t s && rdArgs P n ts ss
  | _, _ => false
def WfL : (ss : List Sh) → pksDen (pks ss) → Prop
  | [], _ => True
  | s :: ss, x => Wf s x.1 ∧ WfL ss x.2
theorem trodAll_args {n base : Nat} {r : Reach} {sp : Nat → Bool} {held : Bool} (hA : ∀ b, b < W.heap.size → A b) : ∀ {ts : List TypeId} {ss : List Sh} {vs : List Value} {ds : List (DataW H)} {ps : List MemPlace}, rdArgs P n ts ss = true →
    (∀ (j : Nat) t v, ts[j]? = some t → vs[j]? = some v → Value.okWide P W r base t v) → DataW.TrodAll enc P W 0 sp held ts vs ds ps →
    ∃ xs : pksDen (pks ss), All2 (VR noGam W A emp) (pksV (pks ss) xs) vs ∧ WfL ss xs
  | [], [], vs, ds, ps, _, _, h => by
    obtain ⟨rfl, _, _⟩ := trodAll_nil h
    exact ⟨(), trivial, trivial⟩
  | t :: ts, s :: ss, vs, ds, ps, hr, hv, h => by
    simp only [rdArgs, Bool.and_eq_true] at hr
    obtain ⟨v, vs', d, ds', p, q, rfl, rfl, rfl, h1, h2⟩ := trodAll_cons h
    obtain ⟨x, hx, hw⟩ := trod_arg hr.1 (hv 0 t v rfl rfl) h1 hA
    obtain ⟨xs, hxs, hws⟩ := trodAll_args hA hr.2 (fun j t v ht hv' => hv (j + 1) t v (by simpa using ht) (by simpa using hv')) h2
    exact ⟨(x, xs), ⟨hx, hxs⟩, hw, hws⟩
  | [], _ :: _, _, _, _, hr, _, _ => by cases hr
  | _ :: _, [], _, _, _, hr, _, _ => by cases hr
theorem pksArg_val : ∀ (ss : List Sh) (xs : pksDen (pks ss)), pksArg (pks ss) (pksV (pks ss) xs) = some xs
  | [], _ => rfl
  | s :: ss, xs => by
    have h1 : (PK.c s).arg ((PK.c s).val xs.1) = some xs.1 := valOf_val s xs.1
    have h2 := pksArg_val ss xs.2
    show ((PK.c s).arg ((PK.c s).val xs.1)).bind (fun x => (pksArg (pks ss) (pksV (pks ss) xs.2)).bind fun y => some (x, y)) = _
    rw [h1, h2]
    rfl
theorem Grows.below (h : Grows W W') : RowKit.Below W.heap.size W W' := ⟨h.os, h.tape, h.output, h.size, h.blk⟩
/-- The call returns true. -/
theorem law_calls {g : FuncId} {ss : List Sh} {t0 : Nat} {S : pksDen (pks ss) → Option Bool} (hfc : FCs P g (phiOf (pks ss) [.c .bool t0] S)) {xs : pksDen (pks ss)} (hS : S xs = some true) {args : Array Value} (hA : ∀ b, A b → b < W.heap.size)
    (ha : All2 (VR noGam W A emp) (pksV (pks ss) xs) args.toList) (hgl : GlobOK W A) : Calls P g args W fun e W' => e = .returned (.bool true) ∧ Grows W W' := by
  have hrun : phiOf (pks ss) [RK.c .bool t0] S (pksV (pks ss) xs) Ret some = some [.val (.bool true)] := by
    unfold phiOf
    rw [pksArg_val]
    simp only [Option.bind_some, hS]
    rfl
  obtain ⟨ret, hret, hf⟩ := hfc _ _ _ _ hrun
  cases hret
  have := hf W A args.toList hA ha hgl
  refine this.mono fun e w' he => ?_
  cases e with
  | returned u =>
    obtain ⟨hg, is, us, rfl, hr⟩ := he
    match is, us, hr with
    | [i], [u], hr =>
      have : u = .bool true := hr.1
      subst this
      exact ⟨rfl, hg⟩
    | _ :: _ :: _, _ :: us, hr => cases us <;> exact hr.2.2.elim
  | panicked _ => exact he.elim
  | outgrown => exact he.elim
theorem trodAll_stays (hl : laidOutB P = true) (hb : RowKit.Below W.heap.size W W') : ∀ {ts : List TypeId} {vs : List Value} {ds : List (DataW H)} {ps : List MemPlace}, (∀ t ∈ ts, P.readableRec t = true ∧ t < P.types.size) → (∀ x ∈ ps, x.block < W.heap.size) →
    DataW.TrodAll enc P W 0 (fun _ => true) true ts vs ds ps → DataW.TrodAll enc P W' 0 (fun b => decide (b < W.heap.size)) true ts vs ds ps
  | [], vs, ds, ps, _, _, h => by
    obtain ⟨rfl, rfl, rfl⟩ := trodAll_nil h
    rfl
  | t :: ts, vs, ds, ps, ht, hps, h => by
    obtain ⟨v, vs', d, ds', p, q, rfl, rfl, rfl, h1, h2⟩ := trodAll_cons h
    have := ht t (by simp)
    exact ⟨p, q, Below.trod hl this.1 this.2 h1 hb (fun x hx => hps x (List.mem_append.2 (.inl hx))), trodAll_stays hl hb (fun t' ht' => ht t' (List.mem_cons_of_mem _ ht')) (fun x hx => hps x (List.mem_append.2 (.inr hx))) h2, rfl⟩
/-- What a row asks of a call. -/
theorem law_post {g : FuncId} {fn : Func} {spec : ChangeSpec} {ss : List Sh} {t0 n base tb : Nat} {S : Nat × Nat → pksDen (pks ss) → Option Bool} (hfc : ∀ n, FCs P g (phiOf (pks ss) [.c .bool t0] (S n)))
    (hS : ∀ xs, WfL ss xs → ∃ n, S n xs = some true) (hl : laidOutB P = true) (hr : rdArgs P n fn.params.toList ss = true) (hts : fn.params.toList.all (fun t => P.readableRec t && decide (t < P.types.size)) = true)
    (hrt : fn.resultTypes = #[tb]) (hu : P.underlying tb = some .bool) (hvars : spec.vars = [])
    (hspec : ∀ (H : Type) (ds : List (DataW H)), ds.length = ss.length → spec.fn H ds = { results := [.lit (.bool true)], args := ds, vars := [] })
    {args : Array Value} {ds gs : List (DataW H)} {before : List MemPlace} (hval : ∀ (j : Nat) t v, fn.params[j]? = some t → args[j]? = some v → Value.okWide P W .any base t v)
    (hW : DataW.Whole enc P fn.params.toList spec.vars false W args.toList ds gs before) (hgl : GlobOK W (fun b => b < W.heap.size)) :
    Calls P g args W fun e W' => ∃ v, e = .returned v ∧ spec.post enc P fn false true false false W args v W' := by
  have hW' := hW
  obtain ⟨p, q, hA0, hV, rfl, hfz, hnd⟩ := hW
  have hlt : ∀ x ∈ p ++ q, x.block < W.heap.size := fun x hx => by simpa using hW'.lt x hx
  rw [hvars] at hV
  obtain ⟨rfl, rfl⟩ := trodVars_none hV
  obtain ⟨xs, hxs, hws⟩ := trodAll_args (A := fun b => b < W.heap.size) (fun b hb => hb) hr (fun j t v ht hv => hval j t v (by simpa using ht) (by simpa using hv)) hA0
  obtain ⟨m, hm⟩ := hS xs hws
  refine (law_calls (hfc m) hm (fun b hb => hb) hxs hgl).mono fun e W' ⟨he, hg⟩ => ?_
  subst he
  have hlen : ds.length = ss.length := by
    have h1 : ∀ {ts : List TypeId} {vs : List Value} {ds : List (DataW H)} {ps : List MemPlace}, DataW.TrodAll enc P W 0 (fun _ => true) true ts vs ds ps → ds.length = ts.length := by
      intro ts
      induction ts with
      | nil =>
        intro vs ds ps h
        obtain ⟨_, rfl, _⟩ := trodAll_nil h
        rfl
      | cons t ts ih =>
        intro vs ds ps h
        obtain ⟨v, vs', d, ds', p, q, rfl, rfl, rfl, h1, h2⟩ := trodAll_cons h
        simp [ih h2]
    have h2 : ∀ {ts : List TypeId} {ss : List Sh}, rdArgs P n ts ss = true → ts.length = ss.length := by
      intro ts
      induction ts with
      | nil => intro ss h; cases ss <;> first | rfl | cases h
      | cons t ts ih =>
        intro ss h
        cases ss with
        | nil => cases h
        | cons s ss =>
          simp only [rdArgs, Bool.and_eq_true] at h
          simp [ih h.2]
    rw [h1 hA0, h2 hr]
  have hsp := hspec H (ds ++ []) (by simpa using hlen)
  refine ⟨_, rfl, ds, [], p ++ [], [], p, [], hW', ?_, ?_, ?_, hg.below.frame _, fun h => by cases h⟩
  · rw [hsp, hrt]
    exact trodAll_mk1 (shut_bool hu _)
  · rw [hsp]
    simp only [List.append_nil]
    refine trodAll_stays hl hg.below ?_ (fun x hx => hlt x (List.mem_append.2 (.inl hx))) hA0
    intro t ht
    have := List.all_eq_true.1 hts t ht
    simp only [Bool.and_eq_true, decide_eq_true_eq] at this
    exact this
  · rw [hsp, hvars]
    rfl
end
end Go.Vi
/-
  Vi: marked code that a text of ours walks: it makes one thing, and may leave some temporaries in disorder.
-/
set_option linter.unusedVariables false
set_option linter.unusedSimpArgs false
namespace Go.Vi
/-- The call's surroundings, from here on: what is not the call's own may turn no more. -/
def Cx.anew (x : Cx) {γ : Gam} {H : Heap} {w : World} (hi : Inv x γ H w) (ds : List Deferred) : Cx where
  B := w.heap.size
  M := fun b => ∃ k c, γ k = some (.at b c)
  A0 := fun b => Av x γ w b ∨ ∃ k c, γ k = some (.at b c)
  w0 := w
  ma := fun _ h => .inr h
  pin := x.pin
  pinlo := x.pinlo
  ds := ds
  glob := ⟨rfl, hi.globs.mono (Nat.le_refl _) fun b hb => ⟨.inl hb, rfl⟩⟩
  gM := fun g ns hg h => by
    obtain ⟨k, c, hk⟩ := h
    exact (hi.globs g ns hg).2.1.2.2 k c hk
theorem Av.anew {x : Cx} {γ : Gam} {H : Heap} {w : World} {ds : List Deferred} (hi : Inv x γ H w) (b : Nat) (h : Av x γ w b) : Av (x.anew hi ds) γ w b ∧ w.heap[b]? = w.heap[b]? :=
  ⟨⟨h.1, fun _ => .inl h, h.2.2⟩, rfl⟩
theorem RS.anew {x : Cx} {γ : Gam} {st : St} {a : Act} {w : World} (h : RS x γ st a w) : RS (x.anew h.inv x.ds) γ st a w where
  inv := ⟨Nat.le_refl _, rfl, rfl, rfl, fun _ _ _ => rfl, fun k i hk => by
    obtain ⟨ob, h1, h2⟩ := h.inv.own k i hk
    exact ⟨ob, h1, objR.mono (Av.anew h.inv) ob i (fun _ _ _ => rfl) h2⟩, fun k b c hk => ⟨.inr ⟨k, c, hk⟩, (h.inv.rng k b c hk).2⟩, h.inv.inj, h.inv.pin, h.inv.lnk⟩
  len := h.len
  tm := fun t v hv => VR.mono (Av.anew h.inv) v _ (h.tm t v hv)
  nod := h.nod
section
variable {P : Program} {E : Env} {x : Cx} {ρ : Type} {r : ρ}
end
end Go.Vi
set_option linter.unusedVariables false
set_option linter.unusedSimpArgs false
set_option maxRecDepth 100000
namespace Go.Proofs.Ytjgmfdgpgdaclaa
open Go.Vi
abbrev uu : V := .undef
def tab : Tab := { sh := [(3, (.int .i64)), (4, .bool), (5, (.int .u8)), (22, (.sl (.int .i64))), (24, (.int .i64)), (43, (.pair (.int .u8) (.pair (.int .u8) (.pair (.int .u8) (.pair (.int .u8) (.int .u8)))))), (45, (.pair (.int .u8) (.pair (.int .u8) (.pair (.int .u8) (.pair (.int .u8) (.pair (.int .u8) (.int .u8))))))), (57, (.pair (.int .u8) (.pair (.int .u8) (.pair (.int .u8) (.pair (.int .u8) (.pair (.int .u8) (.int .u8))))))), (76, (.sl (.int .u8))), (77, (.int .u64)), (82, (.int .u32)), (85, (.int .u64))], flds := [(45, [(.int .u8), (.pair (.int .u8) (.pair (.int .u8) (.pair (.int .u8) (.pair (.int .u8) (.int .u8)))))])], arrs := [(43, (5, (.int .u8))), (57, (6, (.int .u8)))], maps := [(68, (.i64, .bool))], eqs := [], idf := [49], del := [], lits := [], nils := false, fns := [54] }
theorem id49 : IdC Try.prog 49 := ⟨callOK_of Try.func49 (by kernel_rfl) (by kernel_rfl), fun u w => by
  go_enter Try.func49, Try.ntmps49
  go_wp2
  go_ret
  exact ⟨rfl, rfl⟩⟩
theorem idOK : ∀ g ∈ tab.idf, IdC Try.prog g := by
  intro g hg
  simp only [tab, List.mem_cons, List.not_mem_nil, or_false] at hg
  subst hg
  exact id49
theorem delOK : ∀ g ∈ tab.del, DelC Try.prog g := by
  intro g hg
  cases hg
theorem tabOK : TabOK Try.prog tab := tabB_ok (by kernel_rfl) idOK delOK
theorem eqsOK : EqsOK Try.prog tab := eqsB_ok (by kernel_rfl)
theorem mixed : Try.prog.follows .mixedOrders = true := by kernel_rfl
abbrev R54 := List Int
noncomputable def c54 : Code := bodyOf Try.f54
noncomputable def an54 : Ann := .l
def pk54 : List PK := []
def rk54 : List RK := [.own (.int .i64) 0]
noncomputable def rt54 (st : St) : Option R54 := rtG rk54 st
noncomputable def E54 (n : Nat × Nat) : Env := { T := tab, phi := noPhi, eff := fun _ => false, fuel := n.1, hold := n.2 }
noncomputable def S54 (n : Nat × Nat) : Option R54 := run (E54 n) c54 an54 rt54 (fun _ _ => none) rt54 { tm := [uu, uu, uu], hp := emp }
theorem S54_eq (n : Nat × Nat) : S54 n =
 some [1, 3, 4] := by kernel_rfl
theorem S54_run (n : Nat × Nat) (xs : pksDen pk54) : S54 n = runG (E54 n) noScope c54 an54 (rtG rk54) (fun _ _ => none) (rtG rk54) (st0 pk54 xs Try.f54.ntmps) := by kernel_rfl
noncomputable def P54 (n : Nat × Nat) := phiOf pk54 rk54 (fun xs => S54 n)
theorem call54 : CallOK Try.prog 54 := callOK_of Try.func54 (by kernel_rfl) (by kernel_rfl)
theorem env54 (n : Nat × Nat) : EnvOK Try.prog (E54 n) := envOK0 noPhi_ok rfl rfl
theorem par54 (n : Nat × Nat) : EnvPar (E54 n) := envPar0 noPhi_par rfl
theorem FC54 (n : Nat × Nat) : FCs Try.prog 54 (P54 n) := phiOf_FCs fun xs r h vs hv => FC.of_runG tabOK eqsOK (env54 n) (par54 n) mixed (fun _ p _ => noScope_ok p.1 p.2) Try.func54 (c := c54) (an := an54) (pks := pk54) (rks := rk54) (by kernel_rfl) (by kernel_rfl) hv ((S54_run n xs).symm.trans h)
abbrev R25 := Int
noncomputable def c25 : Code := bodyOf Try.f25
noncomputable def an25 : Ann := (.s .l (.s (.j [0, 24, 25, 31, 32, 33, 34, 35, 36, 37] (.s .l (.j [0, 24, 25, 31, 32, 33, 34, 35, 36, 37] .l (.s .l (.j [0, 24, 25, 31, 32, 33, 34, 35, 36, 37] .l .l)))) .l) (.s (.s .l (.j [0] (.j [0, 13, 14, 15, 24, 25, 31, 32, 33, 34, 35, 36, 37] (.s .l (.s (.j [0, 13, 14, 15, 24, 25, 31, 32, 33, 34, 35, 36, 37] .l .l) (.s (.j [0, 13, 14, 15, 24, 25, 31, 32, 33, 34, 35, 36, 37] (.s .l (.j [0, 13, 14, 15, 24, 25, 31, 32, 33, 34, 35, 36, 37] (.s .l (.j [0, 13, 14, 15, 24, 25, 31, 32, 33, 34, 35, 36, 37] .l (.s .l (.j [0, 13, 14, 15, 24, 25, 31, 32, 33, 34, 35, 36, 37] .l .l)))) .l)) .l) .l))) .l) .l)) (.s (.s .l (.j [] .l .l)) .l))))
def pk25 : List PK := [.c (.sl (.int .i64))]
def rk25 : List RK := [.c (.int .i64) 2]
noncomputable def rt25 (st : St) : Option R25 := rtG rk25 st
noncomputable def E25 (n : Nat × Nat) : Env := { T := tab, phi := noPhi, eff := fun _ => false, fuel := n.1, hold := n.2 }
noncomputable def kq25_6 (n : Nat × Nat) : St → Option R25 := run (E25 n) (cB (cB (cB c25))) (Ann.snd (Ann.snd (Ann.snd an25))) rt25 (fun _ _ => none) rt25
noncomputable def xb25_8 (n : Nat × Nat) : Nat → St → Option R25 := fun j s => bif Nat.beq j 1 then normC [0] s (kq25_6 n) else (fun _ _ => none) j s
noncomputable def F25_9 (n : Nat × Nat) : (St → Option R25) → St → Option R25 := fun K s => run (E25 n) (cA (cA (cB (cA (cB (cB c25)))))) (Ann.fst (Ann.fst (Ann.snd (Ann.fst (Ann.snd (Ann.snd an25)))))) (fun s => normC [0, 13, 14, 15, 24, 25, 31, 32, 33, 34, 35, 36, 37] s K) (xb25_8 n) rt25 s
noncomputable def L25_1 (n : Nat × Nat) (m : Nat) (coins0 : List Int) (v13 : List Int) (v14 : Int) (v15 : Int) : Option R25 := loopN (F25_9 n) m { tm := [.c (.sl (.int .i64) coins0 false), uu, uu, uu, uu, uu, uu, uu, uu, uu, uu, uu, uu, .c (.sl (.int .i64) v13 false), .c (.int .i64 v14), .c (.int .i64 v15), uu, uu, uu, uu, uu, uu, uu, uu, uu, uu, uu, uu, uu, uu, uu, uu, uu, uu, uu, uu, uu, uu, uu, uu, uu, uu, uu, uu], hp := emp }
theorem L25_1_eq (n : Nat × Nat) (m1 : Nat) (coins0 : List Int) (v13 : List Int) (v14 : Int) (v15 : Int) : L25_1 n (m1 + 1) coins0 v13 v14 v15 =
 (bif decide (v15 < v14) then (idx v13 v15).bind fun x1' =>
 ((bif (decide (x1' < 1) == false) then some (decide (x1' > 40))
 else some true)).bind fun b2' =>
 (bif b2' then some 1
 else ((bif (decide (v15 > 0) == true) then (idx coins0 (wr .i64 (v15 - 1))).bind fun x3' =>
 some (decide (x1' ≤ x3'))
 else some false)).bind fun b4' =>
 (bif b4' then some 7
 else L25_1 n m1 coins0 v13 v14 (wr .i64 (v15 + 1))))
 else (idx coins0 0).bind fun x5' =>
 (bif decide (x5' > 1) then some 5
 else some 0)) := by kernel_rfl
noncomputable def S25 (n : Nat × Nat) (coins0 : List Int) : Option R25 := run (E25 n) c25 an25 rt25 (fun _ _ => none) rt25 { tm := [.c (.sl (.int .i64) coins0 false), uu, uu, uu, uu, uu, uu, uu, uu, uu, uu, uu, uu, uu, uu, uu, uu, uu, uu, uu, uu, uu, uu, uu, uu, uu, uu, uu, uu, uu, uu, uu, uu, uu, uu, uu, uu, uu, uu, uu, uu, uu, uu, uu], hp := emp }
theorem S25_eq (n : Nat × Nat) (coins0 : List Int) : S25 n coins0 =
 (bif ((coins0.length : Int) == 0) then some 4
 else (bif decide ((coins0.length : Int) > 6) then some 3
 else L25_1 n n.1 coins0 coins0 (coins0.length : Int) 0)) := by kernel_rfl
theorem S25_run (n : Nat × Nat) (xs : pksDen pk25) : S25 n xs.1 = runG (E25 n) noScope c25 an25 (rtG rk25) (fun _ _ => none) (rtG rk25) (st0 pk25 xs Try.f25.ntmps) := by kernel_rfl
noncomputable def P25 (n : Nat × Nat) := phiOf pk25 rk25 (fun xs => S25 n xs.1)
theorem call25 : CallOK Try.prog 25 := callOK_of Try.func25 (by kernel_rfl) (by kernel_rfl)
theorem env25 (n : Nat × Nat) : EnvOK Try.prog (E25 n) := envOK0 noPhi_ok rfl rfl
theorem par25 (n : Nat × Nat) : EnvPar (E25 n) := envPar0 noPhi_par rfl
theorem FC25 (n : Nat × Nat) : FCs Try.prog 25 (P25 n) := phiOf_FCs fun xs r h vs hv => FC.of_runG tabOK eqsOK (env25 n) (par25 n) mixed (fun _ p _ => noScope_ok p.1 p.2) Try.func25 (c := c25) (an := an25) (pks := pk25) (rks := rk25) (by kernel_rfl) (by kernel_rfl) hv ((S25_run n xs).symm.trans h)
abbrev R56 := Int
noncomputable def c56 : Code := bodyOf Try.f56
noncomputable def an56 : Ann := (.s .l (.s .l (.s (.s .l (.j [5] .l .l)) .l)))
def pk56 : List PK := [.c (.sl (.int .i64)), .c (.int .i64)]
def rk56 : List RK := [.c (.int .i64) 4]
noncomputable def rt56 (st : St) : Option R56 := rtG rk56 st
noncomputable def E56 (n : Nat × Nat) : Env := { T := tab, phi := (consPhi 25 (fun _ => true) (P25 n) noPhi), eff := fun _ => false, fuel := n.1, hold := n.2 }
noncomputable def S56 (n : Nat × Nat) (coins0 : List Int) (sum1 : Int) : Option R56 := run (E56 n) c56 an56 rt56 (fun _ _ => none) rt56 { tm := [.c (.sl (.int .i64) coins0 false), .c (.int .i64 sum1), uu, uu, uu, uu, uu, uu, uu, uu, uu, uu, uu, uu, uu, uu, uu, uu, uu], hp := emp }
theorem S56_eq (n : Nat × Nat) (coins0 : List Int) (sum1 : Int) : S56 n coins0 sum1 =
 (S25 n coins0).bind fun r1' =>
 ((bif ((r1' == 0) == true) then ((bif (decide (sum1 < 0) == false) then some (decide (sum1 > 200))
 else some true)).bind fun b2' =>
 some b2'
 else some false)).bind fun b3' =>
 (bif b3' then some 1
 else some r1') := by kernel_rfl
theorem S56_run (n : Nat × Nat) (xs : pksDen pk56) : S56 n xs.1 xs.2.1 = runG (E56 n) noScope c56 an56 (rtG rk56) (fun _ _ => none) (rtG rk56) (st0 pk56 xs Try.f56.ntmps) := by kernel_rfl
noncomputable def P56 (n : Nat × Nat) := phiOf pk56 rk56 (fun xs => S56 n xs.1 xs.2.1)
theorem call56 : CallOK Try.prog 56 := callOK_of Try.func56 (by kernel_rfl) (by kernel_rfl)
theorem env56 (n : Nat × Nat) : EnvOK Try.prog (E56 n) := envOK0 (consPhi_ok (FC25 n) call25 noPhi_ok) rfl rfl
theorem par56 (n : Nat × Nat) : EnvPar (E56 n) := envPar0 (consPhi_par phiOf_Par1 noPhi_par) rfl
theorem FC56 (n : Nat × Nat) : FCs Try.prog 56 (P56 n) := phiOf_FCs fun xs r h vs hv => FC.of_runG tabOK eqsOK (env56 n) (par56 n) mixed (fun _ p _ => noScope_ok p.1 p.2) Try.func56 (c := c56) (an := an56) (pks := pk56) (rks := rk56) (by kernel_rfl) (by kernel_rfl) hv ((S56_run n xs).symm.trans h)
abbrev R57 := List Int
noncomputable def c57 : Code := bodyOf Try.f57
noncomputable def an57 : Ann := (.s .l (.s .l (.s (.s .l (.j [5] (.j [0, 1, 5, 6] (.s (.s .l (.j [0, 1, 5, 6] .l .l)) (.s (.j [0, 1, 5, 6] (.s .l (.s (.s .l (.j [0, 1, 5, 6, 7] (.j [0, 1, 5, 6, 7, 17, 18, 19] (.s .l (.s (.j [0, 1, 5, 6, 7, 17, 18, 19] .l .l) (.j [] (.j [0, 1, 5, 6, 7, 17, 18, 19] (.s .l (.s .l (.j [0, 1, 5, 6, 7, 17, 18, 19] .l .l))) .l) .l))) .l) .l)) .l)) .l) .l)) .l) .l)) .l)))
def pk57 : List PK := [.c (.sl (.int .i64)), .c (.int .i64)]
def rk57 : List RK := [.own (.int .i64) 4]
noncomputable def rt57 (st : St) : Option R57 := rtG rk57 st
noncomputable def E57 (n : Nat × Nat) : Env := { T := tab, phi := noPhi, eff := fun _ => false, fuel := n.1, hold := n.2 }
noncomputable def kq57_1 (n : Nat × Nat) : St → Option R57 := run (E57 n) (cB (cB (cB c57))) (Ann.snd (Ann.snd (Ann.snd an57))) rt57 (fun _ _ => none) rt57
noncomputable def xb57_3 (n : Nat × Nat) : Nat → St → Option R57 := fun j s => bif Nat.beq j 0 then normC [5] s (kq57_1 n) else (fun _ _ => none) j s
noncomputable def F57_4 (n : Nat × Nat) : (St → Option R57) → St → Option R57 := fun K s => run (E57 n) (cA (cA (cB (cA (cB (cB c57)))))) (Ann.fst (Ann.fst (Ann.snd (Ann.fst (Ann.snd (Ann.snd an57)))))) (fun s => normC [0, 1, 5, 6] s K) (xb57_3 n) rt57 s
noncomputable def kq57_7 (n : Nat × Nat) (m1 : Nat) : St → Option R57 := run (E57 n) (cB (cB (cA (cA (cB (cA (cB (cB c57)))))))) (Ann.snd (Ann.snd (Ann.fst (Ann.fst (Ann.snd (Ann.fst (Ann.snd (Ann.snd an57)))))))) (fun s => normC [0, 1, 5, 6] s (loopN (F57_4 n) m1)) (xb57_3 n) rt57
noncomputable def kc57_8 (n : Nat × Nat) (m1 : Nat) : St → Option R57 := fun s => normC [0, 1, 5, 6] s (kq57_7 n m1)
noncomputable def xb57_9 (n : Nat × Nat) (m1 : Nat) : Nat → St → Option R57 := fun j s => bif Nat.beq j 1 then normC [0, 1, 5, 6] s (kq57_7 n m1) else (xb57_3 n) j s
noncomputable def kq57_10 (n : Nat × Nat) (m1 : Nat) : St → Option R57 := run (E57 n) (cB (cB (cA (cA (cB (cA (cA (cB (cA (cB (cB c57))))))))))) (Ann.snd (Ann.snd (Ann.fst (Ann.fst (Ann.snd (Ann.fst (Ann.fst (Ann.snd (Ann.fst (Ann.snd (Ann.snd an57))))))))))) (kc57_8 n m1) (xb57_9 n m1) rt57
noncomputable def xb57_12 (n : Nat × Nat) (m1 : Nat) : Nat → St → Option R57 := fun j s => bif Nat.beq j 2 then normC [0, 1, 5, 6, 7] s (kq57_10 n m1) else (xb57_9 n m1) j s
noncomputable def F57_13 (n : Nat × Nat) (m1 : Nat) : (St → Option R57) → St → Option R57 := fun K s => run (E57 n) (cA (cA (cB (cA (cB (cA (cA (cB (cA (cA (cB (cA (cB (cB c57)))))))))))))) (Ann.fst (Ann.fst (Ann.snd (Ann.fst (Ann.snd (Ann.fst (Ann.fst (Ann.snd (Ann.fst (Ann.fst (Ann.snd (Ann.fst (Ann.snd (Ann.snd an57)))))))))))))) (fun s => normC [0, 1, 5, 6, 7, 17, 18, 19] s K) (xb57_12 n m1) rt57 s
noncomputable def kq57_16 (n : Nat × Nat) (m1 m2 : Nat) : St → Option R57 := run (E57 n) (cB (cB (cB (cA (cA (cB (cA (cB (cA (cA (cB (cA (cA (cB (cA (cB (cB c57))))))))))))))))) (Ann.snd (Ann.snd (Ann.snd (Ann.fst (Ann.fst (Ann.snd (Ann.fst (Ann.snd (Ann.fst (Ann.fst (Ann.snd (Ann.fst (Ann.fst (Ann.snd (Ann.fst (Ann.snd (Ann.snd an57))))))))))))))))) (fun s => normC [0, 1, 5, 6, 7, 17, 18, 19] s (loopN (F57_13 n m1) m2)) (xb57_12 n m1) rt57
noncomputable def L57_1 (n : Nat × Nat) (m : Nat) (coins0 : List Int) (most1 : Int) (sum6 : Int) (out5 : List Int) : Option R57 := loopN (F57_4 n) m { tm := [.c (.sl (.int .i64) coins0 false), .c (.int .i64 most1), uu, uu, uu, .own 5 none false, .c (.int .i64 sum6), uu, uu, uu, uu, uu, uu, uu, uu, uu, uu, uu, uu, uu, uu, uu, uu, uu, uu, uu, uu, uu, uu, uu, uu, uu, uu, uu, uu, uu, uu, uu, uu, uu, uu], hp := (upd emp 5 (.arr (.int .i64) out5 false)) }
noncomputable def L57_2 (n : Nat × Nat) (m1 : Nat) (m : Nat) (coins0 : List Int) (most1 : Int) (sum6 : Int) (v7 : Int) (v17 : List Int) (v18 : Int) (v19 : Int) (out5 : List Int) : Option R57 := loopN (F57_13 n m1) m { tm := [.c (.sl (.int .i64) coins0 false), .c (.int .i64 most1), uu, uu, uu, .own 5 none false, .c (.int .i64 sum6), .c (.int .i64 v7), uu, uu, uu, uu, uu, uu, uu, uu, uu, .c (.sl (.int .i64) v17 false), .c (.int .i64 v18), .c (.int .i64 v19), uu, uu, uu, uu, uu, uu, uu, uu, uu, uu, uu, uu, uu, uu, uu, uu, uu, uu, uu, uu, uu], hp := (upd emp 5 (.arr (.int .i64) out5 false)) }
noncomputable def L57_3 (n : Nat × Nat) (m1 m2 : Nat) (coins0 : List Int) (most1 : Int) (sum6 : Int) (v7 : Int) (v17 : List Int) (v18 : Int) (v19 : Int) (out5 : List Int) : Option R57 := loopN (fun _ => (kq57_16 n m1 m2)) n.2 { tm := [.c (.sl (.int .i64) coins0 false), .c (.int .i64 most1), uu, uu, uu, .own 5 none false, .c (.int .i64 sum6), .c (.int .i64 v7), uu, uu, uu, uu, uu, uu, uu, uu, uu, .c (.sl (.int .i64) v17 false), .c (.int .i64 v18), .c (.int .i64 v19), uu, uu, uu, uu, uu, uu, uu, uu, uu, uu, uu, uu, uu, uu, uu, uu, uu, uu, uu, uu, uu], hp := (upd emp 5 (.arr (.int .i64) out5 false)) }
theorem L57_1_eq (n : Nat × Nat) (m1 : Nat) (coins0 : List Int) (most1 : Int) (sum6 : Int) (out5 : List Int) : L57_1 n (m1 + 1) coins0 most1 sum6 out5 =
 (bif decide (sum6 ≤ most1) then L57_2 n m1 n.1 coins0 most1 sum6 sum6 coins0 (coins0.length : Int) 0 out5
 else some out5) := by kernel_rfl
theorem L57_2_eq (n : Nat × Nat) (m1 m2 : Nat) (coins0 : List Int) (most1 : Int) (sum6 : Int) (v7 : Int) (v17 : List Int) (v18 : Int) (v19 : Int) (out5 : List Int) : L57_2 n m1 (m2 + 1) coins0 most1 sum6 v7 v17 v18 v19 out5 =
 (bif decide (v19 < v18) then (idx v17 v19).bind fun x1' =>
 (bif decide (x1' ≤ sum6) then (bif inB (wr .i64 (sum6 - x1')) out5.length then (idx out5 (wr .i64 (sum6 - x1'))).bind fun x2' =>
          L57_3 n m1 m2 coins0 most1 sum6 (if (wr .i64 (1 + x2')) < v7 then (wr .i64 (1 + x2')) else v7) v17 v18 v19 out5
 else none)
 else L57_3 n m1 m2 coins0 most1 sum6 v7 v17 v18 v19 out5)
 else (bif decide (out5.length + [v7].length ≤ lim) then L57_1 n m1 coins0 most1 (wr .i64 (sum6 + 1)) (out5 ++ [v7])
 else none)) := by kernel_rfl
theorem L57_3_raw (n : Nat × Nat) (m1 m2 : Nat) (coins0 : List Int) (most1 : Int) (sum6 : Int) (v7 : Int) (v17 : List Int) (v18 : Int) (v19 : Int) (out5 : List Int) : (kq57_16 n m1 m2) { tm := [.c (.sl (.int .i64) coins0 false), .c (.int .i64 most1), uu, uu, uu, .own 5 none false, .c (.int .i64 sum6), .c (.int .i64 v7), uu, uu, uu, uu, uu, uu, uu, uu, uu, .c (.sl (.int .i64) v17 false), .c (.int .i64 v18), .c (.int .i64 v19), uu, uu, uu, uu, uu, uu, uu, uu, uu, uu, uu, uu, uu, uu, uu, uu, uu, uu, uu, uu, uu], hp := (upd emp 5 (.arr (.int .i64) out5 false)) } =
    L57_2 n m1 m2 coins0 most1 sum6 v7 v17 v18 (wr .i64 (v19 + 1)) out5 := by kernel_rfl
noncomputable def S57 (n : Nat × Nat) (coins0 : List Int) (most1 : Int) : Option R57 := run (E57 n) c57 an57 rt57 (fun _ _ => none) rt57 { tm := [.c (.sl (.int .i64) coins0 false), .c (.int .i64 most1), uu, uu, uu, uu, uu, uu, uu, uu, uu, uu, uu, uu, uu, uu, uu, uu, uu, uu, uu, uu, uu, uu, uu, uu, uu, uu, uu, uu, uu, uu, uu, uu, uu, uu, uu, uu, uu, uu, uu], hp := emp }
theorem S57_eq (n : Nat × Nat) (coins0 : List Int) (most1 : Int) : S57 n coins0 most1 =
    L57_1 n n.1 coins0 most1 1 [0] := by kernel_rfl
theorem S57_run (n : Nat × Nat) (xs : pksDen pk57) : S57 n xs.1 xs.2.1 = runG (E57 n) noScope c57 an57 (rtG rk57) (fun _ _ => none) (rtG rk57) (st0 pk57 xs Try.f57.ntmps) := by kernel_rfl
noncomputable def P57 (n : Nat × Nat) := phiOf pk57 rk57 (fun xs => S57 n xs.1 xs.2.1)
theorem call57 : CallOK Try.prog 57 := callOK_of Try.func57 (by kernel_rfl) (by kernel_rfl)
theorem env57 (n : Nat × Nat) : EnvOK Try.prog (E57 n) := envOK0 noPhi_ok rfl rfl
theorem par57 (n : Nat × Nat) : EnvPar (E57 n) := envPar0 noPhi_par rfl
theorem FC57 (n : Nat × Nat) : FCs Try.prog 57 (P57 n) := phiOf_FCs fun xs r h vs hv => FC.of_runG tabOK eqsOK (env57 n) (par57 n) mixed (fun _ p _ => noScope_ok p.1 p.2) Try.func57 (c := c57) (an := an57) (pks := pk57) (rks := rk57) (by kernel_rfl) (by kernel_rfl) hv ((S57_run n xs).symm.trans h)
abbrev R18 := Int × Int
noncomputable def c18 : Code := bodyOf Try.f18
noncomputable def an18 : Ann := (.s .l (.s (.s .l (.s .l (.j [0, 1] .l .l))) .l))
def pk18 : List PK := [.c (.sl (.int .i64)), .c (.int .i64)]
def rk18 : List RK := [.c (.int .i64) 4, .c (.int .i64) 5]
noncomputable def rt18 (st : St) : Option R18 := rtG rk18 st
noncomputable def E18 (n : Nat × Nat) : Env := { T := tab, phi := (consPhi 56 (fun _ => true) (P56 n) (consPhi 57 (fun _ => true) (P57 n) noPhi)), eff := fun _ => false, fuel := n.1, hold := n.2 }
noncomputable def S18 (n : Nat × Nat) (coins0 : List Int) (sum1 : Int) : Option R18 := run (E18 n) c18 an18 rt18 (fun _ _ => none) rt18 { tm := [.c (.sl (.int .i64) coins0 false), .c (.int .i64 sum1), uu, uu, uu, uu, uu, uu, uu, uu, uu, uu, uu, uu, uu, uu, uu, uu, uu], hp := emp }
theorem S18_eq (n : Nat × Nat) (coins0 : List Int) (sum1 : Int) : S18 n coins0 sum1 =
 (S56 n coins0 sum1).bind fun r1' =>
 (bif (r1' != 0) then some (0, r1')
 else (S57 n coins0 sum1).bind fun r2' =>
 (bif inB sum1 r2'.length then (idx r2' sum1).bind fun x3' =>
 some (x3', 0)
 else none)) := by kernel_rfl
theorem S18_run (n : Nat × Nat) (xs : pksDen pk18) : S18 n xs.1 xs.2.1 = runG (E18 n) noScope c18 an18 (rtG rk18) (fun _ _ => none) (rtG rk18) (st0 pk18 xs Try.f18.ntmps) := by kernel_rfl
noncomputable def P18 (n : Nat × Nat) := phiOf pk18 rk18 (fun xs => S18 n xs.1 xs.2.1)
theorem call18 : CallOK Try.prog 18 := callOK_of Try.func18 (by kernel_rfl) (by kernel_rfl)
theorem env18 (n : Nat × Nat) : EnvOK Try.prog (E18 n) := envOK0 (consPhi_ok (FC56 n) call56 (consPhi_ok (FC57 n) call57 noPhi_ok)) rfl rfl
theorem par18 (n : Nat × Nat) : EnvPar (E18 n) := envPar0 (consPhi_par phiOf_Par1 (consPhi_par phiOf_Par1 noPhi_par)) rfl
theorem FC18 (n : Nat × Nat) : FCs Try.prog 18 (P18 n) := phiOf_FCs fun xs r h vs hv => FC.of_runG tabOK eqsOK (env18 n) (par18 n) mixed (fun _ p _ => noScope_ok p.1 p.2) Try.func18 (c := c18) (an := an18) (pks := pk18) (rks := rk18) (by kernel_rfl) (by kernel_rfl) hv ((S18_run n xs).symm.trans h)
abbrev R60 := Bool
noncomputable def c60 : Code := bodyOf Try.f60
noncomputable def an60 : Ann := (.s .l (.s (.s .l (.j [0, 1, 2, 25, 26, 27, 28, 29, 30, 31, 32] .l .l)) (.s .l (.s (.s .l (.j [] (.j [0, 1, 2, 7, 8, 25, 26, 27, 28, 29, 30, 31, 32] (.s (.s .l (.j [0, 1, 2, 7, 8, 25, 26, 27, 28, 29, 30, 31, 32] .l .l)) (.s (.j [0, 1, 2, 7, 8, 25, 26, 27, 28, 29, 30, 31, 32] (.s .l (.j [0, 1, 2, 7, 8, 25, 26, 27, 28, 29, 30, 31, 32] .l .l)) .l) .l)) .l) .l)) .l))))
def pk60 : List PK := [.c (.sl (.int .i64)), .c (.int .i64), .c (.int .i64)]
def rk60 : List RK := [.c .bool 6]
noncomputable def rt60 (st : St) : Option R60 := rtG rk60 st
noncomputable def E60 (n : Nat × Nat) (SS : List Int → Int → Int → Option R60) : Env := { T := tab, phi := (consPhi 60 (fun _ => true) (phiOf pk60 rk60 (fun xs => SS xs.1 xs.2.1 xs.2.2.1)) noPhi), eff := fun _ => false, fuel := n.1, hold := n.2 }
noncomputable def kq60_3 (n : Nat × Nat) (SS : List Int → Int → Int → Option R60) : St → Option R60 := run (E60 n SS) (cB (cB (cB (cB c60)))) (Ann.snd (Ann.snd (Ann.snd (Ann.snd an60)))) rt60 (fun _ _ => none) rt60
noncomputable def xb60_5 (n : Nat × Nat) (SS : List Int → Int → Int → Option R60) : Nat → St → Option R60 := fun j s => bif Nat.beq j 0 then normC [] s (kq60_3 n SS) else (fun _ _ => none) j s
noncomputable def F60_6 (n : Nat × Nat) (SS : List Int → Int → Int → Option R60) : (St → Option R60) → St → Option R60 := fun K s => run (E60 n SS) (cA (cA (cB (cA (cB (cB (cB c60))))))) (Ann.fst (Ann.fst (Ann.snd (Ann.fst (Ann.snd (Ann.snd (Ann.snd an60))))))) (fun s => normC [0, 1, 2, 7, 8, 25, 26, 27, 28, 29, 30, 31, 32] s K) (xb60_5 n SS) rt60 s
noncomputable def L60_1 (n : Nat × Nat) (SS : List Int → Int → Int → Option R60) (m : Nat) (coins0 : List Int) (sum1 : Int) (many2 : Int) (v7 : Int) (v8 : Int) : Option R60 := loopN (F60_6 n SS) m { tm := [.c (.sl (.int .i64) coins0 false), .c (.int .i64 sum1), .c (.int .i64 many2), uu, uu, uu, uu, .c (.int .i64 v7), .c (.int .i64 v8), uu, uu, uu, uu, uu, uu, uu, uu, uu, uu, uu, uu, uu, uu, uu, uu, uu, uu, uu, uu, uu, uu, uu, uu, uu, uu, uu, uu, uu, uu, uu, uu, uu, uu, uu, uu, uu, uu, uu, uu, uu, uu], hp := emp }
theorem L60_1_eq (n : Nat × Nat) (SS : List Int → Int → Int → Option R60) (m1 : Nat) (coins0 : List Int) (sum1 : Int) (many2 : Int) (v7 : Int) (v8 : Int) : L60_1 n SS (m1 + 1) coins0 sum1 many2 v7 v8 =
 ((bif (decide (v8 ≤ many2) == true) then (idx coins0 v7).bind fun x2' =>
 some (decide (wr .i64 (v8 * x2') ≤ sum1))
 else some false)).bind fun b3' =>
 (bif b3' then (bif bounds none (some v7) none coins0.length then (idx coins0 v7).bind fun x4' =>
 (SS (coins0.take (Int.toNat v7)) (wr .i64 (sum1 - (wr .i64 (v8 * x4')))) (wr .i64 (many2 - v8))).bind fun r5' =>
 (bif r5' then some true
 else L60_1 n SS m1 coins0 sum1 many2 v7 (wr .i64 (v8 + 1)))
 else none)
 else some false) := by kernel_rfl
noncomputable def B60 (n : Nat × Nat) (SS : List Int → Int → Int → Option R60) (coins0 : List Int) (sum1 : Int) (many2 : Int) : Option R60 := run (E60 n SS) c60 an60 rt60 (fun _ _ => none) rt60 { tm := [.c (.sl (.int .i64) coins0 false), .c (.int .i64 sum1), .c (.int .i64 many2), uu, uu, uu, uu, uu, uu, uu, uu, uu, uu, uu, uu, uu, uu, uu, uu, uu, uu, uu, uu, uu, uu, uu, uu, uu, uu, uu, uu, uu, uu, uu, uu, uu, uu, uu, uu, uu, uu, uu, uu, uu, uu, uu, uu, uu, uu, uu, uu], hp := emp }
theorem B60_eq (n : Nat × Nat) (SS : List Int → Int → Int → Option R60) (coins0 : List Int) (sum1 : Int) (many2 : Int) : B60 n SS coins0 sum1 many2 =
 (bif ((coins0.length : Int) == 0) then ((bif ((sum1 == 0) == true) then some (many2 == 0)
 else some false)).bind fun b1' =>
 some b1'
 else L60_1 n SS n.1 coins0 sum1 many2 (wr .i64 ((coins0.length : Int) - 1)) 0) := by kernel_rfl
noncomputable def T60 (n : Nat × Nat) : Nat → List Int → Int → Int → Option R60
  | 0 => fun _ _ _ => none
  | d + 1 => B60 n (T60 n d)
theorem T60_eq (n : Nat × Nat) (d : Nat) (coins0 : List Int) (sum1 : Int) (many2 : Int) : T60 n (d + 1) coins0 sum1 many2 = B60 n (T60 n d) coins0 sum1 many2 := rfl
noncomputable def S60 (n : Nat × Nat) (coins0 : List Int) (sum1 : Int) (many2 : Int) : Option R60 := T60 n n.1 coins0 sum1 many2
theorem B60_run (n : Nat × Nat) (SS : List Int → Int → Int → Option R60) (xs : pksDen pk60) : B60 n SS xs.1 xs.2.1 xs.2.2.1 = runG (E60 n SS) noScope c60 an60 (rtG rk60) (fun _ _ => none) (rtG rk60) (st0 pk60 xs Try.f60.ntmps) := by kernel_rfl
noncomputable def P60 (n : Nat × Nat) := phiOf pk60 rk60 (fun xs => S60 n xs.1 xs.2.1 xs.2.2.1)
theorem call60 : CallOK Try.prog 60 := callOK_of Try.func60 (by kernel_rfl) (by kernel_rfl)
theorem env60 (n : Nat × Nat) (SS : List Int → Int → Int → Option R60) (hSS : FCs Try.prog 60 (phiOf pk60 rk60 (fun xs => SS xs.1 xs.2.1 xs.2.2.1))) : EnvOK Try.prog (E60 n SS) := envOK0 (consPhi_ok hSS call60 noPhi_ok) rfl rfl
theorem par60 (n : Nat × Nat) (SS : List Int → Int → Int → Option R60) : EnvPar (E60 n SS) := envPar0 (consPhi_par phiOf_Par1 noPhi_par) rfl
theorem FCT60 (n : Nat × Nat) : ∀ d : Nat, FCs Try.prog 60 (phiOf pk60 rk60 (fun xs => T60 n d xs.1 xs.2.1 xs.2.2.1))
  | 0 => phiOf_FCs fun xs r h => by cases h
  | d + 1 => phiOf_FCs fun xs r h vs hv => FC.of_runG tabOK eqsOK (env60 n (T60 n d) (FCT60 n d)) (par60 n (T60 n d)) mixed (fun _ p _ => noScope_ok p.1 p.2) Try.func60 (c := c60) (an := an60) (pks := pk60) (rks := rk60) (by kernel_rfl) (by kernel_rfl) hv ((B60_run n (T60 n d) xs).symm.trans h)
theorem FC60 (n : Nat × Nat) : FCs Try.prog 60 (P60 n) := FCT60 n n.1
abbrev R20 := List Int × Int
noncomputable def c20 : Code := bodyOf Try.f20
noncomputable def an20 : Ann := (.s .l (.s (.s .l (.s .l (.j [0, 1, 40, 41, 42, 43, 44, 45, 46, 47, 48, 49, 50] .l .l))) (.s .l (.s .l (.s (.s .l (.j [8] (.j [0, 1, 7, 8, 25, 26, 27, 40, 41, 42, 43, 44, 45, 46, 47, 48, 49, 50] (.s .l (.s (.j [0, 1, 7, 8, 25, 26, 27, 40, 41, 42, 43, 44, 45, 46, 47, 48, 49, 50] .l .l) (.s (.j [0, 1, 7, 8, 25, 26, 27, 40, 41, 42, 43, 44, 45, 46, 47, 48, 49, 50] (.s .l (.s .l (.s .l (.s (.j [0, 1, 7, 8, 10, 12, 25, 26, 27, 40, 41, 42, 43, 44, 45, 46, 47, 48, 49, 50] (.j [0, 1, 7, 8, 10, 11, 12, 25, 26, 27, 40, 41, 42, 43, 44, 45, 46, 47, 48, 49, 50] (.s (.s .l (.j [0, 1, 7, 8, 10, 11, 12, 25, 26, 27, 40, 41, 42, 43, 44, 45, 46, 47, 48, 49, 50] .l .l)) (.j [0, 1, 7, 8, 10, 11, 12, 25, 26, 27, 40, 41, 42, 43, 44, 45, 46, 47, 48, 49, 50] .l .l)) .l) .l) .l)))) .l) .l))) .l) .l)) .l)))))
def pk20 : List PK := [.c (.sl (.int .i64)), .c (.int .i64)]
def rk20 : List RK := [.own (.int .i64) 4, .c (.int .i64) 5]
noncomputable def rt20 (st : St) : Option R20 := rtG rk20 st
noncomputable def E20 (n : Nat × Nat) : Env := { T := tab, phi := (consPhi 56 (fun _ => true) (P56 n) (consPhi 57 (fun _ => true) (P57 n) (consPhi 60 (fun _ => true) (P60 n) noPhi))), eff := fun _ => false, fuel := n.1, hold := n.2 }
noncomputable def kq20_3 (n : Nat × Nat) : St → Option R20 := run (E20 n) (cB (cB (cB (cB (cB c20))))) (Ann.snd (Ann.snd (Ann.snd (Ann.snd (Ann.snd an20))))) rt20 (fun _ _ => none) rt20
noncomputable def xb20_5 (n : Nat × Nat) : Nat → St → Option R20 := fun j s => bif Nat.beq j 0 then normC [8] s (kq20_3 n) else (fun _ _ => none) j s
noncomputable def F20_6 (n : Nat × Nat) : (St → Option R20) → St → Option R20 := fun K s => run (E20 n) (cA (cA (cB (cA (cB (cB (cB (cB c20)))))))) (Ann.fst (Ann.fst (Ann.snd (Ann.fst (Ann.snd (Ann.snd (Ann.snd (Ann.snd an20)))))))) (fun s => normC [0, 1, 7, 8, 25, 26, 27, 40, 41, 42, 43, 44, 45, 46, 47, 48, 49, 50] s K) (xb20_5 n) rt20 s
noncomputable def kq20_9 (n : Nat × Nat) (m1 : Nat) : St → Option R20 := run (E20 n) (cB (cB (cB (cA (cA (cB (cA (cB (cB (cB (cB c20))))))))))) (Ann.snd (Ann.snd (Ann.snd (Ann.fst (Ann.fst (Ann.snd (Ann.fst (Ann.snd (Ann.snd (Ann.snd (Ann.snd an20))))))))))) (fun s => normC [0, 1, 7, 8, 25, 26, 27, 40, 41, 42, 43, 44, 45, 46, 47, 48, 49, 50] s (loopN (F20_6 n) m1)) (xb20_5 n) rt20
noncomputable def kc20_10 (n : Nat × Nat) (m1 : Nat) : St → Option R20 := fun s => normC [0, 1, 7, 8, 25, 26, 27, 40, 41, 42, 43, 44, 45, 46, 47, 48, 49, 50] s (kq20_9 n m1)
noncomputable def xb20_11 (n : Nat × Nat) (m1 : Nat) : Nat → St → Option R20 := fun j s => bif Nat.beq j 1 then normC [0, 1, 7, 8, 25, 26, 27, 40, 41, 42, 43, 44, 45, 46, 47, 48, 49, 50] s (kq20_9 n m1) else (xb20_5 n) j s
noncomputable def kq20_12 (n : Nat × Nat) (m1 : Nat) : St → Option R20 := run (E20 n) (cB (cB (cB (cB (cA (cA (cB (cB (cA (cA (cB (cA (cB (cB (cB (cB c20)))))))))))))))) (Ann.snd (Ann.snd (Ann.snd (Ann.snd (Ann.fst (Ann.fst (Ann.snd (Ann.snd (Ann.fst (Ann.fst (Ann.snd (Ann.fst (Ann.snd (Ann.snd (Ann.snd (Ann.snd an20)))))))))))))))) (kc20_10 n m1) (xb20_11 n m1) rt20
noncomputable def xb20_14 (n : Nat × Nat) (m1 : Nat) : Nat → St → Option R20 := fun j s => bif Nat.beq j 2 then normC [0, 1, 7, 8, 10, 12, 25, 26, 27, 40, 41, 42, 43, 44, 45, 46, 47, 48, 49, 50] s (kq20_12 n m1) else (xb20_11 n m1) j s
noncomputable def F20_15 (n : Nat × Nat) (m1 : Nat) : (St → Option R20) → St → Option R20 := fun K s => run (E20 n) (cA (cA (cA (cB (cB (cB (cA (cA (cB (cB (cA (cA (cB (cA (cB (cB (cB (cB c20)))))))))))))))))) (Ann.fst (Ann.fst (Ann.fst (Ann.snd (Ann.snd (Ann.snd (Ann.fst (Ann.fst (Ann.snd (Ann.snd (Ann.fst (Ann.fst (Ann.snd (Ann.fst (Ann.snd (Ann.snd (Ann.snd (Ann.snd an20)))))))))))))))))) (fun s => normC [0, 1, 7, 8, 10, 11, 12, 25, 26, 27, 40, 41, 42, 43, 44, 45, 46, 47, 48, 49, 50] s K) (xb20_14 n m1) rt20 s
noncomputable def L20_1 (n : Nat × Nat) (m : Nat) (coins0 : List Int) (sum1 : Int) (left7 : Int) (v25 : List Int) (v26 : Int) (v27 : Int) (out8 : List Int) : Option R20 := loopN (F20_6 n) m { tm := [.c (.sl (.int .i64) coins0 false), .c (.int .i64 sum1), uu, uu, uu, uu, uu, .c (.int .i64 left7), .own 8 none false, uu, uu, uu, uu, uu, uu, uu, uu, uu, uu, uu, uu, uu, uu, uu, uu, .c (.sl (.int .i64) v25 false), .c (.int .i64 v26), .c (.int .i64 v27), uu, uu, uu, uu, uu, uu, uu, uu, uu, uu, uu, uu, uu, uu, uu, uu, uu, uu, uu, uu, uu, uu, uu, uu, uu, uu, uu, uu, uu, uu, uu, uu, uu, uu, uu, uu, uu, uu, uu, uu], hp := (upd emp 8 (.arr (.int .i64) out8 false)) }
noncomputable def L20_2 (n : Nat × Nat) (m1 : Nat) (m : Nat) (coins0 : List Int) (sum1 : Int) (left7 : Int) (c10 : Int) (v11 : List Int) (v12 : Int) (v25 : List Int) (v26 : Int) (v27 : Int) (out8 : List Int) : Option R20 := loopN (F20_15 n m1) m { tm := [.c (.sl (.int .i64) coins0 false), .c (.int .i64 sum1), uu, uu, uu, uu, uu, .c (.int .i64 left7), .own 8 none false, uu, .c (.int .i64 c10), .c (.sl (.int .i64) v11 false), .c (.int .i64 v12), uu, uu, uu, uu, uu, uu, uu, uu, uu, uu, uu, uu, .c (.sl (.int .i64) v25 false), .c (.int .i64 v26), .c (.int .i64 v27), uu, uu, uu, uu, uu, uu, uu, uu, uu, uu, uu, uu, uu, uu, uu, uu, uu, uu, uu, uu, uu, uu, uu, uu, uu, uu, uu, uu, uu, uu, uu, uu, uu, uu, uu, uu, uu, uu, uu, uu], hp := (upd emp 8 (.arr (.int .i64) out8 false)) }
theorem L20_1_eq (n : Nat × Nat) (m1 : Nat) (coins0 : List Int) (sum1 : Int) (left7 : Int) (v25 : List Int) (v26 : Int) (v27 : Int) (out8 : List Int) : L20_1 n (m1 + 1) coins0 sum1 left7 v25 v26 v27 out8 =
 (bif decide (v27 < v26) then (idx v25 v27).bind fun x4' =>
 (bif bounds (some (wr .i64 (v27 + 1))) none none coins0.length then L20_2 n m1 n.1 coins0 sum1 left7 x4' (coins0.drop (Int.toNat (wr .i64 (v27 + 1)))) 0 v25 v26 v27 out8
 else none)
 else some (out8, 0)) := by kernel_rfl
theorem L20_2_eq (n : Nat × Nat) (m1 m2 : Nat) (coins0 : List Int) (sum1 : Int) (left7 : Int) (c10 : Int) (v11 : List Int) (v12 : Int) (v25 : List Int) (v26 : Int) (v27 : Int) (out8 : List Int) : L20_2 n m1 (m2 + 1) coins0 sum1 left7 c10 v11 v12 v25 v26 v27 out8 =
 ((bif (decide (v12 < left7) == true) then (S60 n v11 (wr .i64 (sum1 - (wr .i64 (v12 * c10)))) (wr .i64 (left7 - v12))).bind fun r5' =>
 some (!r5')
 else some false)).bind fun b6' =>
 (bif b6' then L20_2 n m1 m2 coins0 sum1 left7 c10 v11 (wr .i64 (v12 + 1)) v25 v26 v27 out8
 else (bif decide (out8.length + [v12].length ≤ lim) then L20_1 n m1 coins0 (wr .i64 (sum1 - (wr .i64 (v12 * c10)))) (wr .i64 (left7 - v12)) v25 v26 (wr .i64 (v27 + 1)) (out8 ++ [v12])
 else none)) := by kernel_rfl
noncomputable def S20 (n : Nat × Nat) (coins0 : List Int) (sum1 : Int) : Option R20 := run (E20 n) c20 an20 rt20 (fun _ _ => none) rt20 { tm := [.c (.sl (.int .i64) coins0 false), .c (.int .i64 sum1), uu, uu, uu, uu, uu, uu, uu, uu, uu, uu, uu, uu, uu, uu, uu, uu, uu, uu, uu, uu, uu, uu, uu, uu, uu, uu, uu, uu, uu, uu, uu, uu, uu, uu, uu, uu, uu, uu, uu, uu, uu, uu, uu, uu, uu, uu, uu, uu, uu, uu, uu, uu, uu, uu, uu, uu, uu, uu, uu, uu, uu, uu, uu, uu, uu, uu], hp := emp }
theorem S20_eq (n : Nat × Nat) (coins0 : List Int) (sum1 : Int) : S20 n coins0 sum1 =
 (S56 n coins0 sum1).bind fun r1' =>
 (bif (r1' != 0) then some ([], r1')
 else (S57 n coins0 sum1).bind fun r2' =>
 (bif inB sum1 r2'.length then (idx r2' sum1).bind fun x3' =>
        L20_1 n n.1 coins0 sum1 x3' coins0 (coins0.length : Int) 0 []
 else none)) := by kernel_rfl
theorem S20_run (n : Nat × Nat) (xs : pksDen pk20) : S20 n xs.1 xs.2.1 = runG (E20 n) noScope c20 an20 (rtG rk20) (fun _ _ => none) (rtG rk20) (st0 pk20 xs Try.f20.ntmps) := by kernel_rfl
noncomputable def P20 (n : Nat × Nat) := phiOf pk20 rk20 (fun xs => S20 n xs.1 xs.2.1)
theorem call20 : CallOK Try.prog 20 := callOK_of Try.func20 (by kernel_rfl) (by kernel_rfl)
theorem env20 (n : Nat × Nat) : EnvOK Try.prog (E20 n) := envOK0 (consPhi_ok (FC56 n) call56 (consPhi_ok (FC57 n) call57 (consPhi_ok (FC60 n) call60 noPhi_ok))) rfl rfl
theorem par20 (n : Nat × Nat) : EnvPar (E20 n) := envPar0 (consPhi_par phiOf_Par1 (consPhi_par phiOf_Par1 (consPhi_par phiOf_Par1 noPhi_par))) rfl
theorem FC20 (n : Nat × Nat) : FCs Try.prog 20 (P20 n) := phiOf_FCs fun xs r h vs hv => FC.of_runG tabOK eqsOK (env20 n) (par20 n) mixed (fun _ p _ => noScope_ok p.1 p.2) Try.func20 (c := c20) (an := an20) (pks := pk20) (rks := rk20) (by kernel_rfl) (by kernel_rfl) hv ((S20_run n xs).symm.trans h)
end Go.Proofs.Ytjgmfdgpgdaclaa
set_option linter.unusedVariables false
set_option linter.unusedSimpArgs false
set_option maxRecDepth 100000
namespace Go.Proofs.Ytjgmfdgpgdaclaa
open Go.RowKit Go.Shelf
attribute [local go_sem] Oper.semAt_some
/-- The numbers from one on, the last one first. -/
def bw (len m : Nat) : List (Fin len) := ((List.finRange len).drop m).reverse
theorem bw_top (len : Nat) : bw len len = [] := by simp [bw]
theorem bw_snoc (len m : Nat) (h : m < len) : bw len m = bw len (m + 1) ++ [⟨m, h⟩] := by
  unfold bw
  rw [List.drop_eq_getElem_cons (by simpa using h)]
  simp
theorem bw_length (len m : Nat) : (bw len m).length = len - m := by simp [bw]
/-- What a round keeps: what lay below n₀, and the box that holds the slice. -/
def KpB (n₀ Bs : Nat) (W W' : World) : Prop := Below n₀ W W' ∧ W'.heap[Bs]? = W.heap[Bs]?
theorem KpB.refl (n₀ Bs : Nat) (W : World) : KpB n₀ Bs W W := ⟨Below.refl _ _, rfl⟩
theorem KpB.trans {n₀ Bs : Nat} {A B C : World} (h : KpB n₀ Bs A B) (k : KpB n₀ Bs B C) : KpB n₀ Bs A C := ⟨h.1.trans k.1, k.2.trans h.2⟩
theorem KpB.b {w : World} {n₀ Bs : Nat} (hn : n₀ ≤ w.heap.size) (hb : Bs < w.heap.size) (W : World) (l : Nat) (o o' : Obj) (hl : w.heap.size ≤ l) (ho : W.heap[l]? = some o) (hc : o.isCells = false) (hw : o.isWalk = false) : KpB n₀ Bs W (W.putObj l o') :=
  ⟨belowK_b hn W l o o' hl ho hc hw, World.putObj_heap_other (by omega)⟩
set_option maxHeartbeats 2000000 in
/-- slices.Backward's closure, for every loop body that keeps what lay below n₀. -/
theorem back1_in (F : Fence) (n : Nat) (hC : F.fn 78) (hro : F.round = none) (hn : 1 ≤ n) (l Bs n₀ b off cap : Nat) (zs : List Int) (hreach : zs.length * 8 ≤ 140737488351232) (hb : b < n₀) (J Jx : List (Fin zs.length) → World → Prop)
    (hY : ∀ pre x W, J pre W → pre.length < zs.length → YieldAt F (n - 1) Try.prog l #[.int .i64 (x.val : Int), .int .i64 (zs[x.val]'x.isLt)] W fun e W' =>
      (e = .returned (.bool true) ∧ J (pre ++ [x]) W' ∧ KpB n₀ Bs W W') ∨ (e = .returned (.bool false) ∧ Jx (pre ++ [x]) W'))
    (W : World) (hBs : W.cell? ⟨Bs, 0, none⟩ = some (.slice (some ⟨b, off, none⟩) zs.length cap)) (hc : ∀ j (h : j < zs.length), W.cell? ⟨b, off + j, none⟩ = some (.int .i64 zs[j])) (h0 : J [] W) :
    CallsIn F n Try.prog 78 #[.func (.yield l) #[] #[], .pointer (some ⟨Bs, 0, none⟩)] W fun e W' => (∃ v, e = .returned v) ∧
      ((∃ ys, ys = bw zs.length 0 ∧ J ys W') ∨ (∃ pre, (∃ k, k < zs.length ∧ pre = bw zs.length k) ∧ Jx pre W')) := by
  refine callsIn_of_wp Try.func78 rfl hC ?_ hro
  simp only [Try.ntmps78, List.size_toArray, List.length_cons, List.length_nil, Nat.reduceAdd, Nat.reduceSub, Array.replicate_succ, Array.replicate_zero, List.push_toArray, List.append_toArray, List.nil_append, List.cons_append]
  gi_wp2
  gi_loopw [3] (fun i wr => (∃ k : Nat, k < zs.length ∧ i = .int .i64 k ∧ J (bw zs.length (k + 1)) wr ∧ KpB n₀ Bs W wr) ∨ (i = .int .i64 (-1) ∧ J (bw zs.length 0) wr ∧ KpB n₀ Bs W wr))
    (fun i _ => (intOf i + 1).toNat)
  case atStart =>
    rcases Nat.eq_zero_or_pos zs.length with h | h
    · exact .inr ⟨by simp [h], by rw [List.eq_nil_of_length_eq_zero ((bw_length zs.length 0).trans (by omega))]; exact h0, KpB.refl _ _ _⟩
    · exact .inl ⟨zs.length - 1, by omega, by congr 1; omega, by rw [show zs.length - 1 + 1 = zs.length by omega, bw_top]; exact h0, KpB.refl _ _ _⟩
  case round =>
    rcases hrel with ⟨k, hk, rfl, hJs, hnx⟩ | ⟨rfl, hJs, hnx⟩
    · have hcx := (hnx.1.cell (p := ⟨b, off + k, none⟩) hb).trans (hc k hk)
      have hBs' : wr.cell? ⟨Bs, 0, none⟩ = some (.slice (some ⟨b, off, none⟩) zs.length cap) := by rw [← hBs]; simp only [World.cell?, hnx.2]
      obtain ⟨fn, tmps, assign, body, hy, hR⟩ := hY _ ⟨k, hk⟩ wr hJs (by rw [bw_length]; omega)
      dsimp only at hy
      gi_wp2
      refine hR.mono ?_
      rintro e W3 (⟨rfl, hJ3, hk3⟩ | ⟨rfl, hJx3⟩)
      · rw [← bw_snoc _ _ hk] at hJ3
        gi_wp2
        go_roundw
        case rel =>
          cases k with
          | zero => exact .inr ⟨by simp, hJ3, hnx.trans hk3⟩
          | succ k => exact .inl ⟨k, by omega, by congr 1; omega, hJ3, hnx.trans hk3⟩
        case measure => simp [intOf]
      · rw [← bw_snoc _ _ hk] at hJx3
        gi_wp2
        refine bodyPost_ret (results_none rfl _ _ _) rfl ?_
        exact ⟨⟨_, rfl⟩, .inr ⟨_, ⟨k, hk, rfl⟩, hJx3⟩⟩
    · gi_wp2
      go_end0
      exact ⟨⟨_, rfl⟩, .inl ⟨_, rfl, hJs⟩⟩
set_option maxHeartbeats 1000000 in
/-- slices.Backward(s): the slice value is boxed; the function value captures the box. -/
theorem back_in (F : Fence) (n : Nat) (hB : F.fn 72) (hro : F.round = none) (a : Option Addr) (len cap : Nat) (w : World) :
    CallsIn F n Try.prog 72 #[.slice a len cap] w fun e w' => e = .returned (.func (.func 78) #[] #[.pointer (some ⟨w.heap.size, 0, none⟩)]) ∧ w' = w.alloc (.cells #[.slice a len cap] 22) := by
  refine callsIn_of_wp Try.func72 rfl hB ?_ hro
  simp only [Try.ntmps72, List.size_toArray, List.length_cons, List.length_nil, Nat.reduceAdd, Nat.reduceSub, Array.replicate_succ, Array.replicate_zero, List.push_toArray, List.append_toArray, List.nil_append, List.cons_append]
  gi_wp2
  go_ret
  exact ⟨rfl, rfl⟩
/-- slices.Backward(s) hands back a value that 'SeqStopsK'. -/
theorem back_stops (F : Fence) (n : Nat) (hC : F.fn 78) (hro : F.round = none) (hn : 1 ≤ n) (Bs n₀ b off cap : Nat) (zs : List Int) (hreach : zs.length * 8 ≤ 140737488351232) (w : World) (hBs : Bs < w.heap.size) (hn₀ : n₀ ≤ w.heap.size)
    (hc : w.cell? ⟨Bs, 0, none⟩ = some (.slice (some ⟨b, off, none⟩) zs.length cap)) (hb : b < n₀) (hcs : ∀ j (h : j < zs.length), w.cell? ⟨b, off + j, none⟩ = some (.int .i64 zs[j])) :
    SeqStopsK F n Try.prog 78 #[.pointer (some ⟨Bs, 0, none⟩)] (fun x : Fin zs.length => #[Value.int .i64 (x.val : Int), Value.int .i64 (zs[x.val]'x.isLt)]) (KpB n₀ Bs) (fun ys => ys = bw zs.length 0)
      (fun pre => ∃ k, k < zs.length ∧ pre = bw zs.length k) zs.length w := fun l J Jx W hW _ _ hY h0 => by
  have hc' := (hW.cell (p := ⟨Bs, 0, none⟩) hBs).trans hc
  exact back1_in F n hC hro hn l Bs n₀ b off cap zs hreach hb J Jx hY W hc' (fun j hj => (hW.cell (p := ⟨b, off + j, none⟩) (Nat.lt_of_lt_of_le hb hn₀)).trans (hcs j hj)) h0
end Go.Proofs.Ytjgmfdgpgdaclaa
/-
  What the walks by hand share: blocks of cells; numbers that are handed in; numbers that go out.
-/
set_option linter.unusedVariables false
set_option linter.unusedSimpArgs false
set_option maxRecDepth 100000
namespace Go.Proofs.Ytjgmfdgpgdaclaa
open Go.RowKit Go.Shelf
/-- A block of cells. -/
def Blk (W : World) (b : Nat) (cur : Array Value) (t : TypeId) : Prop := W.heap[b]? = some (.cells cur t (0, 0))
theorem Blk.cell {W : World} {b : Nat} {cur : Array Value} {t : TypeId} (h : Blk W b cur t) (j : Nat) {v : Value} (hv : cur[j]? = some v) : W.cell? ⟨b, j, none⟩ = some v := by simp [World.cell?, show W.heap[b]? = _ from h, hv]
theorem Blk.frozen {W : World} {b : Nat} {cur : Array Value} {t : TypeId} (h : Blk W b cur t) (j : Nat) : W.frozen? ⟨b, j, none⟩ = false := by simp [World.frozen?, show W.heap[b]? = _ from h]
theorem Blk.lt {W : World} {b : Nat} {cur : Array Value} {t : TypeId} (h : Blk W b cur t) : b < W.heap.size := (Array.getElem?_eq_some_iff.1 h).1
theorem Blk.kept {W W' : World} {row : Option Nat} {b : Nat} {cur : Array Value} {t : TypeId} (h : Blk W b cur t) (hg : W.grownBy W' row) (hne : some b ≠ row) : Blk W' b cur t := (hg.block b h.lt hne).trans h
theorem Blk.alloc {W : World} {b : Nat} {cur : Array Value} {t : TypeId} (h : Blk W b cur t) (o : Obj) : Blk (W.alloc o) b cur t := h.kept (World.grownBy_alloc W o none) (by simp)
theorem Blk.new (W : World) (cur : Array Value) (t : TypeId) : Blk (W.alloc (.cells cur t)) W.heap.size cur t := World.alloc_heap_new W _
theorem Blk.set {W : World} {b : Nat} {cur : Array Value} {t : TypeId} (h : Blk W b cur t) (j : Nat) (v : Value) : Blk (W.setCell ⟨b, j, none⟩ v) b (cur.setIfInBounds j v) t := heap_setCell_same W b j cur t v h
theorem Blk.other {W : World} {b : Nat} {cur : Array Value} {t : TypeId} (h : Blk W b cur t) {b' : Nat} (j : Nat) (v : Value) (hne : b ≠ b') : Blk (W.setCell ⟨b', j, none⟩ v) b cur t :=
  (heap_setCell_other W ⟨b', j, none⟩ b v (fun e => hne e)).trans h
theorem blk_own {β : Type} (b : Nat) (t : TypeId) (f : β → Array Value) : Own (fun s W => Blk W b (f s) t) := fun s X Y row hs hg hrow =>
  hs.kept hg (fun e' => by obtain ⟨o, ho, hc⟩ := hrow b e'.symm; rw [show X.heap[b]? = _ from hs] at ho; cases ho; cases hc)
theorem Own.and {β : Type} {I J : β → World → Prop} (h : Own I) (k : Own J) : Own (fun s W => I s W ∧ J s W) := fun s X Y row hs hg hr => ⟨h s X Y row hs.1 hg hr, k s X Y row hs.2 hg hr⟩
theorem own_pure {β : Type} (p : β → Prop) : Own (fun s (_ : World) => p s) := fun _ _ _ _ hs _ _ => hs
def rowI (l : List Int) : Array Value := (l.map (Value.int .i64)).toArray
theorem rowI_set (l : List Int) (i : Nat) (v : Int) : (rowI l).setIfInBounds i (.int .i64 v) = rowI (l.set i v) := by
  apply Array.toList_inj.1
  simp [rowI, List.map_set]
open Go.Vi
/-- A slice of numbers that was handed in. -/
theorem CR_ints {w : World} {A : Nat → Prop} {zs : List Int} {t : Bool} {v : Value} (h : CR w A (.sl (.int .i64) zs t) v) (h0 : 0 < zs.length) (hA : ∀ b, A b → b < w.heap.size) :
    ∃ b off cap, v = .slice (some ⟨b, off, none⟩) zs.length cap ∧ b < w.heap.size ∧ ∀ j (h : j < zs.length), w.cell? ⟨b, off + j, none⟩ = some (.int .i64 zs[j]) := by
  obtain ⟨a, cap, rfl, hcap, _, hr⟩ := h
  rcases hr with hr | ⟨b, o, cur, et, fz, rfl, hb, hc, hl, hx⟩
  · rw [hr] at h0; exact absurd h0 (by simp)
  · refine ⟨b, o, cap, rfl, hA b hb, fun j hj => ?_⟩
    have h1 := hx j zs[j] (by simp)
    have h2 : (cur.toList.drop (o + j * 1)).take 1 = [.int .i64 zs[j]] := h1
    have h3 : cur.toList[o + j]? = some (.int .i64 zs[j]) := by
      rw [Nat.mul_one] at h2
      have := congrArg (fun l => l[0]?) h2
      simpa [List.getElem?_take, List.getElem?_drop] using this
    have h4 : cur[o + j]? = some (.int .i64 zs[j]) := by rw [← Array.getElem?_toList]; exact h3
    show (match w.heap[b]? with | some (.cells c _ _) => c[o + j]? | _ => none) = _
    rw [hc]
    exact h4
/-- Numbers that go out in a new row. -/
theorem out_ints {w W' : World} {A1 : Nat → Prop} {b cap : Nat} {l : List Int} {cur : Array Value} {t : TypeId} (hblk : Blk W' b cur t) (hb : w.heap.size ≤ b) (hcap : l.length ≤ cap) (hsz : cap ≤ cur.size) (hc : ∀ (i : Nat) (x : Int), l[i]? = some x → cur[i]? = some (Value.int .i64 x)) :
    RetR1 w W' A1 (.fresh (.int .i64) l false) (.at b cap) (.slice (some ⟨b, 0, none⟩) l.length cap) := by
  have hlt := hblk.lt
  refine ⟨⟨fun h => (by cases h), hcap, _, _, hblk, ?_, ?_⟩, ⟨rfl, hcap, fun h => (by cases h)⟩, fun b' c' h => ?_⟩
  · show cap * 1 ≤ _
    omega
  · intro i x hi
    show ((cur.toList.drop (i * 1)).take 1) = [.int .i64 x]
    have h1 := hc i x hi
    rw [Nat.mul_one]
    have hlt := (Array.getElem?_eq_some_iff.1 h1).1
    rw [List.drop_eq_getElem_cons (by simpa using hlt)]
    simp [(Array.getElem?_eq_some_iff.1 h1).2]
  · cases h
    exact ⟨hb, hlt⟩
theorem rowI_get {l : List Int} {i : Nat} {x : Int} (h : l[i]? = some x) : (rowI l)[i]? = some (.int .i64 x) := by
  simp [rowI, h]
theorem rowI_size (l : List Int) : (rowI l).size = l.length := by simp [rowI]
/-- A call of a function that reads a list of numbers and gives one number. -/
theorem call_list {g : FuncId} {rk : List RK} {t : Nat} {S : pksDen [.c (.sl (.int .i64))] → Option (rksDen [.c (.int .i64) t])} (h : FCs Try.prog g (phiOf [.c (.sl (.int .i64))] [.c (.int .i64) t] S)) {zs : List Int} {e : Int} (hs : S (zs, ()) = some e)
    {w w1 : World} {A0 : Nat → Prop} {v : Value} (hA : ∀ b, A0 b → b < w.heap.size) (hv : CR w A0 (.sl (.int .i64) zs false) v) (hg : Below w.heap.size w w1) :
    Calls Try.prog g #[v] w1 fun x w2 => x = .returned (.int .i64 e) ∧ Below w1.heap.size w1 w2 := by
  obtain ⟨ret, h1, h2⟩ := h [.c (.sl (.int .i64) zs false)] _ some (rets [.c (.int .i64) t] e) (by
    show (pksArg [.c (.sl (.int .i64))] [.c (.sl (.int .i64) zs false)]).bind _ = _
    rw [show pksArg [.c (.sl (.int .i64))] [.c (.sl (.int .i64) zs false)] = some (zs, ()) from rfl]
    simp only [Option.bind_some, hs])
  cases h1
  have hA2 : ∀ b, A0 b → A0 b ∧ w1.heap[b]? = w.heap[b]? := fun b hb => ⟨hb, hg.block b (hA b hb)⟩
  refine (h2 w1 A0 [v] (fun b hb => Nat.lt_of_lt_of_le (hA b hb) hg.size) ⟨CR.mono hA2 _ _ hv, trivial⟩ (fun _ _ h => by cases h)).mono ?_
  intro x w2 hx
  cases x with
  | returned u =>
    obtain ⟨hG, is, us, rfl, hR⟩ := hx
    match is, us, hR with
    | [i], [u], ⟨hu, _, _⟩ =>
      have hu : u = .int .i64 e := hu
      subst hu
      exact ⟨rfl, ⟨hG.os, hG.tape, hG.output, hG.size, hG.blk⟩⟩
    | [], [], hR => exact hR.elim
    | [], _ :: _, hR => exact hR.elim
    | [_], [], hR => exact hR.elim
    | [_], _ :: _ :: _, hR => exact hR.2.2.elim
    | _ :: _ :: _, [], hR => exact hR.elim
    | _ :: _ :: _, [_], hR => exact hR.2.2.elim
    | _ :: _ :: _, _ :: _ :: _, hR => exact hR.2.2.elim
  | _ => exact hx.elim
/-- A call of a function that reads a list of numbers and a number, and gives one number. -/
theorem call_list2 {g : FuncId} {rk : List RK} {t : Nat} {S : pksDen [.c (.sl (.int .i64)), .c (.int .i64)] → Option (rksDen [.c (.int .i64) t])} (h : FCs Try.prog g (phiOf [.c (.sl (.int .i64)), .c (.int .i64)] [.c (.int .i64) t] S)) {zs : List Int} {x e : Int} (hs : S (zs, x, ()) = some e)
    {w w1 : World} {A0 : Nat → Prop} {v : Value} (hA : ∀ b, A0 b → b < w.heap.size) (hv : CR w A0 (.sl (.int .i64) zs false) v) (hg : Below w.heap.size w w1) :
    Calls Try.prog g #[v, .int .i64 x] w1 fun y w2 => y = .returned (.int .i64 e) ∧ Below w1.heap.size w1 w2 := by
  obtain ⟨ret, h1, h2⟩ := h [.c (.sl (.int .i64) zs false), .c (.int .i64 x)] _ some (rets [.c (.int .i64) t] e) (by
    show (pksArg [.c (.sl (.int .i64)), .c (.int .i64)] [.c (.sl (.int .i64) zs false), .c (.int .i64 x)]).bind _ = _
    rw [show pksArg [.c (.sl (.int .i64)), .c (.int .i64)] [.c (.sl (.int .i64) zs false), .c (.int .i64 x)] = some (zs, x, ()) from rfl]
    simp only [Option.bind_some, hs])
  cases h1
  have hA2 : ∀ b, A0 b → A0 b ∧ w1.heap[b]? = w.heap[b]? := fun b hb => ⟨hb, hg.block b (hA b hb)⟩
  refine (h2 w1 A0 [v, .int .i64 x] (fun b hb => Nat.lt_of_lt_of_le (hA b hb) hg.size) ⟨CR.mono hA2 _ _ hv, rfl, trivial⟩ (fun _ _ h => by cases h)).mono ?_
  intro y w2 hx
  cases y with
  | returned u =>
    obtain ⟨hG, is, us, rfl, hR⟩ := hx
    match is, us, hR with
    | [i], [u], ⟨hu, _, _⟩ =>
      have hu : u = .int .i64 e := hu
      subst hu
      exact ⟨rfl, ⟨hG.os, hG.tape, hG.output, hG.size, hG.blk⟩⟩
    | [], [], hR => exact hR.elim
    | [], _ :: _, hR => exact hR.elim
    | [_], [], hR => exact hR.elim
    | [_], _ :: _ :: _, hR => exact hR.2.2.elim
    | _ :: _ :: _, [], hR => exact hR.elim
    | _ :: _ :: _, [_], hR => exact hR.2.2.elim
    | _ :: _ :: _, _ :: _ :: _, hR => exact hR.2.2.elim
  | _ => exact hx.elim
end Go.Proofs.Ytjgmfdgpgdaclaa
/-
  The payment by greatest coins: the walk.
-/
set_option linter.unusedVariables false
set_option linter.unusedSimpArgs false
set_option maxRecDepth 100000
namespace Go.Proofs.Ytjgmfdgpgdaclaa
open Go.RowKit Go.Shelf
section
attribute [local go_sem] Oper.semAt_some
def grStep (c : Int) (p : List Int × Int × Int) : List Int × Int × Int := (p.2.2 / c :: p.1, p.2.1 + p.2.2 / c, p.2.2 - p.2.2 / c * c)
def gr (l : List Int) (s : Int) : List Int × Int × Int := l.foldr grStep ([], 0, s)
def HF63 (l : List Int) (s : Int) : Option (List Int × Int) :=
  bif (l.all fun c => decide (1 ≤ c) && decide (c ≤ 1073741824)) && (decide (0 ≤ s) && decide (s ≤ 1073741824)) && (decide (0 < l.length) && decide (l.length ≤ 1048576)) then some ((gr l s).1, (gr l s).2.1) else none
/-- One coin more. -/
def gf (zs : List Int) (p : List Int × Int × Int) (i : Fin zs.length) : List Int × Int × Int := (p.1.set i.val (p.2.2 / zs[i]), p.2.1 + p.2.2 / zs[i], p.2.2 - p.2.2 / zs[i] * zs[i])
def gfs (zs : List Int) (s : Int) (pre : List (Fin zs.length)) : List Int × Int × Int := pre.foldl (gf zs) (List.replicate zs.length 0, 0, s)
theorem gfs_snoc (zs : List Int) (s : Int) (pre : List (Fin zs.length)) (i : Fin zs.length) : gfs zs s (pre ++ [i]) = gf zs (gfs zs s pre) i := by simp [gfs]
theorem run_mk (w : World) (n : Nat) (hn : n ≤ 1048576) : (Instr.makeSlice 22 (.int .i64 n) (.int .i64 n)).run Try.prog w = .ok (.slice (some ⟨w.heap.size, 0, none⟩) n n) (w.alloc (.cells (rowI (List.replicate n 0)) 3)) := by
  obtain ⟨i0, hi, hz0, hz1, hz2⟩ := info_parts (show (Try.prog.info? 3).map (fun i => (i.zero, i.size, i.bytes)) = some (some (.int .i64 0), 1, 8) by kernel_rfl)
  have h := run_make (P := Try.prog) w 22 3 i0 (.int .i64 0) (by kernel_rfl) hi hz0 .i64 .i64 n n (by omega) (Int.le_refl _) (by rw [hz2]; omega) (by omega)
  simp only [Int.toNat_natCast, hz1, Nat.mul_one] at h
  rw [h]
  have : madeCells (Value.int .i64 0).cells n = rowI (List.replicate n 0) := by
    apply Array.toList_inj.1
    rw [show (Value.int .i64 0).cells = #[.int .i64 0] from rfl, toList_madeCells_one]
    simp [rowI]
  rw [this]
/-- What the numbers stay within. -/
def gok (zs : List Int) (s : Int) (pre : List (Fin zs.length)) : Prop :=
  (gfs zs s pre).1.length = zs.length ∧ 0 ≤ (gfs zs s pre).2.1 ∧ 0 ≤ (gfs zs s pre).2.2 ∧ (gfs zs s pre).2.1 + (gfs zs s pre).2.2 ≤ 1073741824
theorem gok_snoc {zs : List Int} {s : Int} {pre : List (Fin zs.length)} (i : Fin zs.length) (h : gok zs s pre) (hc : 1 ≤ zs[i]) : gok zs s (pre ++ [i]) := by
  obtain ⟨h1, h2, h3, h4⟩ := h
  unfold gok
  rw [gfs_snoc]
  simp only [gf]
  have hd : 0 ≤ (gfs zs s pre).2.2 / zs[i] := Int.ediv_nonneg h3 (by omega)
  have hm : (gfs zs s pre).2.2 / zs[i] * zs[i] ≤ (gfs zs s pre).2.2 := Int.ediv_mul_le _ (by omega)
  have hk : (gfs zs s pre).2.2 / zs[i] * 1 ≤ (gfs zs s pre).2.2 / zs[i] * zs[i] := Int.mul_le_mul_of_nonneg_left hc hd
  refine ⟨by simpa using h1, by omega, by omega, by omega⟩
set_option maxHeartbeats 4000000 in
theorem great_in (F : Fence) (n : Nat) (h63 : F.fn 63) (h72 : F.fn 72) (h78 : F.fn 78) (hro : F.round = none) (hn : 3 ≤ n) (b off cap : Nat) (zs : List Int) (s : Int) (hreach : zs.length ≤ 1048576) (h0 : 0 < zs.length) (w : World) (hb : b < w.heap.size)
    (hcs : ∀ j (h : j < zs.length), w.cell? ⟨b, off + j, none⟩ = some (.int .i64 zs[j])) (hc1 : ∀ c ∈ zs, 1 ≤ c ∧ c ≤ 1073741824) (hs0 : 0 ≤ s) (hs1 : s ≤ 1073741824) :
    CallsIn F n Try.prog 63 #[.slice (some ⟨b, off, none⟩) zs.length cap, .int .i64 s] w fun e W' => e = .returned (.tuple #[.slice (some ⟨w.heap.size + 1, 0, none⟩) zs.length zs.length, .int .i64 (gfs zs s (bw zs.length 0)).2.1]) ∧
      Blk W' (w.heap.size + 1) (rowI (gfs zs s (bw zs.length 0)).1) 3 ∧ Below w.heap.size w W' := by
  have h1 : 1 ≤ n := by omega
  have hmk := fun w => run_mk w zs.length hreach
  refine callsIn_of_wp_marks Try.func63 rfl h63 ?_ hro
  simp only [Try.ntmps63, List.size_toArray, List.length_cons, List.length_nil, Nat.reduceAdd, Nat.reduceSub, Array.replicate_succ, Array.replicate_zero, List.push_toArray, List.append_toArray, List.nil_append, List.cons_append]
  gi_wp2_with (gi_at_call 72; refine (back_in F (n - 1) h72 hro _ _ _ _).mono ?_; rintro e w' ⟨rfl, rfl⟩)
  clear hmk
  generalize hW0 : World.alloc (World.alloc (World.alloc (World.alloc (World.alloc w _) _) _) _) _ = W0
  have b0 : Blk W0 w.heap.size #[.int .i64 s] 3 := by rw [← hW0]; exact ((((Blk.new w _ _).alloc _).alloc _).alloc _).alloc _
  have b1 : Blk W0 (w.heap.size + 1) (rowI (List.replicate zs.length 0)) 3 := by
    rw [← hW0]
    have := Blk.new (w.alloc (.cells #[.int .i64 s] 3)) (rowI (List.replicate zs.length 0)) 3
    rw [World.size_alloc] at this
    exact ((this.alloc _).alloc _).alloc _
  have b2 : Blk W0 (w.heap.size + 2) #[.slice (some ⟨w.heap.size + 1, 0, none⟩) zs.length zs.length] 22 := by
    rw [← hW0]
    have := Blk.new ((w.alloc (.cells #[.int .i64 s] 3)).alloc (.cells (rowI (List.replicate zs.length 0)) 3)) #[.slice (some ⟨w.heap.size + 1, 0, none⟩) zs.length zs.length] 22
    simp only [World.size_alloc, Nat.add_assoc, Nat.reduceAdd] at this
    exact (this.alloc _).alloc _
  have b3 : Blk W0 (w.heap.size + 3) #[.int .i64 0] 3 := by
    rw [← hW0]
    have := Blk.new (((w.alloc (.cells #[.int .i64 s] 3)).alloc (.cells (rowI (List.replicate zs.length 0)) 3)).alloc (.cells #[.slice (some ⟨w.heap.size + 1, 0, none⟩) zs.length zs.length] 22)) #[.int .i64 0] 3
    simp only [World.size_alloc, Nat.add_assoc, Nat.reduceAdd] at this
    exact this.alloc _
  have b4 : Blk W0 (w.heap.size + 4) #[.slice (some ⟨b, off, none⟩) zs.length cap] 22 := by
    rw [← hW0]
    have := Blk.new ((((w.alloc (.cells #[.int .i64 s] 3)).alloc (.cells (rowI (List.replicate zs.length 0)) 3)).alloc (.cells #[.slice (some ⟨w.heap.size + 1, 0, none⟩) zs.length zs.length] 22)).alloc (.cells #[.int .i64 0] 3)) #[.slice (some ⟨b, off, none⟩) zs.length cap] 22
    simp only [World.size_alloc, Nat.add_assoc, Nat.reduceAdd] at this
    exact this
  have hsz : W0.heap.size = w.heap.size + 5 := by rw [← hW0]; simp
  have hB0 : Below w.heap.size w W0 := by
    rw [← hW0]
    exact ((((((Below.refl _ w).alloc (Nat.le_refl _) _).alloc (by simp) _).alloc (by simp; omega) _).alloc (by simp; omega) _).alloc (by simp; omega) _)
  simp only [Nat.add_assoc, Nat.reduceAdd]
  have hcs0 : ∀ j (h : j < zs.length), W0.cell? ⟨b, off + j, none⟩ = some (.int .i64 zs[j]) := fun j hj => (hB0.cell (p := ⟨b, off + j, none⟩) hb).trans (hcs j hj)
  have hmem : ∀ i : Fin zs.length, 1 ≤ zs[i.val] ∧ zs[i.val] ≤ 1073741824 := fun i => hc1 _ (List.getElem_mem _)
  refine wpIn_rangeFunc_ownG hro h1 (gf := 78) (lb := #[.pointer (some ⟨w.heap.size + 4, 0, none⟩)]) rfl h78 (enters_of Try.func78 (by kernel_rfl) rfl)
    (back_stops F (n - 1) h78 hro (by omega) (w.heap.size + 4) w.heap.size b off cap zs (by omega) W0 (by omega) (by omega) (b4.cell 0 rfl) hb hcs0) KpB.trans (KpB.b (by omega) (by omega)) (Below.refl _ _) (fun _ => rfl)
    (fun pre W => (Blk W w.heap.size #[.int .i64 (gfs zs s pre).2.2] 3 ∧ Blk W (w.heap.size + 1) (rowI (gfs zs s pre).1) 3 ∧ Blk W (w.heap.size + 2) #[.slice (some ⟨w.heap.size + 1, 0, none⟩) zs.length zs.length] 22 ∧
      Blk W (w.heap.size + 3) #[.int .i64 (gfs zs s pre).2.1] 3 ∧ gok zs s pre) ∧ Below w.heap.size w W)
    (fun _ _ _ => False)
    (OwnFrom.and (Own.from (Own.and (blk_own _ _ _) (Own.and (blk_own _ _ _) (Own.and (blk_own _ _ _) (Own.and (blk_own _ _ _) (own_pure _))))) _) (ownFrom_below (Nat.le_refl _) (by omega)))
    (fun _ _ _ _ _ hs _ _ => hs)
    ⟨⟨b0, b1, b2, b3, by simp [gok, gfs]; omega⟩, hB0⟩
    (fun x => { tmps := #[Value.slice (some ⟨b, off, none⟩) zs.length cap, .int .i64 s, undef, .pointer (some ⟨w.heap.size, 0, none⟩), .slice none 0 0, .int .i64 0, .pointer (some ⟨w.heap.size + 2, 0, none⟩), .pointer (some ⟨w.heap.size + 3, 0, none⟩), .int .i64 (x.val : Int), .int .i64 zs[x.val], .slice (some ⟨b, off, none⟩) zs.length cap, .int .i64 zs.length, .slice (some ⟨w.heap.size + 1, 0, none⟩) zs.length zs.length, .slice (some ⟨b, off, none⟩) zs.length cap, .func (.func 78) #[] #[.pointer (some ⟨w.heap.size + 4, 0, none⟩)], .int .i64 (x.val : Int), .int .i64 zs[x.val], undef, undef, undef, undef, undef, undef, undef, undef, undef, undef, undef, undef, undef, undef, undef, undef, undef, undef, undef, undef, undef, undef], defers := [] }) ?assign ?body ?done ?stop
  case assign =>
    intro l x W K hK
    gi_wp2
    exact hK
  case body =>
    rintro l pre x W ⟨⟨c0, c1, c2, c3, hok⟩, hB⟩ hlen
    have hsx : ∀ y : Int, (rowI (gfs zs s pre).1)[x.val]? = some (.int .i64 ((gfs zs s pre).1[x.val]?.getD 0)) := fun _ => by
      have := hok.1
      have hx := x.isLt
      simp [rowI, List.getElem?_map]
      rw [List.getElem?_eq_getElem (by omega)]
      simp
    have e0 := c0.cell 0 rfl
    have f0 := c0.frozen 0
    have e1 := c1.cell x.val (hsx 0)
    have f1 := c1.frozen x.val
    have e2 := c2.cell 0 rfl
    have e3 := c3.cell 0 rfl
    have f3 := c3.frozen 0
    obtain ⟨hx1, hx2⟩ := hmem x
    have hxl := x.isLt
    obtain ⟨k1, k2, k3, k4⟩ := hok
    have hgf := gfs_snoc zs s pre x
    have hok' := gok_snoc x ⟨k1, k2, k3, k4⟩ hx1
    simp only [gf, Fin.getElem_fin] at hgf
    generalize hgc : zs[x.val] = c at hx1 hx2 hgf ⊢
    generalize hs0' : (gfs zs s pre).2.2 = s0 at *
    generalize hn0' : (gfs zs s pre).2.1 = n0 at *
    have hd : 0 ≤ s0 / c := Int.ediv_nonneg k3 (by omega)
    have hm : s0 / c * c ≤ s0 := Int.ediv_mul_le _ (by omega)
    have hm0 : 0 ≤ s0 / c * c := Int.mul_nonneg hd (by omega)
    have hk : s0 / c * 1 ≤ s0 / c * c := Int.mul_le_mul_of_nonneg_left hx1 hd
    have hdd : s0 / c ≤ 1073741824 := by omega
    have hw1 : IntKind.i64.wrap (s0 / c * c) = s0 / c * c := by rw [IntKind.wrap_i64]; omega
    have hw2 : IntKind.i64.wrap (s0 - s0 / c * c) = s0 - s0 / c * c := by rw [IntKind.wrap_i64]; omega
    have hw3 : IntKind.i64.wrap (n0 + s0 / c) = n0 + s0 / c := by rw [IntKind.wrap_i64]; omega
    gi_wp2
    refine wpIn_mono (Q := fun e a w2 => e = Exit.normal ∧ a = { tmps := #[Value.slice (some ⟨b, off, none⟩) zs.length cap, .int .i64 s, undef, .pointer (some ⟨w.heap.size, 0, none⟩), .slice none 0 0, .int .i64 0, .pointer (some ⟨w.heap.size + 2, 0, none⟩), .pointer (some ⟨w.heap.size + 3, 0, none⟩), .int .i64 (x.val : Int), .int .i64 c, .slice (some ⟨b, off, none⟩) zs.length cap, .int .i64 zs.length, .slice (some ⟨w.heap.size + 1, 0, none⟩) zs.length zs.length, .slice (some ⟨b, off, none⟩) zs.length cap, .func (.func 78) #[] #[.pointer (some ⟨w.heap.size + 4, 0, none⟩)], .int .i64 (x.val : Int), .int .i64 c, .slice (some ⟨w.heap.size + 1, 0, none⟩) zs.length zs.length, .int .i64 (x.val : Int), .int .i64 s0, .int .i64 c, .int .i64 (s0 / c), .pointer (some ⟨w.heap.size + 1, x.val, none⟩), undef, undef, undef, undef, undef, undef, undef, undef, undef, undef, undef, undef, undef, undef, undef, undef], defers := [] } ∧ w2 = ((W.setCell ⟨w.heap.size + 1, x.val, none⟩ (.int .i64 (s0 / c))).drew)) ?_ ?_
    · gi_region
      all_goals (refine ⟨rfl, ?_, ?_⟩ <;> first | with_reducible rfl | simp only [hw1, hw2, hw3])
    rintro _ _ _ ⟨rfl, rfl, rfl⟩
    dsimp only [Exit.then]
    go_at_K
    generalize hW1 : ((W.setCell ⟨w.heap.size + 1, x.val, none⟩ (.int .i64 (s0 / c))).drew) = W1
    have d0 : Blk W1 w.heap.size #[.int .i64 s0] 3 := by rw [← hW1]; exact c0.other _ _ (by omega)
    have d1 : Blk W1 (w.heap.size + 1) ((rowI (gfs zs s pre).1).setIfInBounds x.val (.int .i64 (s0 / c))) 3 := by rw [← hW1]; exact c1.set _ _
    have d2 : Blk W1 (w.heap.size + 2) #[.slice (some ⟨w.heap.size + 1, 0, none⟩) zs.length zs.length] 22 := by rw [← hW1]; exact c2.other _ _ (by omega)
    have d3 : Blk W1 (w.heap.size + 3) #[.int .i64 n0] 3 := by rw [← hW1]; exact c3.other _ _ (by omega)
    have hrl : x.val < (rowI (gfs zs s pre).1).size := by simp [rowI]; omega
    have hKF1 : KeepsFrom W0.heap.size W W1 := by rw [← hW1]; exact ((KeepsOthers.setCell _ _ _).trans (KeepsOthers.drew _)).from _
    have hq1 : W1.heap[w.heap.size + 4]? = W.heap[w.heap.size + 4]? := by rw [← hW1]; exact heap_setCell_other W ⟨w.heap.size + 1, x.val, none⟩ (w.heap.size + 4) _ (by simp only []; omega)
    have hBW1 : Below w.heap.size W W1 := by rw [← hW1]; exact ((Below.refl _ W).setCell (p := ⟨w.heap.size + 1, x.val, none⟩) (Nat.le_succ _) _).drew
    clear e0 f0 e1 f1 e2 e3 f3 hsx
    have e0 := d0.cell 0 rfl
    have f0 := d0.frozen 0
    have e1 : W1.cell? ⟨w.heap.size + 1, x.val, none⟩ = some (.int .i64 (s0 / c)) := d1.cell x.val (by rw [Array.getElem?_setIfInBounds_self_of_lt hrl])
    have e2 := d2.cell 0 rfl
    have e3 := d3.cell 0 rfl
    have f3 := d3.frozen 0
    clear hW1
    gi_wp2
    refine wpIn_mono (Q := fun e a w2 => e = Exit.normal ∧ a = { tmps := #[Value.slice (some ⟨b, off, none⟩) zs.length cap, .int .i64 s, undef, .pointer (some ⟨w.heap.size, 0, none⟩), .slice none 0 0, .int .i64 0, .pointer (some ⟨w.heap.size + 2, 0, none⟩), .pointer (some ⟨w.heap.size + 3, 0, none⟩), .int .i64 (x.val : Int), .int .i64 c, .slice (some ⟨b, off, none⟩) zs.length cap, .int .i64 zs.length, .slice (some ⟨w.heap.size + 1, 0, none⟩) zs.length zs.length, .slice (some ⟨b, off, none⟩) zs.length cap, .func (.func 78) #[] #[.pointer (some ⟨w.heap.size + 4, 0, none⟩)], .int .i64 (x.val : Int), .int .i64 c, .slice (some ⟨w.heap.size + 1, 0, none⟩) zs.length zs.length, .int .i64 (x.val : Int), .int .i64 s0, .int .i64 c, .int .i64 (s0 / c), .pointer (some ⟨w.heap.size + 1, x.val, none⟩), .int .i64 s0, .slice (some ⟨w.heap.size + 1, 0, none⟩) zs.length zs.length, .int .i64 (x.val : Int), .pointer (some ⟨w.heap.size + 1, x.val, none⟩), .int .i64 (s0 / c), .int .i64 c, .int .i64 (s0 / c * c), .int .i64 (s0 - s0 / c * c), undef, undef, undef, undef, undef, undef, undef, undef], defers := [] } ∧ w2 = ((W1.setCell ⟨w.heap.size, 0, none⟩ (.int .i64 (s0 - s0 / c * c))).drew)) ?_ ?_
    · gi_region
      all_goals (refine ⟨rfl, ?_, ?_⟩ <;> first | with_reducible rfl | simp only [hw1, hw2, hw3])
    rintro _ _ _ ⟨rfl, rfl, rfl⟩
    dsimp only [Exit.then]
    go_at_K
    generalize hW2 : ((W1.setCell ⟨w.heap.size, 0, none⟩ (.int .i64 (s0 - s0 / c * c))).drew) = W2
    have g0 : Blk W2 w.heap.size #[.int .i64 (s0 - s0 / c * c)] 3 := by rw [← hW2]; exact d0.set _ _
    have g1 : Blk W2 (w.heap.size + 1) ((rowI (gfs zs s pre).1).setIfInBounds x.val (.int .i64 (s0 / c))) 3 := by rw [← hW2]; exact d1.other _ _ (by omega)
    have g2 : Blk W2 (w.heap.size + 2) #[.slice (some ⟨w.heap.size + 1, 0, none⟩) zs.length zs.length] 22 := by rw [← hW2]; exact d2.other _ _ (by omega)
    have g3 : Blk W2 (w.heap.size + 3) #[.int .i64 n0] 3 := by rw [← hW2]; exact d3.other _ _ (by omega)
    have hKF2 : KeepsFrom W0.heap.size W W2 := by rw [← hW2]; exact hKF1.trans (((KeepsOthers.setCell _ _ _).trans (KeepsOthers.drew _)).from _)
    have hq2 : W2.heap[w.heap.size + 4]? = W.heap[w.heap.size + 4]? := by rw [← hq1, ← hW2]; exact heap_setCell_other W1 ⟨w.heap.size, 0, none⟩ (w.heap.size + 4) _ (by simp only []; omega)
    have hBW2 : Below w.heap.size W W2 := by rw [← hW2]; exact (hBW1.setCell (p := ⟨w.heap.size, 0, none⟩) (Nat.le_refl _) _).drew
    clear e0 f0 e1 e2 e3 f3
    have e0 := g0.cell 0 rfl
    have e1 : W2.cell? ⟨w.heap.size + 1, x.val, none⟩ = some (.int .i64 (s0 / c)) := g1.cell x.val (by rw [Array.getElem?_setIfInBounds_self_of_lt hrl])
    have e2 := g2.cell 0 rfl
    have e3 := g3.cell 0 rfl
    have f3 := g3.frozen 0
    clear hW2
    gi_wp2
    refine wpIn_mono (Q := fun e a w2 => e = Exit.normal ∧ a = { tmps := #[Value.slice (some ⟨b, off, none⟩) zs.length cap, .int .i64 s, undef, .pointer (some ⟨w.heap.size, 0, none⟩), .slice none 0 0, .int .i64 0, .pointer (some ⟨w.heap.size + 2, 0, none⟩), .pointer (some ⟨w.heap.size + 3, 0, none⟩), .int .i64 (x.val : Int), .int .i64 c, .slice (some ⟨b, off, none⟩) zs.length cap, .int .i64 zs.length, .slice (some ⟨w.heap.size + 1, 0, none⟩) zs.length zs.length, .slice (some ⟨b, off, none⟩) zs.length cap, .func (.func 78) #[] #[.pointer (some ⟨w.heap.size + 4, 0, none⟩)], .int .i64 (x.val : Int), .int .i64 c, .slice (some ⟨w.heap.size + 1, 0, none⟩) zs.length zs.length, .int .i64 (x.val : Int), .int .i64 s0, .int .i64 c, .int .i64 (s0 / c), .pointer (some ⟨w.heap.size + 1, x.val, none⟩), .int .i64 s0, .slice (some ⟨w.heap.size + 1, 0, none⟩) zs.length zs.length, .int .i64 (x.val : Int), .pointer (some ⟨w.heap.size + 1, x.val, none⟩), .int .i64 (s0 / c), .int .i64 c, .int .i64 (s0 / c * c), .int .i64 (s0 - s0 / c * c), .int .i64 n0, .slice (some ⟨w.heap.size + 1, 0, none⟩) zs.length zs.length, .int .i64 (x.val : Int), .pointer (some ⟨w.heap.size + 1, x.val, none⟩), .int .i64 (s0 / c), .int .i64 (n0 + s0 / c), undef, undef], defers := [] } ∧ w2 = ((W2.setCell ⟨w.heap.size + 3, 0, none⟩ (.int .i64 (n0 + s0 / c))).drew)) ?_ ?_
    · gi_region
      all_goals (refine ⟨rfl, ?_, ?_⟩ <;> first | with_reducible rfl | simp only [hw1, hw2, hw3])
    rintro _ _ _ ⟨rfl, rfl, rfl⟩
    generalize hW3 : ((W2.setCell ⟨w.heap.size + 3, 0, none⟩ (.int .i64 (n0 + s0 / c))).drew) = W3
    have p0 : Blk W3 w.heap.size #[.int .i64 (s0 - s0 / c * c)] 3 := by rw [← hW3]; exact g0.other _ _ (by omega)
    have p1 : Blk W3 (w.heap.size + 1) ((rowI (gfs zs s pre).1).setIfInBounds x.val (.int .i64 (s0 / c))) 3 := by rw [← hW3]; exact g1.other _ _ (by omega)
    have p2 : Blk W3 (w.heap.size + 2) #[.slice (some ⟨w.heap.size + 1, 0, none⟩) zs.length zs.length] 22 := by rw [← hW3]; exact g2.other _ _ (by omega)
    have p3 : Blk W3 (w.heap.size + 3) #[.int .i64 (n0 + s0 / c)] 3 := by rw [← hW3]; exact g3.set _ _
    have hKF3 : KeepsFrom W0.heap.size W W3 := by rw [← hW3]; exact hKF2.trans (((KeepsOthers.setCell _ _ _).trans (KeepsOthers.drew _)).from _)
    have hBW3 : Below w.heap.size W W3 := by rw [← hW3]; exact (hBW2.setCell (p := ⟨w.heap.size + 3, 0, none⟩) (Nat.le_add_right _ _) _).drew
    have hS3 : W3.heap[w.heap.size + 4]? = W.heap[w.heap.size + 4]? := by rw [← hq2, ← hW3]; exact heap_setCell_other W2 ⟨w.heap.size + 3, 0, none⟩ (w.heap.size + 4) _ (by simp only []; omega)
    rw [rowI_set] at p1
    refine ⟨hKF3, ⟨hBW3, hS3⟩, ⟨?_, ?_, p2, ?_, hok'⟩, hB.trans hBW3⟩
    · rw [hgf]; exact p0
    · rw [hgf]; exact p1
    · rw [hgf]; exact p3
  case done =>
    rintro D ys W hD rfl ⟨⟨c0, c1, c2, c3, hok⟩, hB⟩ hK
    have e2 := c2.cell 0 rfl
    have e3 := c3.cell 0 rfl
    gi_wp2
    refine wpIn_mono (Q := fun e a w2 => e = Exit.normal ∧ a = { tmps := #[Value.slice (some ⟨b, off, none⟩) zs.length cap, .int .i64 s, undef, .pointer (some ⟨w.heap.size, 0, none⟩), .slice (some ⟨w.heap.size + 1, 0, none⟩) zs.length zs.length, .int .i64 (gfs zs s (bw zs.length 0)).2.1, .pointer (some ⟨w.heap.size + 2, 0, none⟩), .pointer (some ⟨w.heap.size + 3, 0, none⟩), undef, undef, .slice (some ⟨b, off, none⟩) zs.length cap, .int .i64 zs.length, .slice (some ⟨w.heap.size + 1, 0, none⟩) zs.length zs.length, .slice (some ⟨b, off, none⟩) zs.length cap, .func (.func 78) #[] #[.pointer (some ⟨w.heap.size + 4, 0, none⟩)], undef, undef, undef, undef, undef, undef, undef, undef, undef, undef, undef, undef, undef, undef, undef, undef, undef, undef, undef, undef, undef, undef, .slice (some ⟨w.heap.size + 1, 0, none⟩) zs.length zs.length, .int .i64 (gfs zs s (bw zs.length 0)).2.1], defers := [{ target := Target.collected D, args := #[] }] } ∧ w2 = W.drew) ?_ ?_
    · gi_region
      all_goals (refine ⟨rfl, ?_, ?_⟩ <;> with_reducible rfl)
    rintro _ _ _ ⟨rfl, rfl, rfl⟩
    dsimp only [Exit.then]
    go_at_K
    gi_wp2
    refine ⟨by simp, .inl ⟨_, _, rfl, run_takeDeferred hK, ?_⟩⟩
    have hB2 := hB.trans (belowK_b (w := w) (Nat.le_refl _) W D _ (.deferred none) (by omega) hK rfl rfl)
    refine ⟨_, results_tmp2 rfl _ _ _, rfl, ?_, hB2.drew⟩
    have c1' : Blk W.drew (w.heap.size + 1) (rowI (gfs zs s (bw zs.length 0)).1) 3 := c1
    exact c1'.kept (grownBy_putObj' _ D (.deferred none)) (fun e => by cases e; omega)
  case stop =>
    rintro D c pre W hD _ h _
    exact h.elim
/-- Coin by coin, the last one first, is what 'gr' says. -/
theorem gfs_gr (zs : List Int) (s : Int) : ∀ (k : Nat) (hk : k ≤ zs.length), gfs zs s (bw zs.length (zs.length - k)) =
    (List.replicate (zs.length - k) 0 ++ (gr (zs.drop (zs.length - k)) s).1, (gr (zs.drop (zs.length - k)) s).2.1, (gr (zs.drop (zs.length - k)) s).2.2) := by
  intro k
  induction k with
  | zero => intro _; simp [bw_top, gfs, gr]
  | succ k ih =>
    intro hk
    have hlt : zs.length - (k + 1) < zs.length := by omega
    rw [bw_snoc _ _ hlt, show zs.length - (k + 1) + 1 = zs.length - k by omega, gfs_snoc, ih (by omega)]
    rw [List.drop_eq_getElem_cons hlt, show zs.length - (k + 1) + 1 = zs.length - k by omega]
    simp only [gf, gr, List.foldr_cons, grStep, Fin.getElem_fin]
    refine Prod.ext ?_ rfl
    simp only
    generalize zs[zs.length - (k + 1)] = c
    generalize List.foldr grStep ([], 0, s) (List.drop (zs.length - k) zs) = p
    obtain ⟨m, hm⟩ : ∃ m, m = zs.length - (k + 1) := ⟨_, rfl⟩
    rw [← hm, show zs.length - k = m + 1 by omega, List.replicate_succ', List.append_assoc, List.set_append_right _ _ (by simp)]
    simp
theorem gfs_all (zs : List Int) (s : Int) : gfs zs s (bw zs.length 0) = gr zs s := by
  have h := gfs_gr zs s zs.length (Nat.le_refl _)
  rw [Nat.sub_self] at h
  rw [h]
  simp
theorem gr_len (zs : List Int) (s : Int) : (gr zs s).1.length = zs.length := by
  induction zs with
  | nil => rfl
  | cons c zs ih => simp only [gr, List.foldr_cons, grStep, List.length_cons] at ih ⊢; rw [ih]
end
open Go.Vi
theorem HC63 (_ : Nat × Nat) (xs : pksDen [.c (.sl (.int .i64)), .c (.int .i64)]) (r : rksDen [.own (.int .i64) 0, .c (.int .i64) 0]) (h : HF63 xs.1 xs.2.1 = some r) (vs : List V) (hv : pksArg [.c (.sl (.int .i64)), .c (.int .i64)] vs = some xs) :
    FC Try.prog 63 vs (rets [.own (.int .i64) 0, .c (.int .i64) 0] r) := by
  obtain ⟨zs, s, ⟨⟩⟩ := xs
  unfold HF63 at h
  obtain ⟨hd, h⟩ := cond_some h rfl
  simp only [Bool.and_eq_true, decide_eq_true_eq, List.all_eq_true] at hd h
  obtain ⟨⟨hc, hs0, hs1⟩, hl0, hl1⟩ := hd
  cases h
  intro w A0 args hA hargs hgl
  have hv2 := pksArg_VR _ _ _ _ hv hargs
  match args, hv2 with
  | [v0, v1], ⟨g0, g1, _⟩ =>
    obtain ⟨b, off, cap, rfl, hb, hcs⟩ := CR_ints (zs := zs) (t := false) g0 hl0 hA
    have g1 : v1 = .int .i64 s := g1
    subst g1
    refine ((callsIn_wide (n := 3)).1 (great_in Fence.wide 3 trivial trivial trivial rfl (by omega) b off cap zs s hl1 hl0 w hb hcs hc hs0 hs1)).mono ?_
    rintro e W' ⟨rfl, hblk, hB⟩
    rw [gfs_all] at hblk ⊢
    have hlt := hblk.lt
    have hgl := gr_len zs s
    refine ⟨Grows.of_below hB, [.at (w.heap.size + 1) zs.length, .emp], [_, _], rfl, ?_, ?_, ?_⟩
    · have := out_ints (w := w) (A1 := newA w W' A0 [.at (w.heap.size + 1) zs.length, .emp]) (l := (gr zs s).1) hblk (Nat.le_succ _) (Nat.le_of_eq hgl) (by rw [rowI_size, hgl]; exact Nat.le_refl _) (fun i x => rowI_get)
      rw [hgl] at this
      exact this
    · intro b' c' h j hj
      simp at hj
      subst hj
      intro c'' e
      cases e
    · exact ⟨rfl, fun b c h => (by cases h), trivial⟩
end Go.Proofs.Ytjgmfdgpgdaclaa
set_option linter.unusedVariables false
set_option linter.unusedSimpArgs false
set_option maxRecDepth 100000
namespace Go.Proofs.Ytjgmfdgpgdaclaa
open Go.Vi
abbrev R63 := List Int × Int
def pk63 : List PK := [.c (.sl (.int .i64)), .c (.int .i64)]
def rk63 : List RK := [.own (.int .i64) 0, .c (.int .i64) 0]
noncomputable def S63 (n : Nat × Nat) (coins0 : List Int) (sum1 : Int) : Option R63 := HF63 coins0 sum1
noncomputable def P63 (n : Nat × Nat) := phiOf pk63 rk63 (fun xs => S63 n xs.1 xs.2.1)
theorem call63 : CallOK Try.prog 63 := callOK_of Try.func63 (by kernel_rfl) (by kernel_rfl)
theorem FC63 (n : Nat × Nat) : FCs Try.prog 63 (P63 n) := phiOf_FCs fun xs r h vs hv => HC63 n xs r h vs hv
abbrev R22 := List Int × Int
noncomputable def c22 : Code := bodyOf Try.f22
noncomputable def an22 : Ann := (.s .l (.s (.s .l (.s .l (.j [0, 1] .l .l))) .l))
def pk22 : List PK := [.c (.sl (.int .i64)), .c (.int .i64)]
def rk22 : List RK := [.own (.int .i64) 4, .c (.int .i64) 5]
noncomputable def rt22 (st : St) : Option R22 := rtG rk22 st
noncomputable def E22 (n : Nat × Nat) : Env := { T := tab, phi := (consPhi 56 (fun _ => true) (P56 n) (consPhi 63 (fun _ => true) (P63 n) noPhi)), eff := fun _ => false, fuel := n.1, hold := n.2 }
noncomputable def S22 (n : Nat × Nat) (coins0 : List Int) (sum1 : Int) : Option R22 := run (E22 n) c22 an22 rt22 (fun _ _ => none) rt22 { tm := [.c (.sl (.int .i64) coins0 false), .c (.int .i64 sum1), uu, uu, uu, uu, uu, uu, uu, uu, uu, uu, uu, uu, uu, uu, uu, uu, uu, uu, uu, uu], hp := emp }
theorem S22_eq (n : Nat × Nat) (coins0 : List Int) (sum1 : Int) : S22 n coins0 sum1 =
 (S56 n coins0 sum1).bind fun r1' =>
 (bif (r1' != 0) then some ([], r1')
 else (S63 n coins0 sum1).bind fun r2' =>
 some (r2'.1, 0)) := by kernel_rfl
theorem S22_run (n : Nat × Nat) (xs : pksDen pk22) : S22 n xs.1 xs.2.1 = runG (E22 n) noScope c22 an22 (rtG rk22) (fun _ _ => none) (rtG rk22) (st0 pk22 xs Try.f22.ntmps) := by kernel_rfl
noncomputable def P22 (n : Nat × Nat) := phiOf pk22 rk22 (fun xs => S22 n xs.1 xs.2.1)
theorem call22 : CallOK Try.prog 22 := callOK_of Try.func22 (by kernel_rfl) (by kernel_rfl)
theorem env22 (n : Nat × Nat) : EnvOK Try.prog (E22 n) := envOK0 (consPhi_ok (FC56 n) call56 (consPhi_ok (FC63 n) call63 noPhi_ok)) rfl rfl
theorem par22 (n : Nat × Nat) : EnvPar (E22 n) := envPar0 (consPhi_par phiOf_Par1 (consPhi_par phiOf_Par1 noPhi_par)) rfl
theorem FC22 (n : Nat × Nat) : FCs Try.prog 22 (P22 n) := phiOf_FCs fun xs r h vs hv => FC.of_runG tabOK eqsOK (env22 n) (par22 n) mixed (fun _ p _ => noScope_ok p.1 p.2) Try.func22 (c := c22) (an := an22) (pks := pk22) (rks := rk22) (by kernel_rfl) (by kernel_rfl) hv ((S22_run n xs).symm.trans h)
abbrev R66 := Int
noncomputable def c66 : Code := bodyOf Try.f66
noncomputable def an66 : Ann := (.s .l (.s .l (.s (.s .l (.j [] (.j [0, 17, 18, 19] (.s .l (.s (.j [0, 17, 18, 19] .l .l) (.s (.j [0, 17, 18, 19] (.s .l (.s .l (.s .l (.j [0, 17, 18, 19] .l .l)))) .l) .l))) .l) .l)) .l)))
def pk66 : List PK := [.c (.sl (.int .i64))]
def rk66 : List RK := [.c (.int .i64) 2]
noncomputable def rt66 (st : St) : Option R66 := rtG rk66 st
noncomputable def E66 (n : Nat × Nat) : Env := { T := tab, phi := (consPhi 57 (fun _ => true) (P57 n) (consPhi 63 (fun _ => true) (P63 n) noPhi)), eff := fun _ => false, fuel := n.1, hold := n.2 }
noncomputable def kq66_1 (n : Nat × Nat) : St → Option R66 := run (E66 n) (cB (cB (cB c66))) (Ann.snd (Ann.snd (Ann.snd an66))) rt66 (fun _ _ => none) rt66
noncomputable def xb66_3 (n : Nat × Nat) : Nat → St → Option R66 := fun j s => bif Nat.beq j 0 then normC [] s (kq66_1 n) else (fun _ _ => none) j s
noncomputable def F66_4 (n : Nat × Nat) : (St → Option R66) → St → Option R66 := fun K s => run (E66 n) (cA (cA (cB (cA (cB (cB c66)))))) (Ann.fst (Ann.fst (Ann.snd (Ann.fst (Ann.snd (Ann.snd an66)))))) (fun s => normC [0, 17, 18, 19] s K) (xb66_3 n) rt66 s
noncomputable def L66_1 (n : Nat × Nat) (m : Nat) (coins0 : List Int) (v18 : Int) (v19 : Int) (v17 : List Int) : Option R66 := loopN (F66_4 n) m { tm := [.c (.sl (.int .i64) coins0 false), uu, uu, uu, uu, uu, uu, uu, uu, uu, uu, uu, uu, uu, uu, uu, uu, .own 17 none false, .c (.int .i64 v18), .c (.int .i64 v19), uu, uu, uu, uu, uu, uu, uu, uu, uu, uu, uu, uu, uu, uu, uu], hp := (upd emp 17 (.arr (.int .i64) v17 false)) }
theorem L66_1_eq (n : Nat × Nat) (m1 : Nat) (coins0 : List Int) (v18 : Int) (v19 : Int) (v17 : List Int) : L66_1 n (m1 + 1) coins0 v18 v19 v17 =
 (bif decide (v19 < v18) then (bif inB v19 v17.length then (idx v17 v19).bind fun x3' =>
 (S63 n coins0 v19).bind fun r4' =>
 (bif decide (r4'.2 > x3') then some v19
 else L66_1 n m1 coins0 v18 (wr .i64 (v19 + 1)) v17)
 else none)
 else some 0) := by kernel_rfl
noncomputable def S66 (n : Nat × Nat) (coins0 : List Int) : Option R66 := run (E66 n) c66 an66 rt66 (fun _ _ => none) rt66 { tm := [.c (.sl (.int .i64) coins0 false), uu, uu, uu, uu, uu, uu, uu, uu, uu, uu, uu, uu, uu, uu, uu, uu, uu, uu, uu, uu, uu, uu, uu, uu, uu, uu, uu, uu, uu, uu, uu, uu, uu, uu], hp := emp }
theorem S66_eq (n : Nat × Nat) (coins0 : List Int) : S66 n coins0 =
 (idx coins0 (wr .i64 ((coins0.length : Int) - 1))).bind fun x1' =>
 (S57 n coins0 (wr .i64 (2 * x1'))).bind fun r2' =>
    L66_1 n n.1 coins0 (r2'.length : Int) 0 r2' := by kernel_rfl
theorem S66_run (n : Nat × Nat) (xs : pksDen pk66) : S66 n xs.1 = runG (E66 n) noScope c66 an66 (rtG rk66) (fun _ _ => none) (rtG rk66) (st0 pk66 xs Try.f66.ntmps) := by kernel_rfl
noncomputable def P66 (n : Nat × Nat) := phiOf pk66 rk66 (fun xs => S66 n xs.1)
theorem call66 : CallOK Try.prog 66 := callOK_of Try.func66 (by kernel_rfl) (by kernel_rfl)
theorem env66 (n : Nat × Nat) : EnvOK Try.prog (E66 n) := envOK0 (consPhi_ok (FC57 n) call57 (consPhi_ok (FC63 n) call63 noPhi_ok)) rfl rfl
theorem par66 (n : Nat × Nat) : EnvPar (E66 n) := envPar0 (consPhi_par phiOf_Par1 (consPhi_par phiOf_Par1 noPhi_par)) rfl
theorem FC66 (n : Nat × Nat) : FCs Try.prog 66 (P66 n) := phiOf_FCs fun xs r h vs hv => FC.of_runG tabOK eqsOK (env66 n) (par66 n) mixed (fun _ p _ => noScope_ok p.1 p.2) Try.func66 (c := c66) (an := an66) (pks := pk66) (rks := rk66) (by kernel_rfl) (by kernel_rfl) hv ((S66_run n xs).symm.trans h)
abbrev R27 := Bool × Int
noncomputable def c27 : Code := bodyOf Try.f27
noncomputable def an27 : Ann := (.s .l (.s (.s .l (.s .l (.j [0] .l .l))) .l))
def pk27 : List PK := [.c (.sl (.int .i64))]
def rk27 : List RK := [.c .bool 2, .c (.int .i64) 3]
noncomputable def rt27 (st : St) : Option R27 := rtG rk27 st
noncomputable def E27 (n : Nat × Nat) : Env := { T := tab, phi := (consPhi 25 (fun _ => true) (P25 n) (consPhi 66 (fun _ => true) (P66 n) noPhi)), eff := fun _ => false, fuel := n.1, hold := n.2 }
noncomputable def S27 (n : Nat × Nat) (coins0 : List Int) : Option R27 := run (E27 n) c27 an27 rt27 (fun _ _ => none) rt27 { tm := [.c (.sl (.int .i64) coins0 false), uu, uu, uu, uu, uu, uu, uu, uu, uu, uu, uu, uu], hp := emp }
theorem S27_eq (n : Nat × Nat) (coins0 : List Int) : S27 n coins0 =
 (S25 n coins0).bind fun r1' =>
 (bif (r1' != 0) then some (false, r1')
 else (S66 n coins0).bind fun r2' =>
 some ((r2' == 0), 0)) := by kernel_rfl
theorem S27_run (n : Nat × Nat) (xs : pksDen pk27) : S27 n xs.1 = runG (E27 n) noScope c27 an27 (rtG rk27) (fun _ _ => none) (rtG rk27) (st0 pk27 xs Try.f27.ntmps) := by kernel_rfl
noncomputable def P27 (n : Nat × Nat) := phiOf pk27 rk27 (fun xs => S27 n xs.1)
theorem call27 : CallOK Try.prog 27 := callOK_of Try.func27 (by kernel_rfl) (by kernel_rfl)
theorem env27 (n : Nat × Nat) : EnvOK Try.prog (E27 n) := envOK0 (consPhi_ok (FC25 n) call25 (consPhi_ok (FC66 n) call66 noPhi_ok)) rfl rfl
theorem par27 (n : Nat × Nat) : EnvPar (E27 n) := envPar0 (consPhi_par phiOf_Par1 (consPhi_par phiOf_Par1 noPhi_par)) rfl
theorem FC27 (n : Nat × Nat) : FCs Try.prog 27 (P27 n) := phiOf_FCs fun xs r h vs hv => FC.of_runG tabOK eqsOK (env27 n) (par27 n) mixed (fun _ p _ => noScope_ok p.1 p.2) Try.func27 (c := c27) (an := an27) (pks := pk27) (rks := rk27) (by kernel_rfl) (by kernel_rfl) hv ((S27_run n xs).symm.trans h)
abbrev R53 := List Int
noncomputable def c53 : Code := bodyOf Try.f53
noncomputable def an53 : Ann := .l
def pk53 : List PK := []
def rk53 : List RK := [.own (.int .i64) 0]
noncomputable def rt53 (st : St) : Option R53 := rtG rk53 st
noncomputable def E53 (n : Nat × Nat) : Env := { T := tab, phi := noPhi, eff := fun _ => false, fuel := n.1, hold := n.2 }
noncomputable def S53 (n : Nat × Nat) : Option R53 := run (E53 n) c53 an53 rt53 (fun _ _ => none) rt53 { tm := [uu, uu, uu], hp := emp }
theorem S53_eq (n : Nat × Nat) : S53 n =
 some [1, 5, 10] := by kernel_rfl
theorem S53_run (n : Nat × Nat) (xs : pksDen pk53) : S53 n = runG (E53 n) noScope c53 an53 (rtG rk53) (fun _ _ => none) (rtG rk53) (st0 pk53 xs Try.f53.ntmps) := by kernel_rfl
noncomputable def P53 (n : Nat × Nat) := phiOf pk53 rk53 (fun xs => S53 n)
theorem call53 : CallOK Try.prog 53 := callOK_of Try.func53 (by kernel_rfl) (by kernel_rfl)
theorem env53 (n : Nat × Nat) : EnvOK Try.prog (E53 n) := envOK0 noPhi_ok rfl rfl
theorem par53 (n : Nat × Nat) : EnvPar (E53 n) := envPar0 noPhi_par rfl
theorem FC53 (n : Nat × Nat) : FCs Try.prog 53 (P53 n) := phiOf_FCs fun xs r h vs hv => FC.of_runG tabOK eqsOK (env53 n) (par53 n) mixed (fun _ p _ => noScope_ok p.1 p.2) Try.func53 (c := c53) (an := an53) (pks := pk53) (rks := rk53) (by kernel_rfl) (by kernel_rfl) hv ((S53_run n xs).symm.trans h)
abbrev R29 := Int × Int
noncomputable def c29 : Code := bodyOf Try.f29
noncomputable def an29 : Ann := (.s .l (.s (.s .l (.s .l (.j [0] .l .l))) (.s .l (.s (.s .l (.j [5] .l .l)) .l))))
def pk29 : List PK := [.c (.sl (.int .i64))]
def rk29 : List RK := [.c (.int .i64) 2, .c (.int .i64) 3]
noncomputable def rt29 (st : St) : Option R29 := rtG rk29 st
noncomputable def E29 (n : Nat × Nat) : Env := { T := tab, phi := (consPhi 25 (fun _ => true) (P25 n) (consPhi 66 (fun _ => true) (P66 n) noPhi)), eff := fun _ => false, fuel := n.1, hold := n.2 }
noncomputable def S29 (n : Nat × Nat) (coins0 : List Int) : Option R29 := run (E29 n) c29 an29 rt29 (fun _ _ => none) rt29 { tm := [.c (.sl (.int .i64) coins0 false), uu, uu, uu, uu, uu, uu, uu, uu, uu, uu, uu, uu, uu, uu, uu], hp := emp }
theorem S29_eq (n : Nat × Nat) (coins0 : List Int) : S29 n coins0 =
 (S25 n coins0).bind fun r1' =>
 (bif (r1' != 0) then some (0, r1')
 else (S66 n coins0).bind fun r2' =>
 (bif (r2' == 0) then some (0, 13)
 else some (r2', 0))) := by kernel_rfl
theorem S29_run (n : Nat × Nat) (xs : pksDen pk29) : S29 n xs.1 = runG (E29 n) noScope c29 an29 (rtG rk29) (fun _ _ => none) (rtG rk29) (st0 pk29 xs Try.f29.ntmps) := by kernel_rfl
noncomputable def P29 (n : Nat × Nat) := phiOf pk29 rk29 (fun xs => S29 n xs.1)
theorem call29 : CallOK Try.prog 29 := callOK_of Try.func29 (by kernel_rfl) (by kernel_rfl)
theorem env29 (n : Nat × Nat) : EnvOK Try.prog (E29 n) := envOK0 (consPhi_ok (FC25 n) call25 (consPhi_ok (FC66 n) call66 noPhi_ok)) rfl rfl
theorem par29 (n : Nat × Nat) : EnvPar (E29 n) := envPar0 (consPhi_par phiOf_Par1 (consPhi_par phiOf_Par1 noPhi_par)) rfl
theorem FC29 (n : Nat × Nat) : FCs Try.prog 29 (P29 n) := phiOf_FCs fun xs r h vs hv => FC.of_runG tabOK eqsOK (env29 n) (par29 n) mixed (fun _ p _ => noScope_ok p.1 p.2) Try.func29 (c := c29) (an := an29) (pks := pk29) (rks := rk29) (by kernel_rfl) (by kernel_rfl) hv ((S29_run n xs).symm.trans h)
end Go.Proofs.Ytjgmfdgpgdaclaa
/-
  Maps of numbers that a call itself makes: what they hold, as plain functions.
-/
set_option linter.unusedVariables false
set_option linter.unusedSimpArgs false
set_option maxRecDepth 100000
namespace Go.Proofs.Ytjgmfdgpgdaclaa
open Go.RowKit Go.Shelf Go.Maps Go.ChangeMaps Go.MapKept
abbrev DU := DataW Unit
abbrev kx (x : Int) : Lit := .int .i64 x
abbrev inR (x : Int) : Prop := (Lit.int .i64 x).wf = true
theorem inR_of {x : Int} (h0 : -4000000000000000000 ≤ x) (h1 : x ≤ 4000000000000000000) : inR x := by
  simp only [inR, Lit.wf, IntKind.min, IntKind.max, IntKind.signed, IntKind.bits, Bool.and_eq_true, decide_eq_true_eq]
  simp
  omega
theorem und3 : Try.prog.underlying 3 = some (.int .i64) := by kernel_rfl
theorem und4 : Try.prog.underlying 4 = some .bool := by kernel_rfl
theorem keyed3 : Maps.Keyed Try.prog 3 := Maps.int_keyed und3
theorem keyOf3 {x : Int} (h : inR x) : keyOf Try.prog 3 (.int .i64 x) = some (kx x) := Maps.keyOf_int_mk und3 h
theorem kx_key (x : Int) : WideAt.IsKeyLit (kx x) := by trivial
theorem kx_ne {x y : Int} (h : x ≠ y) : kx x ≠ kx y := fun e => h (by cases e; rfl)
/-- What the map of truth values holds: just the keys at which f is true, each with true. -/
def IsB (D : DU) (f : Int → Bool) : Prop := IsMap D ∧ ∀ x, inR x → (D.atKey (kx x) (.lit (.bool false)) = .lit (.bool (f x)) ∧ has D (kx x) = f x)
theorem IsB.empty : IsB (.map []) (fun _ => false) := ⟨⟨[], rfl⟩, fun x hx => ⟨rfl, rfl⟩⟩
theorem isMap_put {D : DU} (h : IsMap D) (k : Lit) (d : DU) : IsMap (D.put k d) := by
  obtain ⟨es, rfl⟩ := h
  exact ⟨_, rfl⟩
theorem IsB.put {D : DU} {f : Int → Bool} (h : IsB D f) (x : Int) : IsB (D.put (kx x) (.lit (.bool true))) (fun y => y == x || f y) := by
  refine ⟨isMap_put h.1 _ _, fun y hy => ?_⟩
  by_cases e : y = x
  · subst e
    simp [atKey_put_same h.1 (kx_key y), has_put_same h.1 (kx_key y)]
  · have he : (y == x) = false := by simpa using e
    simp only [atKey_put_other (kx_ne e), has_put_other (kx_ne e), he, Bool.false_or]
    exact h.2 y hy
theorem IsB.congr {D : DU} {f g : Int → Bool} (h : IsB D f) (e : ∀ x, f x = g x) : IsB D g := by
  have : f = g := funext e
  exact this ▸ h
/-- What the map of numbers holds: keys from 0 to m alone. -/
def IsI (D : DU) (m : Int) (f : Int → Int) : Prop := IsMap D ∧ (∀ x, inR x → D.atKey (kx x) (.lit (.int .i64 0)) = .lit (.int .i64 (f x))) ∧ (∀ x, inR x → has D (kx x) = true → 0 ≤ x ∧ x ≤ m) ∧ (∀ x, inR x → has D (kx x) = false → f x = 0)
theorem IsI.empty (m : Int) : IsI (.map []) m (fun _ => 0) := ⟨⟨[], rfl⟩, fun x hx => rfl, fun x hx h => (by cases h), fun _ _ _ => rfl⟩
theorem IsI.put {D : DU} {m : Int} {f : Int → Int} (h : IsI D m f) (x v : Int) (h0 : 0 ≤ x) (h1 : x ≤ m) : IsI (D.put (kx x) (.lit (.int .i64 v))) m (fun y => if y = x then v else f y) := by
  obtain ⟨ha, hb, hc, hd⟩ := h
  refine ⟨isMap_put ha _ _, fun y hy => ?_, fun y hy hh => ?_, fun y hy hh => ?_⟩ <;> by_cases e : y = x
  · subst e
    simp [atKey_put_same ha (kx_key y)]
  · simp only [atKey_put_other (kx_ne e), if_neg e]
    exact hb y hy
  · omega
  · rw [has_put_other (kx_ne e)] at hh
    exact hc y hy hh
  · subst e
    rw [has_put_same ha (kx_key y)] at hh
    cases hh
  · rw [has_put_other (kx_ne e)] at hh
    simp only [if_neg e]
    exact hd y hy hh
theorem IsI.congr {D : DU} {m : Int} {f g : Int → Int} (h : IsI D m f) (e : ∀ x, f x = g x) : IsI D m g := by
  have : f = g := funext e
  exact this ▸ h
section
variable {b n : Nat} {D : DU} {w : World}
/-- 'm[x]' at truth values. -/
theorem look_bool {t : TypeId} {f : Int → Bool} (h : w.ownsMap Try.prog 3 (plainElem Try.prog 4) b n D) (hf : IsB D f) (ht : Try.prog.underlying t = some (.map 3 4)) {x : Int} (hx : inR x) :
    (Instr.lookup t (.map (some b)) (.int .i64 x) false).run Try.prog w = .ok (.bool (f x)) w := by
  obtain ⟨v, ps, hrun, hv⟩ := h.lookup keyed3 ht (z := .bool false) (zd := .lit (.bool false)) (zp := []) (by rfl) (plainElem_bool und4 false) (keyOf3 hx)
  rw [(hf.2 x hx).1] at hv
  rw [hrun]
  unfold plainElem at hv
  rw [und4] at hv
  cases v <;> simp at hv
  rw [hv.1]
/-- 'm[x]' at numbers. -/
theorem look_int {t : TypeId} {m : Int} {f : Int → Int} (h : w.ownsMap Try.prog 3 (plainElem Try.prog 3) b n D) (hf : IsI D m f) (ht : Try.prog.underlying t = some (.map 3 3)) {x : Int} (hx : inR x) :
    (Instr.lookup t (.map (some b)) (.int .i64 x) false).run Try.prog w = .ok (.int .i64 (f x)) w := by
  obtain ⟨c, hrun, hat, _⟩ := h.lookup_int keyed3 ht und3 (by rfl) (keyOf3 hx)
  rw [hf.2.1 x hx] at hat
  cases hat
  exact hrun
/-- 'm[x] = true'. -/
theorem put_bool {t : TypeId} (h : w.ownsMap Try.prog 3 (plainElem Try.prog 4) b n D) (ht : Try.prog.underlying t = some (.map 3 4)) (hn : n < maxLen) {x : Int} (hx : inR x) :
    ∃ w', (Instr.mapUpdate t (.map (some b)) (.int .i64 x) (.bool true)).run Try.prog w = .ok () w' ∧ w'.ownsMap Try.prog 3 (plainElem Try.prog 4) b (n + 1) (D.put (kx x) (.lit (.bool true))) ∧ w.grownBy w' (some b) :=
  h.update keyed3 ht hn (keyOf3 hx) (plainElem_bool und4 true)
/-- 'm[x] = v'. -/
theorem put_int {t : TypeId} (h : w.ownsMap Try.prog 3 (plainElem Try.prog 3) b n D) (ht : Try.prog.underlying t = some (.map 3 3)) (hn : n < maxLen) {x v : Int} (hx : inR x) (hv : inR v) :
    ∃ w', (Instr.mapUpdate t (.map (some b)) (.int .i64 x) (.int .i64 v)).run Try.prog w = .ok () w' ∧ w'.ownsMap Try.prog 3 (plainElem Try.prog 3) b (n + 1) (D.put (kx x) (.lit (.int .i64 v))) ∧ w.grownBy w' (some b) :=
  h.update keyed3 ht hn (keyOf3 hx) (plainElem_int und3 hv)
/-- 'clear(m)'. -/
theorem clear_map {t e : TypeId} {R : Value → Option (DU × List MemPlace)} (h : w.ownsMap Try.prog 3 R b n D) (ht : Try.prog.underlying t = some (.map 3 e)) :
    ∃ w', (∀ ty, (Builtin.clear_ #[t] ty #[.map (some b)]).run Try.prog w = .ok (.tuple #[]) w') ∧ w'.ownsMap Try.prog 3 R b 0 (.map []) ∧ w.grownBy w' (some b) := by
  obtain ⟨es, clock, hb, F, hs, hD⟩ := h
  refine ⟨setBlock w b (.map #[] clock), fun ty => ?_, ⟨#[], clock, heap_setBlock_same hb _, ⟨by simp, stamped_empty clock, by simp⟩, Nat.le_refl _, rfl⟩, ⟨rfl, rfl, rfl, by simp [setBlock], fun i _ hi => heap_setBlock_other hb _ (fun e => hi (by rw [e]))⟩⟩
  simp [Builtin.clear_, run_underlying ht, MapKept.run_getObj_map hb, Result.andThen, go_sem, setObj, Sem.run, hb, setBlock]
end
/-- maps.Clone of a map that a call has made. -/
theorem clone71 (b n : Nat) (R : Value → Option (DU × List MemPlace)) (D : DU) (w : World) (hown : w.ownsMap Try.prog 3 R b n D) :
    Calls Try.prog 71 #[.map (some b)] w fun e w' => e = .returned (.map (some w.heap.size)) ∧ w'.ownsMap Try.prog 3 R w.heap.size n D ∧ w'.ownsMap Try.prog 3 R b n D ∧ Below w.heap.size w w' ∧ w'.heap.size = w.heap.size + 1 := by
  have hlt := hown.lt
  obtain ⟨es, clock, hb, F, hs, hD⟩ := hown
  have h68 : Try.prog.underlying 68 = some (.map 3 4) := by kernel_rfl
  have hq := fun w => run_eql_map_nil_sl (P := Try.prog) w 68 _ _ (some b) h68
  have hB : Below w.heap.size w (w.alloc (.map es clock)) := (Below.refl _ w).alloc (Nat.le_refl _) _
  have key : Calls Try.prog 71 #[.map (some b)] w fun e w' => e = .returned (.map (some w.heap.size)) ∧ w' = w.alloc (.map es clock) := by
    go_enter Try.func71, Try.ntmps71
    go_wp2
    rw [run_callFunc_extern Try.func77 (by kernel_rfl) (by kernel_rfl) (by kernel_rfl) (e := Extern.MapsClone.clone) (by kernel_rfl), run_maps_clone_sl w 68 hb]
    simp only [Result.andThen]
    rw [Oper.upon_value]
    go_wp2
    rw [run_typeAssert_map_sl _ 68 20 _ _ _ h68]
    simp only [Result.andThen]
    rw [Oper.upon_value]
    go_wp2
    go_ret
    exact ⟨rfl, rfl⟩
  refine key.mono fun e w' ⟨he, hw⟩ => ?_
  subst hw
  exact ⟨he, ⟨es, clock, (MapKept.heap_alloc w _).1, F, hs, hD⟩, ⟨es, clock, (Below.heap_alloc _ _ b hlt).trans hb, F, hs, hD⟩, hB, by simp⟩
/-- The run of a range over truth values: which keys are still to come. -/
structure RangeB (w : World) (b r n : Nat) (D : DU) (left : Int → Bool) (cnt : Nat) : Prop where
  rg : ∃ lf : Lit → Bool, w.ranges Try.prog 3 (plainElem Try.prog 4) b r n D lf cnt ∧ ∀ x, inR x → lf (kx x) = left x
theorem range_bool {b n : Nat} {D : DU} {w : World} {t : TypeId} {f : Int → Bool} (h : w.ownsMap Try.prog 3 (plainElem Try.prog 4) b n D) (hf : IsB D f) (ht : Try.prog.underlying t = some (.map 3 4)) :
    ∃ w', (Instr.range t (.map (some b))).run Try.prog w = .ok (.pointer (some ⟨w.heap.size, 0, none⟩)) w' ∧ (∃ cnt, cnt ≤ n ∧ RangeB w' b w.heap.size n D f cnt) ∧ w.grownBy w' none ∧ w'.heap.size = w.heap.size + 1 := by
  obtain ⟨w', h1, h2, h3, h4⟩ := h.range keyed3 ht
  refine ⟨w', h1, ⟨_, ?_, ⟨_, h2, fun x hx => (hf.2 x hx).2⟩⟩, h3, h4⟩
  obtain ⟨es, clock, since, seen, c0, hb, F, hs, hD, hr, hbo, hl, _⟩ := h2
  rw [← hl]
  exact Nat.le_trans (by unfold leftOf; exact Array.size_filter_le) hs
theorem next_bool {b r n cnt : Nat} {D : DU} {w : World} {left : Int → Bool} {f : Int → Bool} (h : RangeB w b r n D left cnt) (hf : IsB D f) (ty : TypeId) :
    (cnt = 0 ∧ (∀ x, inR x → left x = false) ∧ (Instr.next (.pointer (some ⟨r, 0, none⟩)) false ty).run Try.prog w = .ok (.tuple #[.bool false]) w) ∨
    ∃ x w' cnt', inR x ∧ left x = true ∧ (Instr.next (.pointer (some ⟨r, 0, none⟩)) false ty).run Try.prog w = .ok (.tuple #[.bool true, .int .i64 x, .bool (f x)]) w' ∧
      RangeB w' b r n D (fun y => left y && !(y == x)) cnt' ∧ cnt' < cnt ∧ w.grownBy w' (some r) ∧ w'.heap.size = w.heap.size ∧ (Instr.entry (.pointer (some ⟨r, 0, none⟩))).run Try.prog w' = .ok (.tuple #[.int .i64 x, .bool (f x)]) w' := by
  obtain ⟨lf, h, hl⟩ := h.rg
  rcases h.next keyed3 ty with ⟨h1, h2, h3⟩ | ⟨key, v, kl, y, w', cnt', h1, h2, h3, h4, h5, h6, h7, h8, h9, h10⟩
  · exact .inl ⟨h1, fun x hx => (hl x hx).symm.trans (h2 _), h3⟩
  · obtain ⟨x, rfl, rfl, hx⟩ := Maps.keyOf_int_inv und3 h1
    have hat := h4 (.lit (.bool false))
    rw [(hf.2 x hx).1] at hat
    unfold plainElem at h3
    rw [und4] at h3
    cases v <;> simp at h3
    subst h3
    cases hat
    refine .inr ⟨x, w', cnt', hx, (hl x hx).symm.trans h2, h5, ⟨_, h6, fun z hz => ?_⟩, h7, h8, h9, h10⟩
    rw [hl z hz]
    congr 2
    by_cases e : z = x
    · subst e
      rw [WideAt.sameKey_self (kx_key z)]
      simp
    · rw [sameKey_ne (kx_ne e)]
      simpa using e
theorem RangeB.kept {w w' : World} {b r n cnt : Nat} {D : DU} {left : Int → Bool} {row : Option Nat} (h : RangeB w b r n D left cnt) (hg : w.grownBy w' row) (hb : some b ≠ row) (hr : some r ≠ row) : RangeB w' b r n D left cnt := by
  obtain ⟨lf, h, hl⟩ := h.rg
  exact ⟨_, h.kept hg hb hr, hl⟩
theorem RangeB.ne {w : World} {b r n cnt : Nat} {D : DU} {left : Int → Bool} (h : RangeB w b r n D left cnt) : r ≠ b := by
  obtain ⟨lf, h, hl⟩ := h.rg
  exact h.ne
theorem RangeB.owns {w : World} {b r n cnt : Nat} {D : DU} {left : Int → Bool} (h : RangeB w b r n D left cnt) : w.ownsMap Try.prog 3 (plainElem Try.prog 4) b n D := by
  obtain ⟨lf, h, hl⟩ := h.rg
  exact h.owns
theorem RangeB.left_eq {w : World} {b r n cnt : Nat} {D : DU} {left : Int → Bool} (h : RangeB w b r n D left cnt) : w.rangeLeft b r = cnt := by
  obtain ⟨lf, h, hl⟩ := h.rg
  exact h.left_eq
/-- The run of a range over numbers. -/
structure RangeI (w : World) (b r n : Nat) (D : DU) (left : Int → Bool) (cnt : Nat) : Prop where
  rg : ∃ lf : Lit → Bool, w.ranges Try.prog 3 (plainElem Try.prog 3) b r n D lf cnt ∧ ∀ x, inR x → lf (kx x) = left x
theorem range_int {b n : Nat} {D : DU} {w : World} {t : TypeId} (h : w.ownsMap Try.prog 3 (plainElem Try.prog 3) b n D) (ht : Try.prog.underlying t = some (.map 3 3)) :
    ∃ w', (Instr.range t (.map (some b))).run Try.prog w = .ok (.pointer (some ⟨w.heap.size, 0, none⟩)) w' ∧ (∃ cnt, cnt ≤ n ∧ RangeI w' b w.heap.size n D (fun x => has D (kx x)) cnt) ∧ w.grownBy w' none ∧ w'.heap.size = w.heap.size + 1 := by
  obtain ⟨w', h1, h2, h3, h4⟩ := h.range keyed3 ht
  refine ⟨w', h1, ⟨_, ?_, ⟨_, h2, fun x hx => rfl⟩⟩, h3, h4⟩
  obtain ⟨es, clock, since, seen, c0, hb, F, hs, hD, hr, hbo, hl, _⟩ := h2
  rw [← hl]
  exact Nat.le_trans (by unfold leftOf; exact Array.size_filter_le) hs
theorem next_int {b r n cnt : Nat} {D : DU} {w : World} {left : Int → Bool} {m : Int} {f : Int → Int} (h : RangeI w b r n D left cnt) (hf : IsI D m f) (ty : TypeId) :
    (cnt = 0 ∧ (∀ x, inR x → left x = false) ∧ (Instr.next (.pointer (some ⟨r, 0, none⟩)) false ty).run Try.prog w = .ok (.tuple #[.bool false]) w) ∨
    ∃ x w' cnt', inR x ∧ left x = true ∧ (Instr.next (.pointer (some ⟨r, 0, none⟩)) false ty).run Try.prog w = .ok (.tuple #[.bool true, .int .i64 x, .int .i64 (f x)]) w' ∧
      RangeI w' b r n D (fun y => left y && !(y == x)) cnt' ∧ cnt' < cnt ∧ w.grownBy w' (some r) ∧ w'.heap.size = w.heap.size ∧ (Instr.entry (.pointer (some ⟨r, 0, none⟩))).run Try.prog w' = .ok (.tuple #[.int .i64 x, .int .i64 (f x)]) w' := by
  obtain ⟨lf, h, hl⟩ := h.rg
  rcases h.next keyed3 ty with ⟨h1, h2, h3⟩ | ⟨key, v, kl, y, w', cnt', h1, h2, h3, h4, h5, h6, h7, h8, h9, h10⟩
  · exact .inl ⟨h1, fun x hx => (hl x hx).symm.trans (h2 _), h3⟩
  · obtain ⟨x, rfl, rfl, hx⟩ := Maps.keyOf_int_inv und3 h1
    have hat := h4 (.lit (.int .i64 0))
    rw [hf.2.1 x hx] at hat
    obtain ⟨c, rfl, rfl, _⟩ := plainElem_int_inv und3 h3
    cases hat
    refine .inr ⟨x, w', cnt', hx, (hl x hx).symm.trans h2, h5, ⟨_, h6, fun z hz => ?_⟩, h7, h8, h9, h10⟩
    rw [hl z hz]
    congr 2
    by_cases e : z = x
    · subst e
      rw [WideAt.sameKey_self (kx_key z)]
      simp
    · rw [sameKey_ne (kx_ne e)]
      simpa using e
theorem RangeI.kept {w w' : World} {b r n cnt : Nat} {D : DU} {left : Int → Bool} {row : Option Nat} (h : RangeI w b r n D left cnt) (hg : w.grownBy w' row) (hb : some b ≠ row) (hr : some r ≠ row) : RangeI w' b r n D left cnt := by
  obtain ⟨lf, h, hl⟩ := h.rg
  exact ⟨_, h.kept hg hb hr, hl⟩
theorem RangeI.ne {w : World} {b r n cnt : Nat} {D : DU} {left : Int → Bool} (h : RangeI w b r n D left cnt) : r ≠ b := by
  obtain ⟨lf, h, hl⟩ := h.rg
  exact h.ne
theorem RangeI.owns {w : World} {b r n cnt : Nat} {D : DU} {left : Int → Bool} (h : RangeI w b r n D left cnt) : w.ownsMap Try.prog 3 (plainElem Try.prog 3) b n D := by
  obtain ⟨lf, h, hl⟩ := h.rg
  exact h.owns
theorem RangeI.left_eq {w : World} {b r n cnt : Nat} {D : DU} {left : Int → Bool} (h : RangeI w b r n D left cnt) : w.rangeLeft b r = cnt := by
  obtain ⟨lf, h, hl⟩ := h.rg
  exact h.left_eq
/-- What the body of a loop over a function's values may do: B is where the loop's own blocks begin, n₀ where the call's begin, Bs the iterator's box. -/
structure Chg (B n₀ Bs : Nat) (W W' : World) : Prop where
  kf : KeepsFrom B W W'
  kp : KpB n₀ Bs W W'
theorem Chg.refl (B n₀ Bs : Nat) (W : World) : Chg B n₀ Bs W W := ⟨KeepsFrom.refl _ _, KpB.refl _ _ _⟩
theorem Chg.size {B n₀ Bs : Nat} {W W' : World} (h : Chg B n₀ Bs W W') : W.heap.size ≤ W'.heap.size := h.kf.size
theorem Chg.grown {B n₀ Bs : Nat} {W W' W'' : World} (h : Chg B n₀ Bs W W') {row : Option Nat} (hg : W'.grownBy W'' row) (hn : n₀ ≤ W'.heap.size) (hBs : Bs < W'.heap.size) (hr : ∀ r, row = some r → n₀ ≤ r ∧ r ≠ Bs ∧ (r < B ∨ W.heap.size ≤ r)) : Chg B n₀ Bs W W'' := by
  refine ⟨⟨Nat.le_trans h.kf.size hg.size, fun k o hk ho hc => ?_⟩, h.kp.1.grown hg hn (fun k e => (hr k e).1), (hg.block Bs hBs (fun e => (hr Bs e.symm).2.1 rfl)).trans h.kp.2⟩
  have h1 := h.kf.same k o hk ho hc
  refine (hg.block k (Array.getElem?_eq_some_iff.1 h1).1 (fun e => ?_)).trans h1
  have := (Array.getElem?_eq_some_iff.1 ho).1
  rcases (hr k e.symm).2.2 with h | h <;> omega
theorem Chg.set {B n₀ Bs : Nat} {W W' : World} (h : Chg B n₀ Bs W W') (b j : Nat) (v : Value) (hb : n₀ ≤ b) (hne : b ≠ Bs) : Chg B n₀ Bs W (W'.setCell ⟨b, j, none⟩ v) :=
  ⟨h.kf.trans ((KeepsOthers.setCell _ _ _).from _), h.kp.1.setCell (p := ⟨b, j, none⟩) hb v, (heap_setCell_other W' ⟨b, j, none⟩ Bs v (Ne.symm hne)).trans h.kp.2⟩
theorem Chg.drew {B n₀ Bs : Nat} {W W' : World} (h : Chg B n₀ Bs W W') : Chg B n₀ Bs W W'.drew := ⟨h.kf.trans ((KeepsOthers.drew _).from _), h.kp.1.drew, h.kp.2⟩
theorem Chg.alloc {B n₀ Bs : Nat} {W W' : World} (h : Chg B n₀ Bs W W') (hn : n₀ ≤ W'.heap.size) (hBs : Bs < W'.heap.size) (o : Obj) : Chg B n₀ Bs W (W'.alloc o) :=
  h.grown (World.grownBy_alloc W' o none) hn hBs (fun r e => by cases e)
end Go.Proofs.Ytjgmfdgpgdaclaa
/-
  How many payments there are: the walk.
-/
set_option linter.unusedVariables false
set_option linter.unusedSimpArgs false
set_option maxRecDepth 100000
namespace Go.Proofs.Ytjgmfdgpgdaclaa
open Go.RowKit Go.Shelf Go.Maps Go.ChangeMaps Go.MapKept
/-- f at x, x - c, x - 2c and so on, so many of them, together. -/
def cws (c : Int) (f : Int → Int) : Nat → Int → Int
  | 0, _ => 0
  | k + 1, x => bif decide (x < 0) then 0 else f x + cws c f k (x - c)
/-- How many payments there are. -/
def cw : List Int → Int → Int
  | [], x => bif x == 0 then 1 else 0
  | c :: l, x => cws c (cw l) (x.toNat + 1) x
def HF37 (S : List Int → Int → Option Int) (l : List Int) (s : Int) : Option (Int × Int) :=
  (S l s).bind fun e => bif e != 0 then some (0, e) else
    bif (l.all fun c => decide (1 ≤ c) && decide (c ≤ 40)) && (decide (0 < l.length) && decide (l.length ≤ 6)) && (decide (0 ≤ s) && decide (s ≤ 200)) then some (cw l s, 0) else none
theorem cws_congr {c : Int} {f g : Int → Int} (hc : 1 ≤ c) : ∀ (K : Nat) (y : Int), (∀ z, 0 ≤ z → z ≤ y → f z = g z) → cws c f K y = cws c g K y
  | 0, _, _ => rfl
  | K + 1, y, h => by
    simp only [cws]
    by_cases hy : y < 0
    · simp [hy]
    · rw [h y (by omega) (Int.le_refl _), cws_congr hc K (y - c) (fun z h0 h1 => h z h0 (by omega))]
theorem cws_zero {c : Int} {f : Int → Int} (hc : 1 ≤ c) : ∀ (K : Nat) (y : Int), (∀ z, 0 ≤ z → z ≤ y → f z = 0) → cws c f K y = 0
  | 0, _, _ => rfl
  | K + 1, y, h => by
    simp only [cws]
    by_cases hy : y < 0
    · simp [hy]
    · rw [h y (by omega) (Int.le_refl _), cws_zero hc K (y - c) (fun z h0 h1 => h z h0 (by omega))]
      simp
theorem cws_bound {c M : Int} {f : Int → Int} (hc : 1 ≤ c) (hM : 0 ≤ M) : ∀ (K : Nat) (y : Int), (∀ z, 0 ≤ z → z ≤ y → 0 ≤ f z ∧ f z ≤ M) → 0 ≤ cws c f K y ∧ cws c f K y ≤ K * M
  | 0, _, _ => ⟨Int.le_refl _, by simp [cws]⟩
  | K + 1, y, h => by
    simp only [cws]
    have e : ((K + 1 : Nat) : Int) * M = K * M + M := by rw [Int.natCast_add, Int.add_mul]; simp
    have hK : 0 ≤ (K : Int) * M := Int.mul_nonneg (by omega) hM
    by_cases hy : y < 0
    · rw [decide_eq_true hy, cond_true, e]
      omega
    · have h1 := h y (by omega) (Int.le_refl _)
      have h2 := cws_bound (f := f) hc hM K (y - c) (fun z h0 h1 => h z h0 (by omega))
      rw [decide_eq_false hy, cond_false, e]
      omega
/-- Where f is greater at one point. -/
theorem cws_point {c x n : Int} {f g : Int → Int} (hc : 1 ≤ c) (hx : 0 ≤ x) (hg : ∀ z, g z = f z + (if z = x then n else 0)) : ∀ (K : Nat) (y : Int), y < K → cws c g K y = cws c f K y + (if x ≤ y ∧ (y - x) % c = 0 then n else 0)
  | 0, y, h => by
    simp only [cws]
    rw [if_neg (by omega)]
    rfl
  | K + 1, y, h => by
    simp only [cws]
    by_cases hy : y < 0
    · rw [if_neg (by omega)]
      simp [hy]
    · rw [decide_eq_false hy, cond_false, cond_false, hg, cws_point hc hx hg K (y - c) (by omega)]
      by_cases e : y = x
      · rw [if_pos e, if_pos (show x ≤ y ∧ (y - x) % c = 0 from ⟨by omega, by rw [e, Int.sub_self, Int.zero_emod]⟩), if_neg (by omega)]
        omega
      · rw [if_neg e]
        by_cases h1 : x ≤ y ∧ (y - x) % c = 0
        · have h2 : ¬ (y - x < c) := fun h => by
            rw [Int.emod_eq_of_lt (by omega) h] at h1
            omega
          rw [if_pos h1, if_pos ⟨by omega, by rw [show y - c - x = (y - x) - c by omega, Int.sub_emod, h1.2]; simp⟩]
          omega
        · rw [if_neg h1, if_neg]
          · omega
          · rintro ⟨h2, h3⟩
            apply h1
            refine ⟨by omega, ?_⟩
            have : (y - x) % c = (y - c - x + c) % c := by congr 1; omega
            rw [this, Int.add_emod, h3]
            simp
/-- What the new map holds, some sums of the elder one being still to come. -/
def nxt (s c : Int) (F : Int → Int) (left : Int → Bool) (y : Int) : Int := bif decide (y ≤ s) then cws c (fun z => bif left z then 0 else F z) (y.toNat + 1) y else 0
/-- .. and in the midst of the sums that come from x: those below t are in. -/
def nxj (c x t n : Int) (B : Int → Int) (y : Int) : Int := B y + (if x ≤ y ∧ y < t ∧ (y - x) % c = 0 then n else 0)
theorem nxj_step {c x t n : Int} {B : Int → Int} (hc : 1 ≤ c) (hx : x ≤ t) (ht : (t - x) % c = 0) (y : Int) : (if y = t then nxj c x t n B t + n else nxj c x t n B y) = nxj c x (t + c) n B y := by
  unfold nxj
  by_cases e : y = t
  · subst e
    rw [if_pos rfl, if_neg (by omega), if_pos ⟨hx, by omega, ht⟩]
    omega
  · rw [if_neg e]
    congr 1
    by_cases h : x ≤ y ∧ y < t ∧ (y - x) % c = 0
    · rw [if_pos h, if_pos ⟨h.1, by omega, h.2.2⟩]
    · rw [if_neg h, if_neg]
      rintro ⟨h1, h2, h3⟩
      refine h ⟨h1, ?_, h3⟩
      by_cases h4 : y < t
      · exact h4
      · exfalso
        have h5 : (y - t) % c = 0 := by rw [show y - t = (y - x) - (t - x) by omega, Int.sub_emod, h3, ht]; simp
        rw [Int.emod_eq_of_lt (by omega) (by omega)] at h5
        omega
theorem nxt_step {s c x : Int} {F : Int → Int} {left : Int → Bool} (hc : 1 ≤ c) (hx0 : 0 ≤ x) (hxs : x ≤ s) (hl : left x = true) (y : Int) :
    nxt s c F (fun z => left z && !(z == x)) y = nxt s c F left y + (if x ≤ y ∧ y ≤ s ∧ (y - x) % c = 0 then F x else 0) := by
  unfold nxt
  by_cases hy : y ≤ s
  · rw [decide_eq_true hy, cond_true, cond_true, cws_point (f := fun z => bif left z then 0 else F z) (x := x) (n := F x) hc hx0 ?_ (y.toNat + 1) y (by omega)]
    · congr 1
      by_cases h : x ≤ y ∧ (y - x) % c = 0
      · rw [if_pos h, if_pos ⟨h.1, hy, h.2⟩]
      · rw [if_neg h, if_neg (fun k => h ⟨k.1, k.2.2⟩)]
    · intro z
      by_cases e : z = x
      · subst e
        simp [hl]
      · have : (z == x) = false := by simpa using e
        simp only [this, Bool.not_false, Bool.and_true, if_neg e]
        omega
  · rw [decide_eq_false hy, cond_false, cond_false, if_neg (by omega)]
    rfl
theorem nxj_end {s c x t : Int} {F : Int → Int} {left : Int → Bool} (hc : 1 ≤ c) (hx0 : 0 ≤ x) (hxs : x ≤ s) (hl : left x = true) (hxt : x ≤ t) (ht : (t - x) % c = 0) (hts : s < t) (htc : t ≤ s + c) (y : Int) :
    nxj c x t (F x) (nxt s c F left) y = nxt s c F (fun z => left z && !(z == x)) y := by
  rw [nxt_step hc hx0 hxs hl]
  unfold nxj
  congr 1
  by_cases h : x ≤ y ∧ y < t ∧ (y - x) % c = 0
  · rw [if_pos h, if_pos]
    refine ⟨h.1, ?_, h.2.2⟩
    by_cases h4 : y ≤ s
    · exact h4
    · exfalso
      have h5 : (t - y) % c = 0 := by rw [show t - y = (t - x) - (y - x) by omega, Int.sub_emod, h.2.2, ht]; simp
      rw [Int.emod_eq_of_lt (by omega) (by omega)] at h5
      omega
  · rw [if_neg h, if_neg]
    rintro ⟨h1, h2, h3⟩
    exact h ⟨h1, by omega, h3⟩
theorem nxt_bound {s c M : Int} {F : Int → Int} {left : Int → Bool} (hc : 1 ≤ c) (hs : s ≤ 200) (hM : 0 ≤ M) (hF : ∀ z, 0 ≤ F z ∧ F z ≤ M) (y : Int) : 0 ≤ nxt s c F left y ∧ nxt s c F left y ≤ 201 * M := by
  unfold nxt
  by_cases hy : y ≤ s
  · rw [decide_eq_true hy, cond_true]
    have h := cws_bound (c := c) (M := M) (f := fun z => bif left z then 0 else F z) hc hM (y.toNat + 1) y (fun z _ _ => by cases left z <;> simp [hF z, hM])
    refine ⟨h.1, Int.le_trans h.2 (Int.mul_le_mul_of_nonneg_right (by omega) hM)⟩
  · rw [decide_eq_false hy, cond_false]
    omega
/-- Up to s alone. -/
def cut (s : Int) (f : Int → Int) (x : Int) : Int := bif decide (x ≤ s) then f x else 0
theorem nxt_end {s c : Int} {l : List Int} {left : Int → Bool} (hc : 1 ≤ c) (hl : ∀ z, 0 ≤ z → z ≤ s → left z = false) (y : Int) : nxt s c (cut s (cw l)) left y = cut s (cw (c :: l)) y := by
  unfold nxt
  show _ = bif decide (y ≤ s) then cws c (cw l) (y.toNat + 1) y else 0
  by_cases hy : y ≤ s
  · rw [decide_eq_true hy, cond_true, cond_true]
    apply cws_congr hc
    intro z h0 h1
    rw [hl z h0 (by omega)]
    simp [cut, show z ≤ s by omega]
  · rw [decide_eq_false hy, cond_false, cond_false]
theorem nxt_start {s c : Int} {F : Int → Int} {left : Int → Bool} (hc : 1 ≤ c) (hl : ∀ z, 0 ≤ z → z ≤ s → left z = false → F z = 0) (y : Int) : nxt s c F left y = 0 := by
  unfold nxt
  by_cases hy : y ≤ s
  · rw [decide_eq_true hy, cond_true]
    apply cws_zero hc
    intro z h0 h1
    cases e : left z
    · exact hl z h0 (by omega) e
    · rfl
  · rw [decide_eq_false hy, cond_false]
theorem cw_bound : ∀ (l : List Int), (∀ c ∈ l, 1 ≤ c ∧ c ≤ 40) → ∀ y, y ≤ 200 → 0 ≤ cw l y ∧ cw l y ≤ (201 : Int) ^ l.length
  | [], _, y, _ => by simp only [cw]; cases y == 0 <;> simp
  | c :: l, h, y, hy => by
    have hM : (0 : Int) ≤ 201 ^ l.length := Int.pow_nonneg (by omega)
    have h1 := cws_bound (c := c) (M := 201 ^ l.length) (f := cw l) (h c (by simp)).1 hM (y.toNat + 1) y (fun z _ hz => cw_bound l (fun d hd => h d (by simp [hd])) z (by omega))
    simp only [cw]
    refine ⟨h1.1, Int.le_trans h1.2 ?_⟩
    rw [List.length_cons, Int.pow_succ, Int.mul_comm]
    exact Int.mul_le_mul_of_nonneg_left (by omega) hM
theorem cut_bound {l : List Int} (h : ∀ c ∈ l, 1 ≤ c ∧ c ≤ 40) {s : Int} (hs : s ≤ 200) (y : Int) : 0 ≤ cut s (cw l) y ∧ cut s (cw l) y ≤ (201 : Int) ^ l.length := by
  unfold cut
  by_cases hy : y ≤ s
  · rw [decide_eq_true hy, cond_true]
    exact cw_bound l h y (by omega)
  · rw [decide_eq_false hy, cond_false]
    exact ⟨by omega, Int.pow_nonneg (by omega)⟩
/-- The coins whose numbers have come, the last one first. -/
def coinsOf (zs : List Int) (pre : List (Fin zs.length)) : List Int := pre.reverse.map fun i => zs[i]
theorem coinsOf_snoc (zs : List Int) (pre : List (Fin zs.length)) (x : Fin zs.length) : coinsOf zs (pre ++ [x]) = zs[x] :: coinsOf zs pre := by simp [coinsOf]
theorem coinsOf_all (zs : List Int) : coinsOf zs (bw zs.length 0) = zs := by
  unfold coinsOf bw
  rw [List.drop_zero, List.reverse_reverse]
  apply List.ext_getElem
  · simp
  · intro i h1 h2
    simp
theorem coinsOf_mem {zs : List Int} {pre : List (Fin zs.length)} {c : Int} (h : c ∈ coinsOf zs pre) : c ∈ zs := by
  unfold coinsOf at h
  obtain ⟨i, _, rfl⟩ := List.mem_map.1 h
  exact List.getElem_mem _
theorem coinsOf_len (zs : List Int) (pre : List (Fin zs.length)) : (coinsOf zs pre).length = pre.length := by simp [coinsOf]
/-- What holds between two coins: m and g are the two maps' blocks. -/
def WI (zs : List Int) (s : Int) (w : World) (m g : Nat) (pre : List (Fin zs.length)) (W : World) : Prop :=
  ∃ (ma mb na nb : Nat) (Da Db : DU), ((ma = m ∧ mb = g) ∨ (ma = g ∧ mb = m)) ∧ Blk W (g + 1) #[.map (some ma)] 70 ∧ Blk W (g + 2) #[.map (some mb)] 70 ∧ Blk W w.heap.size #[.int .i64 s] 3 ∧
    W.ownsMap Try.prog 3 (plainElem Try.prog 3) ma na Da ∧ W.ownsMap Try.prog 3 (plainElem Try.prog 3) mb nb Db ∧ IsI Da s (cut s (cw (coinsOf zs pre))) ∧ na ≤ 201 ^ pre.length ∧ Below w.heap.size w W ∧ g + 4 ≤ W.heap.size
theorem WI_own (zs : List Int) (s : Int) (w : World) (m g B : Nat) (hm : m < B) (hg : g < B) (hw : w.heap.size ≤ B) : OwnFrom B (WI zs s w m g) := by
  rintro pre W W' row ⟨ma, mb, na, nb, Da, Db, h1, h2, h3, h4, h5, h6, h7, h8, h9, h10⟩ hgr hr
  have hne : ∀ b, b < B → some b ≠ row := fun b hb e => by have := (hr b e.symm).1; omega
  have hcell : ∀ {b : Nat} {cur : Array Value} {t : TypeId}, Blk W b cur t → Blk W' b cur t := fun {b cur t} h => h.kept hgr (fun e => by
    obtain ⟨_, o, ho, hc⟩ := hr b e.symm
    rw [show W.heap[b]? = _ from h] at ho
    cases ho
    cases hc)
  refine ⟨ma, mb, na, nb, Da, Db, h1, hcell h2, hcell h3, hcell h4, h5.kept hgr (hne _ (by omega)), h6.kept hgr (hne _ (by omega)), h7, h8, ?_⟩
  exact ⟨h9.grown hgr h9.size (fun k e => by have := (hr k e).1; omega), Nat.le_trans h10 hgr.size⟩
theorem owns_set {W : World} {k : TypeId} {R : Value → Option (DU × List MemPlace)} {b n : Nat} {D : DU} (h : W.ownsMap Try.prog k R b n D) {b' : Nat} (j : Nat) (v : Value) (hne : b ≠ b') : (W.setCell ⟨b', j, none⟩ v).ownsMap Try.prog k R b n D := by
  obtain ⟨es, clock, hb, r⟩ := h
  exact ⟨es, clock, (heap_setCell_other W ⟨b', j, none⟩ b v hne).trans hb, r⟩
section
attribute [local go_sem] Oper.semAt_some
set_option maxHeartbeats 8000000 in
theorem ways_in (F : Fence) (n : Nat) (h37 : F.fn 37) (h56 : F.fn 56) (h72 : F.fn 72) (h78 : F.fn 78) (hro : F.round = none) (hn : 3 ≤ n) (b off cap : Nat) (zs : List Int) (s : Int) (w : World) (hb : b < w.heap.size)
    (hcs : ∀ j (h : j < zs.length), w.cell? ⟨b, off + j, none⟩ = some (.int .i64 zs[j])) (h0 : 0 < zs.length) (hl : zs.length ≤ 6) (hcc : ∀ c ∈ zs, 1 ≤ c ∧ c ≤ 40) (hs0 : 0 ≤ s) (hs1 : s ≤ 200)
    (hck : ∀ W, Below w.heap.size w W → CallsIn F (n - 1) Try.prog 56 #[.slice (some ⟨b, off, none⟩) zs.length cap, .int .i64 s] W fun e w' => e = .returned (.int .i64 0) ∧ Below W.heap.size W w') :
    CallsIn F n Try.prog 37 #[.slice (some ⟨b, off, none⟩) zs.length cap, .int .i64 s] w fun e w' => e = .returned (.tuple #[.int .i64 (cw zs s), .int .i64 0]) ∧ Below w.heap.size w w' := by
  have h70 : Try.prog.underlying 70 = some (.map 3 3) := by kernel_rfl
  have hmm := @run_makeMap Try.prog
  have hins : ∀ W : World, ∃ W', (Instr.mapUpdate 70 (.map (some W.heap.size)) (.int .i64 0) (.int .i64 1)).run Try.prog (W.alloc (.map #[] 0)) = .ok () W' ∧
      W'.ownsMap (H := Unit) Try.prog 3 (plainElem Try.prog 3) W.heap.size 1 ((DataW.map []).put (kx 0) (.lit (.int .i64 1))) ∧ (W.alloc (.map #[] 0)).grownBy W' (some W.heap.size) :=
    fun W => put_int (World.ownsMap_made W _ _ _) h70 (by decide) (inR_of (by omega) (by omega)) (inR_of (by omega) (by omega))
  obtain ⟨V, hV⟩ := Classical.axiomOfChoice hins
  have hV1 := fun W => (hV W).1
  clear hins
  have h1 : 1 ≤ n := by omega
  refine callsIn_of_wp_marks Try.func37 rfl h37 ?_ hro
  simp only [Try.ntmps37, List.size_toArray, List.length_cons, List.length_nil, Nat.reduceAdd, Nat.reduceSub, Array.replicate_succ, Array.replicate_zero, List.push_toArray, List.append_toArray, List.nil_append, List.cons_append]
  gi_wp2_with (first
    | (gi_at_call 56; refine (hck _ ((Below.refl _ w).alloc (Nat.le_refl _) _)).mono ?_; rintro e w2 ⟨rfl, hB1⟩)
    | (gi_at_call 72; refine (back_in F (n - 1) h72 hro _ _ _ _).mono ?_; rintro e w' ⟨rfl, rfl⟩))
  obtain ⟨_, hV2, hV3⟩ := hV w2
  clear hV hV1 hmm
  have hB2 : Below w.heap.size w w2 := ((Below.refl _ w).alloc (Nat.le_refl _) _).trans (hB1.mono (by simp))
  have b0 : Blk w2 w.heap.size #[.int .i64 s] 3 := (hB1.block _ (by simp)).trans (Blk.new w _ _)
  have hm1 : w.heap.size + 1 ≤ w2.heap.size := by have := hB1.size; simpa using this
  have hg1 : w2.heap.size + 1 ≤ (V w2).heap.size := by have := hV3.size; simpa using this
  have b0' : Blk (V w2) w.heap.size #[.int .i64 s] 3 := (b0.alloc _).kept hV3 (by simp; omega)
  have hBV : Below w.heap.size w (V w2) := (hB2.alloc (by omega) _).grown hV3 (by simp; omega) (fun k e => by cases e; omega)
  generalize hWV : V w2 = WV at *
  generalize hm : w2.heap.size = m at *
  generalize hg : WV.heap.size = g at *
  have hmade : (WV.alloc (.map #[] 0)).ownsMap (H := Unit) Try.prog 3 (plainElem Try.prog 3) g 0 (.map []) := by
    rw [← hg]
    exact World.ownsMap_made (H := Unit) WV Try.prog 3 (plainElem Try.prog 3)
  generalize hW0 : World.alloc (World.alloc (World.alloc (World.alloc WV _) _) _) _ = W0
  have hsz : W0.heap.size = g + 4 := by rw [← hW0, ← hg]; simp
  have c0 : Blk W0 w.heap.size #[.int .i64 s] 3 := by rw [← hW0]; exact (((b0'.alloc _).alloc _).alloc _).alloc _
  have c1 : Blk W0 (g + 1) #[.map (some m)] 70 := by
    rw [← hW0, ← hg]
    have := Blk.new (WV.alloc (.map #[] 0)) #[.map (some m)] 70
    rw [World.size_alloc] at this
    exact (this.alloc _).alloc _
  have c2 : Blk W0 (g + 2) #[.map (some g)] 70 := by
    rw [← hW0, ← hg]
    have := Blk.new ((WV.alloc (.map #[] 0)).alloc (.cells #[.map (some m)] 70)) #[.map (some WV.heap.size)] 70
    simp only [World.size_alloc, Nat.add_assoc, Nat.reduceAdd] at this
    exact this.alloc _
  have c3 : Blk W0 (g + 3) #[.slice (some ⟨b, off, none⟩) zs.length cap] 22 := by
    rw [← hW0, ← hg]
    have := Blk.new (((WV.alloc (.map #[] 0)).alloc (.cells #[.map (some m)] 70)).alloc (.cells #[.map (some WV.heap.size)] 70)) #[.slice (some ⟨b, off, none⟩) zs.length cap] 22
    simp only [World.size_alloc, Nat.add_assoc, Nat.reduceAdd] at this
    exact this
  have o1 : W0.ownsMap (H := Unit) Try.prog 3 (plainElem Try.prog 3) m 1 ((DataW.map []).put (kx 0) (.lit (.int .i64 1))) := by
    rw [← hW0]
    exact (((hV2.kept (World.grownBy_alloc _ _ none) (by simp)).kept (World.grownBy_alloc _ _ none) (by simp)).kept (World.grownBy_alloc _ _ none) (by simp)).kept (World.grownBy_alloc _ _ none) (by simp)
  have o2 : W0.ownsMap (H := Unit) Try.prog 3 (plainElem Try.prog 3) g 0 (.map []) := by
    rw [← hW0]
    exact ((hmade.kept (World.grownBy_alloc _ _ none) (by simp)).kept (World.grownBy_alloc _ _ none) (by simp)).kept (World.grownBy_alloc _ _ none) (by simp)
  have hB0 : Below w.heap.size w W0 := by
    rw [← hW0]
    exact (((hBV.alloc (by omega) _).alloc (by simp; omega) _).alloc (by simp; omega) _).alloc (by simp; omega) _
  clear hW0 hV2 hV3 hB1
  simp only [Nat.add_assoc, Nat.reduceAdd]
  have hcs0 : ∀ j (h : j < zs.length), W0.cell? ⟨b, off + j, none⟩ = some (.int .i64 zs[j]) := fun j hj => (hB0.cell (p := ⟨b, off + j, none⟩) hb).trans (hcs j hj)
  have hmem : ∀ i : Fin zs.length, 1 ≤ zs[i.val] ∧ zs[i.val] ≤ 40 := fun i => hcc _ (List.getElem_mem _)
  have hI0 : IsI ((DataW.map []).put (kx 0) (.lit (.int .i64 1)) : DU) s (cut s (cw (coinsOf zs []))) := ((IsI.empty s).put 0 1 (Int.le_refl _) hs0).congr fun x => by
    simp only [coinsOf, List.reverse_nil, List.map_nil, cut, cw]
    by_cases e : x = 0
    · subst e
      simp [hs0]
    · rw [if_neg e, show (x == 0) = false by simpa using e]
      cases decide (x ≤ s) <;> rfl
  refine wpIn_rangeFunc_ownG hro h1 (gf := 78) (lb := #[.pointer (some ⟨g + 3, 0, none⟩)]) rfl h78 (enters_of Try.func78 (by kernel_rfl) rfl)
    (back_stops F (n - 1) h78 hro (by omega) (g + 3) w.heap.size b off cap zs (by omega) W0 (by omega) (by omega) (c3.cell 0 rfl) hb hcs0) KpB.trans (KpB.b (by omega) (by omega)) (Below.refl _ _) (fun _ => rfl)
    (WI zs s w m g) (fun _ _ _ => False) (WI_own zs s w m g _ (by omega) (by omega) (by omega)) (fun _ _ _ _ _ hs _ _ => hs)
    ⟨m, g, 1, 0, _, _, .inl ⟨rfl, rfl⟩, c1, c2, c0, o1, o2, hI0, Nat.le_refl _, hB0, by omega⟩
    ?a1 ?assign ?body ?done ?stop
  case assign =>
    intro l x W K hK
    gi_wp2
    exact hK
  case body =>
    rintro l pre x W ⟨ma, mb, na, nb, Da, Db, hsw, d1, d2, d0, p1, p2, hI, hna, hB, hgs⟩ hlen
    have e1 := d1.cell 0 rfl
    have e2 := d2.cell 0 rfl
    obtain ⟨hx1, hx2⟩ := hmem x
    have hxl := x.isLt
    have hsn := coinsOf_snoc zs pre x
    have hcm : ∀ y, 0 ≤ cut s (cw (coinsOf zs pre)) y ∧ cut s (cw (coinsOf zs pre)) y ≤ (201 : Int) ^ pre.length := fun y => by
      have := cut_bound (l := coinsOf zs pre) (fun c hc => hcc c (coinsOf_mem hc)) hs1 y
      rwa [coinsOf_len] at this
    have hpl : pre.length ≤ 5 := by omega
    have hMn : (201 : Int) ^ pre.length = ((201 ^ pre.length : Nat) : Int) := by rw [Int.natCast_pow]; rfl
    have hMnle : 201 ^ pre.length ≤ 328080401001 := Nat.le_trans (Nat.pow_le_pow_right (by omega) hpl) (by decide)
    rw [hMn] at hcm
    have hpw : 201 ^ (pre ++ [x]).length = 201 ^ pre.length * 201 := by simp [Nat.pow_succ]
    simp only [Fin.getElem_fin] at hsn
    generalize hgc : zs[x.val] = c at hx1 hx2 hsn ⊢
    generalize hF : cut s (cw (coinsOf zs pre)) = f at *
    clear hMn
    generalize hMn : (201 : Nat) ^ pre.length = Mn at *
    obtain ⟨Wc, hclr, q2, hgcl⟩ := clear_map p2 h70
    have q1 := p1.kept hgcl (by simp; omega)
    have f0 := d0.kept hgcl (by simp; omega)
    have f1 := d1.kept hgcl (by simp; omega)
    have f2 := d2.kept hgcl (by simp; omega)
    have f1c := f1.cell 0 rfl
    obtain ⟨Wr, hrun, ⟨cnt, hcnt, hrg⟩, hgr, hsr⟩ := range_int q1 h70
    have hsz1 := hgcl.size
    have hrs := hrg.ne
    have e0 := fun W' (h : Blk W' w.heap.size #[.int .i64 s] 3) => h.cell 0 rfl
    have hC0 : Chg W0.heap.size w.heap.size (g + 3) W Wr := ((Chg.refl _ _ _ W).grown hgcl (by omega) (by omega) (fun r e => by cases e; omega)).grown hgr (by omega) (by omega) (fun r e => by cases e)
    generalize hri : Wc.heap.size = ri at *
    gi_wp2
    gi_loopw [11] (fun _ wr => ∃ (left : Int → Bool) (cnt n2 : Nat) (D2 : DU), RangeI wr ma ri na Da left cnt ∧ wr.ownsMap Try.prog 3 (plainElem Try.prog 3) mb n2 D2 ∧ IsI D2 s (nxt s c f left) ∧ n2 + 201 * cnt ≤ 201 * na ∧ (∀ x, inR x → left x = true → 0 ≤ x ∧ x ≤ s) ∧
        Blk wr (g + 1) #[.map (some ma)] 70 ∧ Blk wr (g + 2) #[.map (some mb)] 70 ∧ Blk wr w.heap.size #[.int .i64 s] 3 ∧ Chg W0.heap.size w.heap.size (g + 3) W wr)
      (fun _ wr => wr.rangeLeft ma ri)
    case atStart =>
      refine ⟨_, cnt, 0, _, hrg, q2.kept hgr (by simp), (IsI.empty s).congr fun y => (nxt_start hx1 (fun z h0 h1 hz => hI.2.2.2 z (inR_of (by omega) (by omega)) hz) y).symm, by omega, fun z hz hh => hI.2.2.1 z hz hh, f1.kept hgr (by simp), f2.kept hgr (by simp), f0.kept hgr (by simp), hC0⟩
    case round =>
      obtain ⟨left, cnt2, n2, D2, hrg2, hown2, hD2, hn2, hlf, k1, k2, k0, hC⟩ := hrel
      obtain ⟨wi, rfl⟩ : ∃ wi, wi = wr := ⟨wr, rfl⟩
      rcases next_int hrg2 hI 0 with ⟨hz, hl0, hrun2⟩ | ⟨x0, w4, cnt', hx, hlx, hrun2, hrg4, hlt4, hg4, hs4, hen⟩
      · have e1' := k1.cell 0 rfl
        have e2' := k2.cell 0 rfl
        have g1' := k1.frozen 0
        have g2' := fun v => (k2.other (b' := g + 1) 0 v (by omega)).frozen 0
        gi_wp2
        have hC' := (hC.set (g + 1) 0 (.map (some mb)) (by omega) (by omega)).set (g + 2) 0 (.map (some ma)) (by omega) (by omega)
        refine ⟨hC'.kf, hC'.kp, mb, ma, n2, na, D2, Da, by omega, (k1.set 0 (.map (some mb))).other 0 _ (by omega), (k2.other 0 _ (by omega)).set 0 (.map (some ma)), (k0.other 0 _ (by omega)).other 0 _ (by omega),
          owns_set (owns_set hown2 0 _ (by omega)) 0 _ (by omega), owns_set (owns_set hrg2.owns 0 _ (by omega)) 0 _ (by omega), ?_, by rw [hpw]; omega, hB.trans hC'.kp.1, Nat.le_trans hgs hC'.size⟩
        rw [hsn]
        refine hD2.congr fun y => ?_
        rw [← hF]
        exact nxt_end hx1 (fun z h0 h1 => hl0 z (inR_of (by omega) (by omega))) y
      · have hne := hrg2.ne
        obtain ⟨hx0, hxs⟩ := hlf x0 hx hlx
        have hfx := hcm x0
        have hC4 := hC.grown hg4 (by have := hC.size; omega) (by have := hC.size; omega) (fun r e => by cases e; omega)
        have k1' := k1.kept hg4 (by simp; omega)
        have k2' := k2.kept hg4 (by simp; omega)
        have k0' := k0.kept hg4 (by simp; omega)
        have hown4 := hown2.kept hg4 (by simp; omega)
        gi_wp2
        gi_loopw [11] (fun i wr => ∃ (t : Int) (n3 : Nat) (D3 : DU), i = .int .i64 t ∧ x0 ≤ t ∧ (t - x0) % c = 0 ∧ t ≤ s + c ∧ RangeI wr ma ri na Da (fun y => left y && !(y == x0)) cnt' ∧ wr.ownsMap Try.prog 3 (plainElem Try.prog 3) mb n3 D3 ∧
            IsI D3 s (nxj c x0 t (f x0) (nxt s c f left)) ∧ (n3 : Int) + x0 ≤ n2 + t ∧ (n3 : Int) + x0 ≤ n2 + s + 1 ∧ Blk wr (g + 1) #[.map (some ma)] 70 ∧ Blk wr (g + 2) #[.map (some mb)] 70 ∧ Blk wr w.heap.size #[.int .i64 s] 3 ∧ Chg W0.heap.size w.heap.size (g + 3) W wr)
          (fun i _ => (s + 41 - intOf i).toNat)
        case atStart =>
          exact ⟨x0, n2, D2, rfl, Int.le_refl _, by simp, by omega, hrg4, hown4, hD2.congr fun y => by simp [nxj]; intros; omega, by omega, by omega, k1', k2', k0', hC4⟩
        case round =>
          obtain ⟨t, n3, D3, rfl, ht1, ht2, ht3, hrg5, hown5, hD3, hn3, hn3', j1, j2, j0, hC5⟩ := hrel
          have e0' := j0.cell 0 rfl
          have e2' := j2.cell 0 rfl
          have hbt := nxt_bound (left := left) hx1 hs1 (show (0 : Int) ≤ (Mn : Nat) by omega) hcm t
          by_cases hts : t ≤ s
          · have hlk := look_int hown5 hD3 h70 (x := t) (inR_of (by omega) (by omega))
            have hv : nxj c x0 t (f x0) (nxt s c f left) t = nxt s c f left t := by simp [nxj]
            rw [hv] at hlk
            obtain ⟨w6, hput, hown6, hg6⟩ := put_int hown5 h70 (by unfold maxLen; omega) (x := t) (v := nxt s c f left t + f x0) (inR_of (by omega) (by omega)) (inR_of (by omega) (by omega))
            have hjs := fun y => nxj_step (n := f x0) (B := nxt s c f left) hx1 ht1 ht2 y
            rw [hv] at hjs
            have hC6 := hC5.grown hg6 (by have := hC5.size; omega) (by have := hC5.size; omega) (fun r e => by cases e; omega)
            gi_wp2
            exact ⟨⟨t + c, n3 + 1, _, rfl, by omega, by rw [show t + c - x0 = (t - x0) + c by omega, Int.add_emod, ht2]; simp, by omega, hrg5.kept hg6 (by simp; omega) (by simp; omega), hown6, (hD3.put t _ (by omega) hts).congr hjs, by omega, by omega,
              j1.kept hg6 (by simp; omega), j2.kept hg6 (by simp; omega), j0.kept hg6 (by simp; omega), hC6⟩, by simp [intOf]; omega⟩
          · gi_wp2
            refine ⟨⟨_, cnt', n3, D3, hrg5, hown5, hD3.congr fun y => nxj_end hx1 hx0 hxs hlx ht1 ht2 (by omega) ht3 y, by omega, fun y hy hh => hlf y hy ?_, j1, j2, j0, hC5⟩, ?_⟩
            · rw [Bool.and_eq_true] at hh
              exact hh.1
            · rw [hrg5.left_eq, hrg2.left_eq]
              exact hlt4
  case done =>
    rintro D ys W hD rfl ⟨ma, mb, na, nb, Da, Db, hsw, d1, d2, d0, p1, p2, hI, hna, hB, hgs⟩ hK
    have e0 := d0.cell 0 rfl
    have e1 := d1.cell 0 rfl
    rw [coinsOf_all] at hI
    have hlk := look_int p1 hI h70 (x := s) (inR_of (by omega) (by omega))
    rw [show cut s (cw zs) s = cw zs s by simp [cut]] at hlk
    gi_wp2
    refine ⟨by simp, .inl ⟨_, _, rfl, run_takeDeferred hK, ?_⟩⟩
    have hBz := hB.trans (belowK_b (w := w) (Nat.le_refl _) W D _ (.deferred none) (by omega) hK rfl rfl)
    exact ⟨_, results_tmp2 rfl _ _ _, rfl, hBz⟩
  case stop =>
    rintro D c pre W hD _ h _
    exact h.elim
set_option maxHeartbeats 1000000 in
theorem ways_err (e : Int) (he : e ≠ 0) (v0 : Value) (s : Int) (w : World) (hck : ∀ W, Below w.heap.size w W → Calls Try.prog 56 #[v0, .int .i64 s] W fun x w' => x = .returned (.int .i64 e) ∧ Below W.heap.size W w') :
    Calls Try.prog 37 #[v0, .int .i64 s] w fun x w' => x = .returned (.tuple #[.int .i64 0, .int .i64 e]) ∧ Below w.heap.size w w' := by
  go_enter Try.func37, Try.ntmps37
  go_wp2_with (go_at_call 56; refine (hck _ ((Below.refl _ w).alloc (Nat.le_refl _) _)).mono ?_; rintro e w1 ⟨rfl, hB1⟩)
  have hB2 : Below w.heap.size w w1 := ((Below.refl _ w).alloc (Nat.le_refl _) _).trans (hB1.mono (by simp))
  go_ret2
  exact ⟨rfl, hB2⟩
end
open Go.Vi
theorem HC37 (n : Nat × Nat) (xs : pksDen [.c (.sl (.int .i64)), .c (.int .i64)]) (r : rksDen [.c (.int .i64) 0, .c (.int .i64) 0]) (h : HF37 (S56 n) xs.1 xs.2.1 = some r) (vs : List V) (hv : pksArg [.c (.sl (.int .i64)), .c (.int .i64)] vs = some xs) :
    FC Try.prog 37 vs (rets [.c (.int .i64) 0, .c (.int .i64) 0] r) := by
  obtain ⟨zs, s, ⟨⟩⟩ := xs
  unfold HF37 at h
  obtain ⟨e, he, h⟩ := Option.bind_eq_some_iff.1 h
  intro w A0 args hA hargs hgl
  have hv2 := pksArg_VR _ _ _ _ hv hargs
  match args, hv2 with
  | [v0, v1], ⟨g0, g1, _⟩ =>
    have g1 : v1 = .int .i64 s := g1
    subst g1
    have hck := fun W (hW : Below w.heap.size w W) => call_list2 (rk := []) (FC56 n) (zs := zs) he hA g0 hW
    have fin : ∀ {x y : Int} {e' : Ending} {W' : World}, e' = .returned (.tuple #[.int .i64 x, .int .i64 y]) ∧ Below w.heap.size w W' →
        (match e', W' with | .returned u, w' => Grows w w' ∧ RetR w w' A0 (rets [.c (.int .i64) 0, .c (.int .i64) 0] (x, y)) u | _, _ => False) := by
      rintro x y e' W' ⟨rfl, hB⟩
      exact ⟨Grows.of_below hB, [.emp, .emp], [_, _], rfl, rfl, fun b c h => (by cases h), rfl, fun b c h => (by cases h), trivial⟩
    cases hz : e != 0 with
    | true =>
      rw [hz] at h
      cases h
      exact (ways_err e (by simpa using hz) v0 s w hck).mono fun _ _ h => fin h
    | false =>
      rw [hz] at h
      have hz : e = 0 := by simpa using hz
      subst hz
      simp only [cond_false] at h
      obtain ⟨hd, h⟩ := cond_some h rfl
      cases h
      simp only [Bool.and_eq_true, decide_eq_true_eq, List.all_eq_true] at hd
      obtain ⟨⟨hc, hl0, hl1⟩, hs0, hs1⟩ := hd
      obtain ⟨b, off, cap, rfl, hb, hcs⟩ := CR_ints (zs := zs) (t := false) g0 hl0 hA
      exact ((callsIn_wide (n := 3)).1 (ways_in Fence.wide 3 trivial trivial trivial trivial rfl (by omega) b off cap zs s w hb hcs hl0 hl1 hc hs0 hs1 (fun W hW => callsIn_wide.2 (hck W hW)))).mono fun _ _ h => fin h
end Go.Proofs.Ytjgmfdgpgdaclaa
set_option linter.unusedVariables false
set_option linter.unusedSimpArgs false
set_option maxRecDepth 100000
namespace Go.Proofs.Ytjgmfdgpgdaclaa
open Go.Vi
abbrev R37 := Int × Int
def pk37 : List PK := [.c (.sl (.int .i64)), .c (.int .i64)]
def rk37 : List RK := [.c (.int .i64) 0, .c (.int .i64) 0]
noncomputable def S37 (n : Nat × Nat) (coins0 : List Int) (sum1 : Int) : Option R37 := HF37 (S56 n) coins0 sum1
noncomputable def P37 (n : Nat × Nat) := phiOf pk37 rk37 (fun xs => S37 n xs.1 xs.2.1)
theorem call37 : CallOK Try.prog 37 := callOK_of Try.func37 (by kernel_rfl) (by kernel_rfl)
theorem FC37 (n : Nat × Nat) : FCs Try.prog 37 (P37 n) := phiOf_FCs fun xs r h vs hv => HC37 n xs r h vs hv
end Go.Proofs.Ytjgmfdgpgdaclaa
