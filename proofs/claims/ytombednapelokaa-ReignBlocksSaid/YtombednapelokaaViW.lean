/-
  Vi: from what a statement's reading of the arguments says to the data that a contract wants; the given row.
-/
import Derived.Test.YtombednapelokaaViS
import Derived.OpenShut
import Derived.ProofKit
import Derived.Carry
import Derived.JoinedCond
set_option linter.unusedVariables false
set_option linter.unusedSimpArgs false
namespace Go.Vi
open Go.ChangeShapes Go.WideShapes Go.ChangeAt Go.RowKit

def rdL (P : Program) (rd : TypeId → Sh → Bool) : Nat → List (Nat × TypeId) → Sh → Bool
  | off, [(o, t)], s => (Nat.beq o off && Nat.beq (P.cellsOf t) s.nc && rd t s) || (match s with | .pair a .unit => Nat.beq o off && Nat.beq (P.cellsOf t) a.nc && rd t a | _ => false)
  | off, (o, t) :: r, .pair a b => (Nat.beq o off && Nat.beq (P.cellsOf t) a.nc && rd t a) && rdL P rd (off + a.nc) r b
  | _, [], .unit => true
  | _, _, _ => false

/-- Does a type read as this shape? -/
def rdB (P : Program) : Nat → TypeId → Sh → Bool
  | 0, _, _ => false
  | n + 1, t, s =>
    match P.underlying t with
    | some .bool => decide (s = .bool)
    | some (.int k) => decide (s = .int k)
    | some .string => decide (s = .str)
    | some (.slice e) => (match s with | .sl e' => rdB P n e e' && Nat.beq (P.cellsOf e) e'.nc && Nat.ble 1 e'.nc | _ => false)
    | some (.struct fs) => s.agg && Nat.beq (P.cellsOf t) s.nc && rdL P (rdB P n) 0 (fs.toList.map fun f => (f.offset, f.type)) s
    | some (.array m e) => s.agg && Nat.beq (P.cellsOf t) s.nc && rdL P (rdB P n) 0 ((List.range m).map fun i => (i * P.cellsOf e, e)) s
    | _ => false

/-- Numbers lie within their kinds. -/
def Wf : (s : Sh) → s.den → Prop
  | .int k, n => (Lit.int k n).wf = true
  | .sl e, xs => xs.length ≤ 9223372036854775807 ∧ ∀ x ∈ xs, Wf e x
  | .pair a b, x => Wf a x.1 ∧ Wf b x.2
  | .str, s => s.size ≤ 9223372036854775807
  | _, _ => True

theorem mapM_some {α β : Type} {f : α → Option β} : ∀ {l : List α} {ys : List β}, l.mapM f = some ys → All2 (fun a y => f a = some y) l ys
  | [], ys, h => by
    simp at h
    subst h
    trivial
  | a :: l, ys, h => by
    rw [List.mapM_cons] at h
    cases h1 : f a with
    | none => rw [h1] at h; cases h
    | some y =>
      rw [h1] at h
      cases h2 : l.mapM f with
      | none =>
        rw [h2] at h
        cases h
      | some zs =>
        rw [h2] at h
        cases h
        exact ⟨h1, mapM_some h2⟩

theorem All2.unmap {α β γ : Type} {R : β → γ → Prop} {f : α → β} : ∀ {l : List α} {ys : List γ}, All2 (fun a y => R (f a) y) l ys → All2 R (l.map f) ys
  | [], [], _ => trivial
  | _ :: _, _ :: _, h => ⟨h.1, All2.unmap h.2⟩

section
variable {P : Program} {W : World} {H : Type} {enc : TypeId × Value → H} {sp : Nat → Bool} {held : Bool} {A : Nat → Prop}

theorem rdL_sound {rd : TypeId → Sh → Bool} {f : TypeId → List Value → Option (DataW H × List MemPlace)} (IH : ∀ t s cs d, rd t s = true → f t cs = some d → ∃ x : s.den, VRs W A s x cs ∧ Wf s x) (cs : List Value) :
    ∀ (l : List (Nat × TypeId)) (off : Nat) (s : Sh) (ys : List (DataW H × List MemPlace)), rdL P rd off l s = true → All2 (fun p y => f p.2 ((cs.drop p.1).take (P.cellsOf p.2)) = some y) l ys →
      ∃ x : s.den, VRs W A s x ((cs.drop off).take s.nc) ∧ Wf s x
  | [], off, s, ys, h, hy => by
    cases s <;> simp [rdL] at h
    exact ⟨(), by simp [VRs, Sh.nc], trivial⟩
  | [(o, t)], off, s, [y], h, hy => by
    simp only [rdL, Bool.or_eq_true, Bool.and_eq_true] at h
    rcases h with ⟨⟨h1, h2⟩, h3⟩ | h
    · have := Nat.eq_of_beq_eq_true h1
      have h2 := Nat.eq_of_beq_eq_true h2
      subst this
      have hy1 := hy.1
      simp only [h2] at hy1
      exact IH t s _ y h3 hy1
    · cases s with
      | pair a b =>
        cases b with
        | unit =>
          simp only [Bool.and_eq_true] at h
          obtain ⟨⟨h1, h2⟩, h3⟩ := h
          have := Nat.eq_of_beq_eq_true h1
          have h2 := Nat.eq_of_beq_eq_true h2
          subst this
          have hy1 := hy.1
          simp only [h2] at hy1
          obtain ⟨x, hx, hw⟩ := IH t a _ y h3 hy1
          refine ⟨(x, ()), ⟨?_, ?_⟩, hw, trivial⟩
          · simpa [Sh.nc, List.take_take] using hx
          · simp [Sh.nc, VRs]
        | _ => simp at h
      | _ => simp at h
  | (o, t) :: p :: r, off, s, y :: ys, h, hy => by
    cases s with
    | pair a b =>
      simp only [rdL, Bool.and_eq_true] at h
      obtain ⟨⟨⟨h1, h2⟩, h3⟩, h4⟩ := h
      have := Nat.eq_of_beq_eq_true h1
      have h2 := Nat.eq_of_beq_eq_true h2
      subst this
      have hy1 := hy.1
      simp only [h2] at hy1
      obtain ⟨x, hx, hw⟩ := IH t a _ y h3 hy1
      obtain ⟨x2, hx2, hw2⟩ := rdL_sound IH cs (p :: r) _ b ys h4 hy.2
      refine ⟨(x, x2), ⟨?_, ?_⟩, hw, hw2⟩
      · rw [Sh.nc, List.take_take, Nat.min_eq_left (by omega)]
        exact hx
      · rw [Sh.nc, List.drop_take, List.drop_drop, Nat.add_sub_cancel_left]
        exact hx2
    | _ => simp [rdL] at h
  | [_], _, _, [], _, hy => hy.elim
  | [_], _, _, _ :: _ :: _, _, hy => hy.2.elim
  | _ :: _ :: _, _, _, [], _, hy => hy.elim

theorem rows_of {e : Sh} {f : List Value → Option (DataW H × List MemPlace)} (IH : ∀ cs d, f cs = some d → ∃ x : e.den, VRs W A e x cs ∧ Wf e x) {n : Nat} {a : Addr} : ∀ (l : List Nat) (ys : List (DataW H × List MemPlace)),
    All2 (fun i y => (W.cells? 0 (a.add (i * n)) n).bind f = some y) l ys → ∃ xs : List e.den, All2 (fun i x => ∃ us, W.cells? 0 (a.add (i * n)) n = some us ∧ VRs W A e x us) l xs ∧ ∀ x ∈ xs, Wf e x
  | [], [], _ => ⟨[], trivial, by simp⟩
  | i :: l, y :: ys, h => by
    obtain ⟨us, h1, h2⟩ := Option.bind_eq_some_iff.1 h.1
    obtain ⟨x, hx, hw⟩ := IH us y h2
    obtain ⟨xs, hxs, hws⟩ := rows_of IH l ys h.2
    exact ⟨x :: xs, ⟨⟨us, h1, hx⟩, hxs⟩, by simpa using ⟨hw, hws⟩⟩

theorem cells_row {b o : Nat} {cur : Array Value} {et : TypeId} {fz : Nat × Nat} (h : W.heap[b]? = some (.cells cur et fz)) : ∀ {n : Nat} {us : List Value}, W.cells? 0 ⟨b, o, none⟩ n = some us → us = (cur.toList.drop o).take n ∧ o + us.length ≤ o + n ∧ us.length = n ∧ (0 < n → o + n ≤ cur.size) := by
  intro n us hu
  simp only [World.cells?, Nat.zero_le, if_true] at hu
  have h1 := mapM_some hu
  have hl := h1.length
  simp at hl
  have hg : ∀ i, i < n → us[i]? = cur.toList[o + i]? ∧ o + i < cur.size := by
    intro i hi
    obtain ⟨v, h2, h3⟩ := h1.get (i := i) (a := i) (by simp [hi])
    rw [add_eq, cell_row h] at h3
    rw [h2, h3]
    refine ⟨rfl, ?_⟩
    have := List.getElem?_eq_some_iff.1 h3
    obtain ⟨this, _⟩ := this
    simpa using this
  refine ⟨?_, by omega, hl.symm, fun hn => by have := (hg (n - 1) (by omega)).2; omega⟩
  apply List.ext_getElem?
  intro i
  rw [List.getElem?_take, List.getElem?_drop]
  split
  · rename_i hi
    exact (hg i hi).1
  · rename_i hi
    exact List.getElem?_eq_none (by omega)

theorem All2.range {α : Type} {R : Nat → α → Prop} {n : Nat} {xs : List α} (h : All2 R (List.range n) xs) : xs.length = n ∧ ∀ i x, xs[i]? = some x → R i x := by
  have hl := h.length
  simp at hl
  refine ⟨hl.symm, fun i x hx => ?_⟩
  have hi : i < n := by
    obtain ⟨hi, _⟩ := List.getElem?_eq_some_iff.1 hx
    omega
  obtain ⟨y, h1, h2⟩ := h.get (i := i) (a := i) (by simp [hi])
  rw [h1] at hx
  cases hx
  exact h2

theorem rdB_sound (hA : ∀ b, b < W.heap.size → A b) : ∀ (n : Nat) (t : TypeId) (s : Sh) (fuel : Nat) (cs : List Value) (d : DataW H × List MemPlace), rdB P n t s = true → DataW.trod enc P W 0 sp held fuel t cs = some d →
    ∃ x : s.den, VRs W A s x cs ∧ Wf s x
  | 0, _, _, _, _, _, h, _ => by cases h
  | n + 1, t, s, 0, cs, d, h, hd => by cases hd
  | n + 1, t, s, fuel + 1, cs, d, h, hd => by
    unfold rdB at h
    split at h
    · rename_i hu
      have hs := of_decide_eq_true h
      subst hs
      simp only [DataW.trod, hu] at hd
      match cs, hd with
      | [.bool b], _ => exact ⟨(b : Bool), rfl, trivial⟩
    · rename_i k hu
      have hs := of_decide_eq_true h
      subst hs
      simp only [DataW.trod, hu] at hd
      match cs, hd with
      | [.int k' m], hd =>
        have hd : (if k' = k ∧ (Lit.int k m).wf = true then some (DataW.lit (Lit.int k m), []) else none) = some d := hd
        by_cases hc : k' = k ∧ (Lit.int k m).wf = true
        · obtain ⟨rfl, hw⟩ := hc
          exact ⟨(m : Int), rfl, hw⟩
        · rw [if_neg hc] at hd
          cases hd
    · rename_i hu
      have hs := of_decide_eq_true h
      subst hs
      simp only [DataW.trod, hu] at hd
      match cs, hd with
      | [.string b], hd =>
        have hd : (if b.size ≤ maxLen then some (DataW.lit (Lit.string b.data.toList), []) else none) = some d := hd
        by_cases hc : b.size ≤ maxLen
        · refine ⟨(b : ByteArray), rfl, ?_⟩
          simp only [Wf]
          exact Nat.le_trans hc (by decide)
        · rw [if_neg hc] at hd
          cases hd
    · rename_i et hu
      cases s with
      | sl e =>
        simp only [Bool.and_eq_true] at h
        obtain ⟨⟨h1, h2⟩, h3⟩ := h
        have h2 := Nat.eq_of_beq_eq_true h2
        have h3 := Nat.le_of_ble_eq_true h3
        simp only [DataW.trod, hu] at hd
        match cs, hd with
        | [.slice none 0 0], _ => exact ⟨[], ⟨none, 0, rfl, by simp, .inl rfl⟩, by simp [Wf]⟩
        | [.slice (some a) len cap], hd =>
          by_cases hc : 0 ≤ a.block ∧ len ≤ cap ∧ cap ≤ maxLen
          · simp only [hc, and_self, if_true] at hd
            obtain ⟨elems, he, hd⟩ := Option.bind_eq_some_iff.1 hd
            have he := mapM_some he
            rw [h2] at he
            obtain ⟨xs, hxs, hw⟩ := rows_of (e := e) (f := DataW.trod enc P W 0 sp held fuel et) (fun cs d hd => rdB_sound hA n et e fuel cs d h1 hd) _ _ he
            obtain ⟨hlen, hget⟩ := All2.range hxs
            refine ⟨xs, ⟨some a, cap, by rw [hlen], by omega, ?_⟩, ?_, hw⟩
            · cases hxl : xs with
              | nil => exact .inl rfl
              | cons y ys =>
                right
                have hlp : 0 < xs.length := by rw [hxl]; simp
                obtain ⟨us0, hu0, _⟩ := hget 0 xs[0] (List.getElem?_eq_getElem hlp)
                have hc0 := mapM_some (by simpa [World.cells?] using hu0 : (List.range e.nc).mapM (fun i => W.cell? ((a.add (0 * e.nc)).add i)) = some us0)
                obtain ⟨v0, _, hv0⟩ := hc0.get (i := 0) (a := 0) (List.getElem?_range (by omega))
                simp [Addr.add] at hv0
                have hsp := World.cell?_spot hv0
                obtain ⟨b, o, spot⟩ := a
                simp at hsp
                subst hsp
                have hblk : ∃ cur et' fz, W.heap[b]? = some (.cells cur et' fz) := by
                  unfold World.cell? at hv0
                  simp only at hv0
                  split at hv0
                  · rename_i c _ _ hb
                    exact ⟨_, _, _, hb⟩
                  · cases hv0
                obtain ⟨cur, et', fz, hb⟩ := hblk
                have hbl : b < W.heap.size := by
                  obtain ⟨hi, _⟩ := Array.getElem?_eq_some_iff.1 hb
                  exact hi
                rw [← hxl]
                refine ⟨b, o, cur, et', fz, rfl, hA b hbl, hb, ?_, ?_⟩
                · obtain ⟨us, hus, _⟩ := hget (xs.length - 1) (xs[xs.length - 1]'(by omega)) (by simp [hlp])
                  rw [add_eq] at hus
                  have := (cells_row hb hus).2.2.2 (by omega)
                  have e2 : (xs.length - 1) * e.nc + e.nc = xs.length * e.nc := by
                    conv => rhs; rw [show xs.length = (xs.length - 1) + 1 by omega, Nat.add_mul, Nat.one_mul]
                  omega
                · intro i x hx
                  obtain ⟨us, hus, hv⟩ := hget i x hx
                  rw [add_eq] at hus
                  rw [← (cells_row hb hus).1]
                  exact hv
            · have h4 := hc.2.2
              have h5 : cap ≤ 9223372036854775807 := Nat.le_trans h4 (by decide)
              omega
          · simp only [hc, if_false] at hd
            cases hd
      | _ => cases h
    · rename_i fs hu
      simp only [Bool.and_eq_true] at h
      obtain ⟨⟨h1, h2⟩, h3⟩ := h
      have h2 := Nat.eq_of_beq_eq_true h2
      simp only [DataW.trod, hu] at hd
      split at hd
      · rename_i hc
        obtain ⟨ys, hy, _⟩ := Option.map_eq_some_iff.1 hd
        have hy := mapM_some hy
        have hy2 := All2.unmap (R := fun (p : Nat × TypeId) y => DataW.trod enc P W 0 sp held fuel p.2 ((cs.drop p.1).take (P.cellsOf p.2)) = some y) (f := fun (f : Field) => (f.offset, f.type)) hy
        obtain ⟨x, hx, hw⟩ := rdL_sound (fun t s cs d ht hd => rdB_sound hA n t s fuel cs d ht hd) cs _ 0 s ys h3 hy2
        refine ⟨x, ?_, hw⟩
        rwa [List.drop_zero, List.take_of_length_le (by omega)] at hx
      · cases hd
    · rename_i m e hu
      simp only [Bool.and_eq_true] at h
      obtain ⟨⟨h1, h2⟩, h3⟩ := h
      have h2 := Nat.eq_of_beq_eq_true h2
      simp only [DataW.trod, hu] at hd
      split at hd
      · rename_i hc
        obtain ⟨ys, hy, _⟩ := Option.map_eq_some_iff.1 hd
        have hy := mapM_some hy
        have hy2 := All2.unmap (R := fun (p : Nat × TypeId) y => DataW.trod enc P W 0 sp held fuel p.2 ((cs.drop p.1).take (P.cellsOf p.2)) = some y) (f := fun i => (i * P.cellsOf e, e)) hy
        obtain ⟨x, hx, hw⟩ := rdL_sound (fun t s cs d ht hd => rdB_sound hA n t s fuel cs d ht hd) cs _ 0 s ys h3 hy2
        refine ⟨x, ?_, hw⟩
        rwa [List.drop_zero, List.take_of_length_le (by omega)] at hx
      · cases hd
    · cases h

theorem ofC_cells : ∀ (s : Sh) (x : s.den), ofC s (cells s x) = some x
  | .int k, x => by simp [cells, ofC]
  | .bool, x => rfl
  | .str, x => rfl
  | .sl e, xs => by simp [cells, ofC]
  | .unit, x => rfl
  | .pair a b, x => by
    have h1 : (cells a x.1 ++ cells b x.2).take a.nc = cells a x.1 := by rw [← cells_length a x.1, List.take_left]
    have h2 : (cells a x.1 ++ cells b x.2).drop a.nc = cells b x.2 := by rw [← cells_length a x.1, List.drop_left]
    simp only [cells, ofC, h1, h2, ofC_cells a, ofC_cells b]

theorem valOf_val (s : Sh) (x : s.den) : valOf s ((PK.c s).val x) = some x := by
  cases hs : s.agg with
  | true => simp only [PK.val, hs, cond_true, valOf, ofC_cells]
  | false =>
    have hl := cells_length s x
    rw [nagg_one hs] at hl
    match hc : cells s x, hl with
    | [c], _ =>
      have e : (PK.c s).val x = .c c := by simp only [PK.val, hs, cond_false, hc]
      rw [e]
      simp only [valOf, hs, cond_false]
      rw [← hc]
      exact ofC_cells s x

theorem rdB_agg {n : Nat} {t : TypeId} {s : Sh} (h : rdB P n t s = true) (hs : s.agg = true) : (∃ fs, P.underlying t = some (.struct fs)) ∨ ∃ m e, P.underlying t = some (.array m e) := by
  cases n with
  | zero => cases h
  | succ n =>
    unfold rdB at h
    split at h
    · have := of_decide_eq_true h; subst this; cases hs
    · have := of_decide_eq_true h; subst this; cases hs
    · have := of_decide_eq_true h; subst this; cases hs
    · cases s <;> first | cases h | cases hs
    · rename_i fs hu; exact .inl ⟨_, hu⟩
    · rename_i m e hu; exact .inr ⟨_, _, hu⟩
    · cases h

theorem rdB_nagg {n : Nat} {t : TypeId} {s : Sh} (h : rdB P n t s = true) (hs : s.agg = false) : P.underlying t = some .bool ∨ (∃ k, P.underlying t = some (.int k)) ∨ P.underlying t = some .string ∨ ∃ e, P.underlying t = some (.slice e) := by
  cases n with
  | zero => cases h
  | succ n =>
    unfold rdB at h
    split at h
    · rename_i hu; exact .inl hu
    · rename_i k hu; exact .inr (.inl ⟨k, hu⟩)
    · rename_i hu; exact .inr (.inr (.inl hu))
    · rename_i e hu; exact .inr (.inr (.inr ⟨e, hu⟩))
    · simp [hs] at h
    · simp [hs] at h
    · cases h

theorem trod_arg {n : Nat} {t : TypeId} {s : Sh} {v : Value} {d : DataW H} {ps : List MemPlace} {base : Nat} {r : Reach} (hn : rdB P n t s = true) (hval : Value.okWide P W r base t v) (h : DataW.Trod enc P W 0 sp held t v d ps) (hA : ∀ b, b < W.heap.size → A b) :
    ∃ x : s.den, VR noGam W A emp ((PK.c s).val x) v ∧ Wf s x := by
  obtain ⟨fuel, h⟩ := h
  obtain ⟨x, hx, hw⟩ := rdB_sound hA n t s fuel _ _ hn h
  refine ⟨x, ?_, hw⟩
  have hc := CR.of_VRs s x _ hx
  cases hs : s.agg with
  | true =>
    simp only [PK.val, hs, cond_true]
    have : ∃ cs, v = .agg cs := by
      rcases rdB_agg hn hs with ⟨fs, hu⟩ | ⟨m, e, hu⟩
      · simp only [Value.okWide, hu] at hval
        obtain ⟨cs, h1, _⟩ := hval
        exact ⟨cs, h1⟩
      · simp only [Value.okWide, hu] at hval
        obtain ⟨cs, h1, _⟩ := hval
        exact ⟨cs, h1⟩
    obtain ⟨cs, rfl⟩ := this
    exact ⟨cs.toList, by simp, hc⟩
  | false =>
    have hl := cells_length s x
    rw [nagg_one hs] at hl
    match hcs : cells s x, hl with
    | [c], _ =>
      rw [hcs] at hc
      obtain ⟨u, hu, hcr⟩ := hc.one
      have : v = u := by
        cases v with
        | agg cs =>
          exfalso
          rcases rdB_nagg hn hs with h1 | ⟨k, h1⟩ | h1 | ⟨e, h1⟩ <;> simp [Value.okWide, h1, Cell.okWide, Cell.ok] at hval
        | _ => simpa [Value.cells] using hu
      subst this
      simp only [PK.val, hs, cond_false, hcs]
      exact hcr

end
end Go.Vi
