/- Texts of this claim, joined: Back to H41s. -/
import Derived.BigRegionIn
import Derived.Deep.Cut
import Derived.Great.Frames
import Derived.KernelRfl
import Derived.LoopIn
import Derived.LoopNIn
import Derived.Maps.Ext
import Derived.Maps.OwnIn
import Derived.Maps.RangeWalk
import Derived.Maps.Views
import Derived.OwnWalkIn
import Derived.RangeFuncBound
import Derived.RangeFuncBox
import Derived.RangeFuncCalls
import Derived.RangeFuncLeaves
import Derived.RangeFuncNested
import Derived.Shelf.Abstract
import Derived.Shelf.SlMaps.Clone
import Derived.Stop.RegionWithIn
import Derived.TacticsInMore
import Derived.Test.YtjgmfdgpgdaclaaProg
import Derived.WalkKit
import Derived.Test.YtjgmfdgpgdaclaaP4
set_option linter.unusedVariables false
set_option linter.unusedSimpArgs false
set_option maxRecDepth 100000
namespace Go.Proofs.Ytjgmfdgpgdaclaa
open Go.RowKit Go.Shelf
attribute [local go_sem] Oper.semAt_some
/-- The numbers from one on, the last one first. -/
def bw (len m : Nat) : List (Fin len) := ((List.finRange len).drop m).reverse
theorem bw_top (len : Nat) : bw len len = [] := by simp [bw]
theorem bw_snoc (len m : Nat) (h : m < len) : bw len m = bw len (m + 1) ++ [⟨m, h⟩] := by
  unfold bw
  rw [List.drop_eq_getElem_cons (by simpa using h)]
  simp
theorem bw_length (len m : Nat) : (bw len m).length = len - m := by simp [bw]
/-- What a round keeps: what lay below n₀, and the box that holds the slice. -/
def KpB (n₀ Bs : Nat) (W W' : World) : Prop := Below n₀ W W' ∧ W'.heap[Bs]? = W.heap[Bs]?
theorem KpB.refl (n₀ Bs : Nat) (W : World) : KpB n₀ Bs W W := ⟨Below.refl _ _, rfl⟩
theorem KpB.trans {n₀ Bs : Nat} {A B C : World} (h : KpB n₀ Bs A B) (k : KpB n₀ Bs B C) : KpB n₀ Bs A C := ⟨h.1.trans k.1, k.2.trans h.2⟩
theorem KpB.b {w : World} {n₀ Bs : Nat} (hn : n₀ ≤ w.heap.size) (hb : Bs < w.heap.size) (W : World) (l : Nat) (o o' : Obj) (hl : w.heap.size ≤ l) (ho : W.heap[l]? = some o) (hc : o.isCells = false) (hw : o.isWalk = false) : KpB n₀ Bs W (W.putObj l o') :=
  ⟨belowK_b hn W l o o' hl ho hc hw, World.putObj_heap_other (by omega)⟩
set_option maxHeartbeats 2000000 in
/-- slices.Backward's closure, for every loop body that keeps what lay below n₀. -/
theorem back1_in (F : Fence) (n : Nat) (hC : F.fn 78) (hro : F.round = none) (hn : 1 ≤ n) (l Bs n₀ b off cap : Nat) (zs : List Int) (hreach : zs.length * 8 ≤ 140737488351232) (hb : b < n₀) (J Jx : List (Fin zs.length) → World → Prop)
    (hY : ∀ pre x W, J pre W → pre.length < zs.length → YieldAt F (n - 1) Try.prog l #[.int .i64 (x.val : Int), .int .i64 (zs[x.val]'x.isLt)] W fun e W' =>
      (e = .returned (.bool true) ∧ J (pre ++ [x]) W' ∧ KpB n₀ Bs W W') ∨ (e = .returned (.bool false) ∧ Jx (pre ++ [x]) W'))
    (W : World) (hBs : W.cell? ⟨Bs, 0, none⟩ = some (.slice (some ⟨b, off, none⟩) zs.length cap)) (hc : ∀ j (h : j < zs.length), W.cell? ⟨b, off + j, none⟩ = some (.int .i64 zs[j])) (h0 : J [] W) :
    CallsIn F n Try.prog 78 #[.func (.yield l) #[] #[], .pointer (some ⟨Bs, 0, none⟩)] W fun e W' => (∃ v, e = .returned v) ∧
      ((∃ ys, ys = bw zs.length 0 ∧ J ys W') ∨ (∃ pre, (∃ k, k < zs.length ∧ pre = bw zs.length k) ∧ Jx pre W')) := by
  refine callsIn_of_wp Try.func78 rfl hC ?_ hro
  simp only [Try.ntmps78, List.size_toArray, List.length_cons, List.length_nil, Nat.reduceAdd, Nat.reduceSub, Array.replicate_succ, Array.replicate_zero, List.push_toArray, List.append_toArray, List.nil_append, List.cons_append]
  gi_wp2
  gi_loopw [3] (fun i wr => (∃ k : Nat, k < zs.length ∧ i = .int .i64 k ∧ J (bw zs.length (k + 1)) wr ∧ KpB n₀ Bs W wr) ∨ (i = .int .i64 (-1) ∧ J (bw zs.length 0) wr ∧ KpB n₀ Bs W wr))
    (fun i _ => (intOf i + 1).toNat)
  case atStart =>
    rcases Nat.eq_zero_or_pos zs.length with h | h
    · exact .inr ⟨by simp [h], by rw [List.eq_nil_of_length_eq_zero ((bw_length zs.length 0).trans (by omega))]; exact h0, KpB.refl _ _ _⟩
    · exact .inl ⟨zs.length - 1, by omega, by congr 1; omega, by rw [show zs.length - 1 + 1 = zs.length by omega, bw_top]; exact h0, KpB.refl _ _ _⟩
  case round =>
    rcases hrel with ⟨k, hk, rfl, hJs, hnx⟩ | ⟨rfl, hJs, hnx⟩
    · have hcx := (hnx.1.cell (p := ⟨b, off + k, none⟩) hb).trans (hc k hk)
      have hBs' : wr.cell? ⟨Bs, 0, none⟩ = some (.slice (some ⟨b, off, none⟩) zs.length cap) := by rw [← hBs]; simp only [World.cell?, hnx.2]
      obtain ⟨fn, tmps, assign, body, hy, hR⟩ := hY _ ⟨k, hk⟩ wr hJs (by rw [bw_length]; omega)
      dsimp only at hy
      gi_wp2
      refine hR.mono ?_
      rintro e W3 (⟨rfl, hJ3, hk3⟩ | ⟨rfl, hJx3⟩)
      · rw [← bw_snoc _ _ hk] at hJ3
        gi_wp2
        go_roundw
        case rel =>
          cases k with
          | zero => exact .inr ⟨by simp, hJ3, hnx.trans hk3⟩
          | succ k => exact .inl ⟨k, by omega, by congr 1; omega, hJ3, hnx.trans hk3⟩
        case measure => simp [intOf]
      · rw [← bw_snoc _ _ hk] at hJx3
        gi_wp2
        refine bodyPost_ret (results_none rfl _ _ _) rfl ?_
        exact ⟨⟨_, rfl⟩, .inr ⟨_, ⟨k, hk, rfl⟩, hJx3⟩⟩
    · gi_wp2
      go_end0
      exact ⟨⟨_, rfl⟩, .inl ⟨_, rfl, hJs⟩⟩
set_option maxHeartbeats 1000000 in
/-- slices.Backward(s): the slice value is boxed; the function value captures the box. -/
theorem back_in (F : Fence) (n : Nat) (hB : F.fn 72) (hro : F.round = none) (a : Option Addr) (len cap : Nat) (w : World) :
    CallsIn F n Try.prog 72 #[.slice a len cap] w fun e w' => e = .returned (.func (.func 78) #[] #[.pointer (some ⟨w.heap.size, 0, none⟩)]) ∧ w' = w.alloc (.cells #[.slice a len cap] 22) := by
  refine callsIn_of_wp Try.func72 rfl hB ?_ hro
  simp only [Try.ntmps72, List.size_toArray, List.length_cons, List.length_nil, Nat.reduceAdd, Nat.reduceSub, Array.replicate_succ, Array.replicate_zero, List.push_toArray, List.append_toArray, List.nil_append, List.cons_append]
  gi_wp2
  go_ret
  exact ⟨rfl, rfl⟩
/-- slices.Backward(s) hands back a value that 'SeqStopsK'. -/
theorem back_stops (F : Fence) (n : Nat) (hC : F.fn 78) (hro : F.round = none) (hn : 1 ≤ n) (Bs n₀ b off cap : Nat) (zs : List Int) (hreach : zs.length * 8 ≤ 140737488351232) (w : World) (hBs : Bs < w.heap.size) (hn₀ : n₀ ≤ w.heap.size)
    (hc : w.cell? ⟨Bs, 0, none⟩ = some (.slice (some ⟨b, off, none⟩) zs.length cap)) (hb : b < n₀) (hcs : ∀ j (h : j < zs.length), w.cell? ⟨b, off + j, none⟩ = some (.int .i64 zs[j])) :
    SeqStopsK F n Try.prog 78 #[.pointer (some ⟨Bs, 0, none⟩)] (fun x : Fin zs.length => #[Value.int .i64 (x.val : Int), Value.int .i64 (zs[x.val]'x.isLt)]) (KpB n₀ Bs) (fun ys => ys = bw zs.length 0)
      (fun pre => ∃ k, k < zs.length ∧ pre = bw zs.length k) zs.length w := fun l J Jx W hW _ _ hY h0 => by
  have hc' := (hW.cell (p := ⟨Bs, 0, none⟩) hBs).trans hc
  exact back1_in F n hC hro hn l Bs n₀ b off cap zs hreach hb J Jx hY W hc' (fun j hj => (hW.cell (p := ⟨b, off + j, none⟩) (Nat.lt_of_lt_of_le hb hn₀)).trans (hcs j hj)) h0
end Go.Proofs.Ytjgmfdgpgdaclaa
/-
  What the walks by hand share: blocks of cells; numbers that are handed in; numbers that go out.
-/
set_option linter.unusedVariables false
set_option linter.unusedSimpArgs false
set_option maxRecDepth 100000
namespace Go.Proofs.Ytjgmfdgpgdaclaa
open Go.RowKit Go.Shelf
/-- A block of cells. -/
def Blk (W : World) (b : Nat) (cur : Array Value) (t : TypeId) : Prop := W.heap[b]? = some (.cells cur t (0, 0))
theorem Blk.cell {W : World} {b : Nat} {cur : Array Value} {t : TypeId} (h : Blk W b cur t) (j : Nat) {v : Value} (hv : cur[j]? = some v) : W.cell? ⟨b, j, none⟩ = some v := by simp [World.cell?, show W.heap[b]? = _ from h, hv]
theorem Blk.frozen {W : World} {b : Nat} {cur : Array Value} {t : TypeId} (h : Blk W b cur t) (j : Nat) : W.frozen? ⟨b, j, none⟩ = false := by simp [World.frozen?, show W.heap[b]? = _ from h]
theorem Blk.lt {W : World} {b : Nat} {cur : Array Value} {t : TypeId} (h : Blk W b cur t) : b < W.heap.size := (Array.getElem?_eq_some_iff.1 h).1
theorem Blk.kept {W W' : World} {row : Option Nat} {b : Nat} {cur : Array Value} {t : TypeId} (h : Blk W b cur t) (hg : W.grownBy W' row) (hne : some b ≠ row) : Blk W' b cur t := (hg.block b h.lt hne).trans h
theorem Blk.alloc {W : World} {b : Nat} {cur : Array Value} {t : TypeId} (h : Blk W b cur t) (o : Obj) : Blk (W.alloc o) b cur t := h.kept (World.grownBy_alloc W o none) (by simp)
theorem Blk.new (W : World) (cur : Array Value) (t : TypeId) : Blk (W.alloc (.cells cur t)) W.heap.size cur t := World.alloc_heap_new W _
theorem Blk.set {W : World} {b : Nat} {cur : Array Value} {t : TypeId} (h : Blk W b cur t) (j : Nat) (v : Value) : Blk (W.setCell ⟨b, j, none⟩ v) b (cur.setIfInBounds j v) t := heap_setCell_same W b j cur t v h
theorem Blk.other {W : World} {b : Nat} {cur : Array Value} {t : TypeId} (h : Blk W b cur t) {b' : Nat} (j : Nat) (v : Value) (hne : b ≠ b') : Blk (W.setCell ⟨b', j, none⟩ v) b cur t :=
  (heap_setCell_other W ⟨b', j, none⟩ b v (fun e => hne e)).trans h
theorem blk_own {β : Type} (b : Nat) (t : TypeId) (f : β → Array Value) : Own (fun s W => Blk W b (f s) t) := fun s X Y row hs hg hrow =>
  hs.kept hg (fun e' => by obtain ⟨o, ho, hc⟩ := hrow b e'.symm; rw [show X.heap[b]? = _ from hs] at ho; cases ho; cases hc)
theorem Own.and {β : Type} {I J : β → World → Prop} (h : Own I) (k : Own J) : Own (fun s W => I s W ∧ J s W) := fun s X Y row hs hg hr => ⟨h s X Y row hs.1 hg hr, k s X Y row hs.2 hg hr⟩
theorem own_pure {β : Type} (p : β → Prop) : Own (fun s (_ : World) => p s) := fun _ _ _ _ hs _ _ => hs
def rowI (l : List Int) : Array Value := (l.map (Value.int .i64)).toArray
theorem rowI_set (l : List Int) (i : Nat) (v : Int) : (rowI l).setIfInBounds i (.int .i64 v) = rowI (l.set i v) := by
  apply Array.toList_inj.1
  simp [rowI, List.map_set]
open Go.Vi
/-- A slice of numbers that was handed in. -/
theorem CR_ints {w : World} {A : Nat → Prop} {zs : List Int} {t : Bool} {v : Value} (h : CR w A (.sl (.int .i64) zs t) v) (h0 : 0 < zs.length) (hA : ∀ b, A b → b < w.heap.size) :
    ∃ b off cap, v = .slice (some ⟨b, off, none⟩) zs.length cap ∧ b < w.heap.size ∧ ∀ j (h : j < zs.length), w.cell? ⟨b, off + j, none⟩ = some (.int .i64 zs[j]) := by
  obtain ⟨a, cap, rfl, hcap, _, hr⟩ := h
  rcases hr with hr | ⟨b, o, cur, et, fz, rfl, hb, hc, hl, hx⟩
  · rw [hr] at h0; exact absurd h0 (by simp)
  · refine ⟨b, o, cap, rfl, hA b hb, fun j hj => ?_⟩
    have h1 := hx j zs[j] (by simp)
    have h2 : (cur.toList.drop (o + j * 1)).take 1 = [.int .i64 zs[j]] := h1
    have h3 : cur.toList[o + j]? = some (.int .i64 zs[j]) := by
      rw [Nat.mul_one] at h2
      have := congrArg (fun l => l[0]?) h2
      simpa [List.getElem?_take, List.getElem?_drop] using this
    have h4 : cur[o + j]? = some (.int .i64 zs[j]) := by rw [← Array.getElem?_toList]; exact h3
    show (match w.heap[b]? with | some (.cells c _ _) => c[o + j]? | _ => none) = _
    rw [hc]
    exact h4
/-- Numbers that go out in a new row. -/
theorem out_ints {w W' : World} {A1 : Nat → Prop} {b cap : Nat} {l : List Int} {cur : Array Value} {t : TypeId} (hblk : Blk W' b cur t) (hb : w.heap.size ≤ b) (hcap : l.length ≤ cap) (hsz : cap ≤ cur.size) (hc : ∀ (i : Nat) (x : Int), l[i]? = some x → cur[i]? = some (Value.int .i64 x)) :
    RetR1 w W' A1 (.fresh (.int .i64) l false) (.at b cap) (.slice (some ⟨b, 0, none⟩) l.length cap) := by
  have hlt := hblk.lt
  refine ⟨⟨fun h => (by cases h), hcap, _, _, hblk, ?_, ?_⟩, ⟨rfl, hcap, fun h => (by cases h)⟩, fun b' c' h => ?_⟩
  · show cap * 1 ≤ _
    omega
  · intro i x hi
    show ((cur.toList.drop (i * 1)).take 1) = [.int .i64 x]
    have h1 := hc i x hi
    rw [Nat.mul_one]
    have hlt := (Array.getElem?_eq_some_iff.1 h1).1
    rw [List.drop_eq_getElem_cons (by simpa using hlt)]
    simp [(Array.getElem?_eq_some_iff.1 h1).2]
  · cases h
    exact ⟨hb, hlt⟩
theorem rowI_get {l : List Int} {i : Nat} {x : Int} (h : l[i]? = some x) : (rowI l)[i]? = some (.int .i64 x) := by
  simp [rowI, h]
theorem rowI_size (l : List Int) : (rowI l).size = l.length := by simp [rowI]
/-- A call of a function that reads a list of numbers and gives one number. -/
theorem call_list {g : FuncId} {rk : List RK} {t : Nat} {S : pksDen [.c (.sl (.int .i64))] → Option (rksDen [.c (.int .i64) t])} (h : FCs Try.prog g (phiOf [.c (.sl (.int .i64))] [.c (.int .i64) t] S)) {zs : List Int} {e : Int} (hs : S (zs, ()) = some e)
    {w w1 : World} {A0 : Nat → Prop} {v : Value} (hA : ∀ b, A0 b → b < w.heap.size) (hv : CR w A0 (.sl (.int .i64) zs false) v) (hg : Below w.heap.size w w1) :
    Calls Try.prog g #[v] w1 fun x w2 => x = .returned (.int .i64 e) ∧ Below w1.heap.size w1 w2 := by
  obtain ⟨ret, h1, h2⟩ := h [.c (.sl (.int .i64) zs false)] _ some (rets [.c (.int .i64) t] e) (by
    show (pksArg [.c (.sl (.int .i64))] [.c (.sl (.int .i64) zs false)]).bind _ = _
    rw [show pksArg [.c (.sl (.int .i64))] [.c (.sl (.int .i64) zs false)] = some (zs, ()) from rfl]
    simp only [Option.bind_some, hs])
  cases h1
  have hA2 : ∀ b, A0 b → A0 b ∧ w1.heap[b]? = w.heap[b]? := fun b hb => ⟨hb, hg.block b (hA b hb)⟩
  refine (h2 w1 A0 [v] (fun b hb => Nat.lt_of_lt_of_le (hA b hb) hg.size) ⟨CR.mono hA2 _ _ hv, trivial⟩).mono ?_
  intro x w2 hx
  cases x with
  | returned u =>
    obtain ⟨hG, is, us, rfl, hR⟩ := hx
    match is, us, hR with
    | [i], [u], ⟨hu, _, _⟩ =>
      have hu : u = .int .i64 e := hu
      subst hu
      exact ⟨rfl, ⟨hG.os, hG.tape, hG.output, hG.size, hG.blk⟩⟩
    | [], [], hR => exact hR.elim
    | [], _ :: _, hR => exact hR.elim
    | [_], [], hR => exact hR.elim
    | [_], _ :: _ :: _, hR => exact hR.2.2.elim
    | _ :: _ :: _, [], hR => exact hR.elim
    | _ :: _ :: _, [_], hR => exact hR.2.2.elim
    | _ :: _ :: _, _ :: _ :: _, hR => exact hR.2.2.elim
  | _ => exact hx.elim
/-- A call of a function that reads a list of numbers and a number, and gives one number. -/
theorem call_list2 {g : FuncId} {rk : List RK} {t : Nat} {S : pksDen [.c (.sl (.int .i64)), .c (.int .i64)] → Option (rksDen [.c (.int .i64) t])} (h : FCs Try.prog g (phiOf [.c (.sl (.int .i64)), .c (.int .i64)] [.c (.int .i64) t] S)) {zs : List Int} {x e : Int} (hs : S (zs, x, ()) = some e)
    {w w1 : World} {A0 : Nat → Prop} {v : Value} (hA : ∀ b, A0 b → b < w.heap.size) (hv : CR w A0 (.sl (.int .i64) zs false) v) (hg : Below w.heap.size w w1) :
    Calls Try.prog g #[v, .int .i64 x] w1 fun y w2 => y = .returned (.int .i64 e) ∧ Below w1.heap.size w1 w2 := by
  obtain ⟨ret, h1, h2⟩ := h [.c (.sl (.int .i64) zs false), .c (.int .i64 x)] _ some (rets [.c (.int .i64) t] e) (by
    show (pksArg [.c (.sl (.int .i64)), .c (.int .i64)] [.c (.sl (.int .i64) zs false), .c (.int .i64 x)]).bind _ = _
    rw [show pksArg [.c (.sl (.int .i64)), .c (.int .i64)] [.c (.sl (.int .i64) zs false), .c (.int .i64 x)] = some (zs, x, ()) from rfl]
    simp only [Option.bind_some, hs])
  cases h1
  have hA2 : ∀ b, A0 b → A0 b ∧ w1.heap[b]? = w.heap[b]? := fun b hb => ⟨hb, hg.block b (hA b hb)⟩
  refine (h2 w1 A0 [v, .int .i64 x] (fun b hb => Nat.lt_of_lt_of_le (hA b hb) hg.size) ⟨CR.mono hA2 _ _ hv, rfl, trivial⟩).mono ?_
  intro y w2 hx
  cases y with
  | returned u =>
    obtain ⟨hG, is, us, rfl, hR⟩ := hx
    match is, us, hR with
    | [i], [u], ⟨hu, _, _⟩ =>
      have hu : u = .int .i64 e := hu
      subst hu
      exact ⟨rfl, ⟨hG.os, hG.tape, hG.output, hG.size, hG.blk⟩⟩
    | [], [], hR => exact hR.elim
    | [], _ :: _, hR => exact hR.elim
    | [_], [], hR => exact hR.elim
    | [_], _ :: _ :: _, hR => exact hR.2.2.elim
    | _ :: _ :: _, [], hR => exact hR.elim
    | _ :: _ :: _, [_], hR => exact hR.2.2.elim
    | _ :: _ :: _, _ :: _ :: _, hR => exact hR.2.2.elim
  | _ => exact hx.elim
end Go.Proofs.Ytjgmfdgpgdaclaa
/-
  The payment by greatest coins: the walk.
-/
set_option linter.unusedVariables false
set_option linter.unusedSimpArgs false
set_option maxRecDepth 100000
namespace Go.Proofs.Ytjgmfdgpgdaclaa
open Go.RowKit Go.Shelf
section
attribute [local go_sem] Oper.semAt_some
def grStep (c : Int) (p : List Int × Int × Int) : List Int × Int × Int := (p.2.2 / c :: p.1, p.2.1 + p.2.2 / c, p.2.2 - p.2.2 / c * c)
def gr (l : List Int) (s : Int) : List Int × Int × Int := l.foldr grStep ([], 0, s)
def HF63 (l : List Int) (s : Int) : Option (List Int × Int) :=
  bif (l.all fun c => decide (1 ≤ c) && decide (c ≤ 1073741824)) && (decide (0 ≤ s) && decide (s ≤ 1073741824)) && (decide (0 < l.length) && decide (l.length ≤ 1048576)) then some ((gr l s).1, (gr l s).2.1) else none
/-- One coin more. -/
def gf (zs : List Int) (p : List Int × Int × Int) (i : Fin zs.length) : List Int × Int × Int := (p.1.set i.val (p.2.2 / zs[i]), p.2.1 + p.2.2 / zs[i], p.2.2 - p.2.2 / zs[i] * zs[i])
def gfs (zs : List Int) (s : Int) (pre : List (Fin zs.length)) : List Int × Int × Int := pre.foldl (gf zs) (List.replicate zs.length 0, 0, s)
theorem gfs_snoc (zs : List Int) (s : Int) (pre : List (Fin zs.length)) (i : Fin zs.length) : gfs zs s (pre ++ [i]) = gf zs (gfs zs s pre) i := by simp [gfs]
theorem run_mk (w : World) (n : Nat) (hn : n ≤ 1048576) : (Instr.makeSlice 22 (.int .i64 n) (.int .i64 n)).run Try.prog w = .ok (.slice (some ⟨w.heap.size, 0, none⟩) n n) (w.alloc (.cells (rowI (List.replicate n 0)) 3)) := by
  obtain ⟨i0, hi, hz0, hz1, hz2⟩ := info_parts (show (Try.prog.info? 3).map (fun i => (i.zero, i.size, i.bytes)) = some (some (.int .i64 0), 1, 8) by kernel_rfl)
  have h := run_make (P := Try.prog) w 22 3 i0 (.int .i64 0) (by kernel_rfl) hi hz0 .i64 .i64 n n (by omega) (Int.le_refl _) (by rw [hz2]; omega) (by omega)
  simp only [Int.toNat_natCast, hz1, Nat.mul_one] at h
  rw [h]
  have : madeCells (Value.int .i64 0).cells n = rowI (List.replicate n 0) := by
    apply Array.toList_inj.1
    rw [show (Value.int .i64 0).cells = #[.int .i64 0] from rfl, toList_madeCells_one]
    simp [rowI]
  rw [this]
/-- What the numbers stay within. -/
def gok (zs : List Int) (s : Int) (pre : List (Fin zs.length)) : Prop :=
  (gfs zs s pre).1.length = zs.length ∧ 0 ≤ (gfs zs s pre).2.1 ∧ 0 ≤ (gfs zs s pre).2.2 ∧ (gfs zs s pre).2.1 + (gfs zs s pre).2.2 ≤ 1073741824
theorem gok_snoc {zs : List Int} {s : Int} {pre : List (Fin zs.length)} (i : Fin zs.length) (h : gok zs s pre) (hc : 1 ≤ zs[i]) : gok zs s (pre ++ [i]) := by
  obtain ⟨h1, h2, h3, h4⟩ := h
  unfold gok
  rw [gfs_snoc]
  simp only [gf]
  have hd : 0 ≤ (gfs zs s pre).2.2 / zs[i] := Int.ediv_nonneg h3 (by omega)
  have hm : (gfs zs s pre).2.2 / zs[i] * zs[i] ≤ (gfs zs s pre).2.2 := Int.ediv_mul_le _ (by omega)
  have hk : (gfs zs s pre).2.2 / zs[i] * 1 ≤ (gfs zs s pre).2.2 / zs[i] * zs[i] := Int.mul_le_mul_of_nonneg_left hc hd
  refine ⟨by simpa using h1, by omega, by omega, by omega⟩
set_option maxHeartbeats 4000000 in
theorem great_in (F : Fence) (n : Nat) (h63 : F.fn 63) (h72 : F.fn 72) (h78 : F.fn 78) (hro : F.round = none) (hn : 3 ≤ n) (b off cap : Nat) (zs : List Int) (s : Int) (hreach : zs.length ≤ 1048576) (h0 : 0 < zs.length) (w : World) (hb : b < w.heap.size)
    (hcs : ∀ j (h : j < zs.length), w.cell? ⟨b, off + j, none⟩ = some (.int .i64 zs[j])) (hc1 : ∀ c ∈ zs, 1 ≤ c ∧ c ≤ 1073741824) (hs0 : 0 ≤ s) (hs1 : s ≤ 1073741824) :
    CallsIn F n Try.prog 63 #[.slice (some ⟨b, off, none⟩) zs.length cap, .int .i64 s] w fun e W' => e = .returned (.tuple #[.slice (some ⟨w.heap.size + 1, 0, none⟩) zs.length zs.length, .int .i64 (gfs zs s (bw zs.length 0)).2.1]) ∧
      Blk W' (w.heap.size + 1) (rowI (gfs zs s (bw zs.length 0)).1) 3 ∧ Below w.heap.size w W' := by
  have h1 : 1 ≤ n := by omega
  have hmk := fun w => run_mk w zs.length hreach
  refine callsIn_of_wp_marks Try.func63 rfl h63 ?_ hro
  simp only [Try.ntmps63, List.size_toArray, List.length_cons, List.length_nil, Nat.reduceAdd, Nat.reduceSub, Array.replicate_succ, Array.replicate_zero, List.push_toArray, List.append_toArray, List.nil_append, List.cons_append]
  gi_wp2_with (gi_at_call 72; refine (back_in F (n - 1) h72 hro _ _ _ _).mono ?_; rintro e w' ⟨rfl, rfl⟩)
  clear hmk
  generalize hW0 : World.alloc (World.alloc (World.alloc (World.alloc (World.alloc w _) _) _) _) _ = W0
  have b0 : Blk W0 w.heap.size #[.int .i64 s] 3 := by rw [← hW0]; exact ((((Blk.new w _ _).alloc _).alloc _).alloc _).alloc _
  have b1 : Blk W0 (w.heap.size + 1) (rowI (List.replicate zs.length 0)) 3 := by
    rw [← hW0]
    have := Blk.new (w.alloc (.cells #[.int .i64 s] 3)) (rowI (List.replicate zs.length 0)) 3
    rw [World.size_alloc] at this
    exact ((this.alloc _).alloc _).alloc _
  have b2 : Blk W0 (w.heap.size + 2) #[.slice (some ⟨w.heap.size + 1, 0, none⟩) zs.length zs.length] 22 := by
    rw [← hW0]
    have := Blk.new ((w.alloc (.cells #[.int .i64 s] 3)).alloc (.cells (rowI (List.replicate zs.length 0)) 3)) #[.slice (some ⟨w.heap.size + 1, 0, none⟩) zs.length zs.length] 22
    simp only [World.size_alloc, Nat.add_assoc, Nat.reduceAdd] at this
    exact (this.alloc _).alloc _
  have b3 : Blk W0 (w.heap.size + 3) #[.int .i64 0] 3 := by
    rw [← hW0]
    have := Blk.new (((w.alloc (.cells #[.int .i64 s] 3)).alloc (.cells (rowI (List.replicate zs.length 0)) 3)).alloc (.cells #[.slice (some ⟨w.heap.size + 1, 0, none⟩) zs.length zs.length] 22)) #[.int .i64 0] 3
    simp only [World.size_alloc, Nat.add_assoc, Nat.reduceAdd] at this
    exact this.alloc _
  have b4 : Blk W0 (w.heap.size + 4) #[.slice (some ⟨b, off, none⟩) zs.length cap] 22 := by
    rw [← hW0]
    have := Blk.new ((((w.alloc (.cells #[.int .i64 s] 3)).alloc (.cells (rowI (List.replicate zs.length 0)) 3)).alloc (.cells #[.slice (some ⟨w.heap.size + 1, 0, none⟩) zs.length zs.length] 22)).alloc (.cells #[.int .i64 0] 3)) #[.slice (some ⟨b, off, none⟩) zs.length cap] 22
    simp only [World.size_alloc, Nat.add_assoc, Nat.reduceAdd] at this
    exact this
  have hsz : W0.heap.size = w.heap.size + 5 := by rw [← hW0]; simp
  have hB0 : Below w.heap.size w W0 := by
    rw [← hW0]
    exact ((((((Below.refl _ w).alloc (Nat.le_refl _) _).alloc (by simp) _).alloc (by simp; omega) _).alloc (by simp; omega) _).alloc (by simp; omega) _)
  simp only [Nat.add_assoc, Nat.reduceAdd]
  have hcs0 : ∀ j (h : j < zs.length), W0.cell? ⟨b, off + j, none⟩ = some (.int .i64 zs[j]) := fun j hj => (hB0.cell (p := ⟨b, off + j, none⟩) hb).trans (hcs j hj)
  have hmem : ∀ i : Fin zs.length, 1 ≤ zs[i.val] ∧ zs[i.val] ≤ 1073741824 := fun i => hc1 _ (List.getElem_mem _)
  refine wpIn_rangeFunc_ownG hro h1 (gf := 78) (lb := #[.pointer (some ⟨w.heap.size + 4, 0, none⟩)]) rfl h78 (enters_of Try.func78 (by kernel_rfl) rfl)
    (back_stops F (n - 1) h78 hro (by omega) (w.heap.size + 4) w.heap.size b off cap zs (by omega) W0 (by omega) (by omega) (b4.cell 0 rfl) hb hcs0) KpB.trans (KpB.b (by omega) (by omega)) (Below.refl _ _) (fun _ => rfl)
    (fun pre W => (Blk W w.heap.size #[.int .i64 (gfs zs s pre).2.2] 3 ∧ Blk W (w.heap.size + 1) (rowI (gfs zs s pre).1) 3 ∧ Blk W (w.heap.size + 2) #[.slice (some ⟨w.heap.size + 1, 0, none⟩) zs.length zs.length] 22 ∧
      Blk W (w.heap.size + 3) #[.int .i64 (gfs zs s pre).2.1] 3 ∧ gok zs s pre) ∧ Below w.heap.size w W)
    (fun _ _ _ => False)
    (OwnFrom.and (Own.from (Own.and (blk_own _ _ _) (Own.and (blk_own _ _ _) (Own.and (blk_own _ _ _) (Own.and (blk_own _ _ _) (own_pure _))))) _) (ownFrom_below (Nat.le_refl _) (by omega)))
    (fun _ _ _ _ _ hs _ _ => hs)
    ⟨⟨b0, b1, b2, b3, by simp [gok, gfs]; omega⟩, hB0⟩
    (fun x => { tmps := #[Value.slice (some ⟨b, off, none⟩) zs.length cap, .int .i64 s, undef, .pointer (some ⟨w.heap.size, 0, none⟩), .slice none 0 0, .int .i64 0, .pointer (some ⟨w.heap.size + 2, 0, none⟩), .pointer (some ⟨w.heap.size + 3, 0, none⟩), .int .i64 (x.val : Int), .int .i64 zs[x.val], .slice (some ⟨b, off, none⟩) zs.length cap, .int .i64 zs.length, .slice (some ⟨w.heap.size + 1, 0, none⟩) zs.length zs.length, .slice (some ⟨b, off, none⟩) zs.length cap, .func (.func 78) #[] #[.pointer (some ⟨w.heap.size + 4, 0, none⟩)], .int .i64 (x.val : Int), .int .i64 zs[x.val], undef, undef, undef, undef, undef, undef, undef, undef, undef, undef, undef, undef, undef, undef, undef, undef, undef, undef, undef, undef, undef, undef], defers := [] }) ?assign ?body ?done ?stop
  case assign =>
    intro l x W K hK
    gi_wp2
    exact hK
  case body =>
    rintro l pre x W ⟨⟨c0, c1, c2, c3, hok⟩, hB⟩ hlen
    have hsx : ∀ y : Int, (rowI (gfs zs s pre).1)[x.val]? = some (.int .i64 ((gfs zs s pre).1[x.val]?.getD 0)) := fun _ => by
      have := hok.1
      have hx := x.isLt
      simp [rowI, List.getElem?_map]
      rw [List.getElem?_eq_getElem (by omega)]
      simp
    have e0 := c0.cell 0 rfl
    have f0 := c0.frozen 0
    have e1 := c1.cell x.val (hsx 0)
    have f1 := c1.frozen x.val
    have e2 := c2.cell 0 rfl
    have e3 := c3.cell 0 rfl
    have f3 := c3.frozen 0
    obtain ⟨hx1, hx2⟩ := hmem x
    have hxl := x.isLt
    obtain ⟨k1, k2, k3, k4⟩ := hok
    have hgf := gfs_snoc zs s pre x
    have hok' := gok_snoc x ⟨k1, k2, k3, k4⟩ hx1
    simp only [gf, Fin.getElem_fin] at hgf
    generalize hgc : zs[x.val] = c at hx1 hx2 hgf ⊢
    generalize hs0' : (gfs zs s pre).2.2 = s0 at *
    generalize hn0' : (gfs zs s pre).2.1 = n0 at *
    have hd : 0 ≤ s0 / c := Int.ediv_nonneg k3 (by omega)
    have hm : s0 / c * c ≤ s0 := Int.ediv_mul_le _ (by omega)
    have hm0 : 0 ≤ s0 / c * c := Int.mul_nonneg hd (by omega)
    have hk : s0 / c * 1 ≤ s0 / c * c := Int.mul_le_mul_of_nonneg_left hx1 hd
    have hdd : s0 / c ≤ 1073741824 := by omega
    have hw1 : IntKind.i64.wrap (s0 / c * c) = s0 / c * c := by rw [IntKind.wrap_i64]; omega
    have hw2 : IntKind.i64.wrap (s0 - s0 / c * c) = s0 - s0 / c * c := by rw [IntKind.wrap_i64]; omega
    have hw3 : IntKind.i64.wrap (n0 + s0 / c) = n0 + s0 / c := by rw [IntKind.wrap_i64]; omega
    gi_wp2
    refine wpIn_mono (Q := fun e a w2 => e = Exit.normal ∧ a = { tmps := #[Value.slice (some ⟨b, off, none⟩) zs.length cap, .int .i64 s, undef, .pointer (some ⟨w.heap.size, 0, none⟩), .slice none 0 0, .int .i64 0, .pointer (some ⟨w.heap.size + 2, 0, none⟩), .pointer (some ⟨w.heap.size + 3, 0, none⟩), .int .i64 (x.val : Int), .int .i64 c, .slice (some ⟨b, off, none⟩) zs.length cap, .int .i64 zs.length, .slice (some ⟨w.heap.size + 1, 0, none⟩) zs.length zs.length, .slice (some ⟨b, off, none⟩) zs.length cap, .func (.func 78) #[] #[.pointer (some ⟨w.heap.size + 4, 0, none⟩)], .int .i64 (x.val : Int), .int .i64 c, .slice (some ⟨w.heap.size + 1, 0, none⟩) zs.length zs.length, .int .i64 (x.val : Int), .int .i64 s0, .int .i64 c, .int .i64 (s0 / c), .pointer (some ⟨w.heap.size + 1, x.val, none⟩), undef, undef, undef, undef, undef, undef, undef, undef, undef, undef, undef, undef, undef, undef, undef, undef], defers := [] } ∧ w2 = ((W.setCell ⟨w.heap.size + 1, x.val, none⟩ (.int .i64 (s0 / c))).drew)) ?_ ?_
    · gi_region
      all_goals (refine ⟨rfl, ?_, ?_⟩ <;> first | with_reducible rfl | simp only [hw1, hw2, hw3])
    rintro _ _ _ ⟨rfl, rfl, rfl⟩
    dsimp only [Exit.then]
    go_at_K
    generalize hW1 : ((W.setCell ⟨w.heap.size + 1, x.val, none⟩ (.int .i64 (s0 / c))).drew) = W1
    have d0 : Blk W1 w.heap.size #[.int .i64 s0] 3 := by rw [← hW1]; exact c0.other _ _ (by omega)
    have d1 : Blk W1 (w.heap.size + 1) ((rowI (gfs zs s pre).1).setIfInBounds x.val (.int .i64 (s0 / c))) 3 := by rw [← hW1]; exact c1.set _ _
    have d2 : Blk W1 (w.heap.size + 2) #[.slice (some ⟨w.heap.size + 1, 0, none⟩) zs.length zs.length] 22 := by rw [← hW1]; exact c2.other _ _ (by omega)
    have d3 : Blk W1 (w.heap.size + 3) #[.int .i64 n0] 3 := by rw [← hW1]; exact c3.other _ _ (by omega)
    have hrl : x.val < (rowI (gfs zs s pre).1).size := by simp [rowI]; omega
    have hKF1 : KeepsFrom W0.heap.size W W1 := by rw [← hW1]; exact ((KeepsOthers.setCell _ _ _).trans (KeepsOthers.drew _)).from _
    have hq1 : W1.heap[w.heap.size + 4]? = W.heap[w.heap.size + 4]? := by rw [← hW1]; exact heap_setCell_other W ⟨w.heap.size + 1, x.val, none⟩ (w.heap.size + 4) _ (by simp only []; omega)
    have hBW1 : Below w.heap.size W W1 := by rw [← hW1]; exact ((Below.refl _ W).setCell (p := ⟨w.heap.size + 1, x.val, none⟩) (Nat.le_succ _) _).drew
    clear e0 f0 e1 f1 e2 e3 f3 hsx
    have e0 := d0.cell 0 rfl
    have f0 := d0.frozen 0
    have e1 : W1.cell? ⟨w.heap.size + 1, x.val, none⟩ = some (.int .i64 (s0 / c)) := d1.cell x.val (by rw [Array.getElem?_setIfInBounds_self_of_lt hrl])
    have e2 := d2.cell 0 rfl
    have e3 := d3.cell 0 rfl
    have f3 := d3.frozen 0
    clear hW1
    gi_wp2
    refine wpIn_mono (Q := fun e a w2 => e = Exit.normal ∧ a = { tmps := #[Value.slice (some ⟨b, off, none⟩) zs.length cap, .int .i64 s, undef, .pointer (some ⟨w.heap.size, 0, none⟩), .slice none 0 0, .int .i64 0, .pointer (some ⟨w.heap.size + 2, 0, none⟩), .pointer (some ⟨w.heap.size + 3, 0, none⟩), .int .i64 (x.val : Int), .int .i64 c, .slice (some ⟨b, off, none⟩) zs.length cap, .int .i64 zs.length, .slice (some ⟨w.heap.size + 1, 0, none⟩) zs.length zs.length, .slice (some ⟨b, off, none⟩) zs.length cap, .func (.func 78) #[] #[.pointer (some ⟨w.heap.size + 4, 0, none⟩)], .int .i64 (x.val : Int), .int .i64 c, .slice (some ⟨w.heap.size + 1, 0, none⟩) zs.length zs.length, .int .i64 (x.val : Int), .int .i64 s0, .int .i64 c, .int .i64 (s0 / c), .pointer (some ⟨w.heap.size + 1, x.val, none⟩), .int .i64 s0, .slice (some ⟨w.heap.size + 1, 0, none⟩) zs.length zs.length, .int .i64 (x.val : Int), .pointer (some ⟨w.heap.size + 1, x.val, none⟩), .int .i64 (s0 / c), .int .i64 c, .int .i64 (s0 / c * c), .int .i64 (s0 - s0 / c * c), undef, undef, undef, undef, undef, undef, undef, undef], defers := [] } ∧ w2 = ((W1.setCell ⟨w.heap.size, 0, none⟩ (.int .i64 (s0 - s0 / c * c))).drew)) ?_ ?_
    · gi_region
      all_goals (refine ⟨rfl, ?_, ?_⟩ <;> first | with_reducible rfl | simp only [hw1, hw2, hw3])
    rintro _ _ _ ⟨rfl, rfl, rfl⟩
    dsimp only [Exit.then]
    go_at_K
    generalize hW2 : ((W1.setCell ⟨w.heap.size, 0, none⟩ (.int .i64 (s0 - s0 / c * c))).drew) = W2
    have g0 : Blk W2 w.heap.size #[.int .i64 (s0 - s0 / c * c)] 3 := by rw [← hW2]; exact d0.set _ _
    have g1 : Blk W2 (w.heap.size + 1) ((rowI (gfs zs s pre).1).setIfInBounds x.val (.int .i64 (s0 / c))) 3 := by rw [← hW2]; exact d1.other _ _ (by omega)
    have g2 : Blk W2 (w.heap.size + 2) #[.slice (some ⟨w.heap.size + 1, 0, none⟩) zs.length zs.length] 22 := by rw [← hW2]; exact d2.other _ _ (by omega)
    have g3 : Blk W2 (w.heap.size + 3) #[.int .i64 n0] 3 := by rw [← hW2]; exact d3.other _ _ (by omega)
    have hKF2 : KeepsFrom W0.heap.size W W2 := by rw [← hW2]; exact hKF1.trans (((KeepsOthers.setCell _ _ _).trans (KeepsOthers.drew _)).from _)
    have hq2 : W2.heap[w.heap.size + 4]? = W.heap[w.heap.size + 4]? := by rw [← hq1, ← hW2]; exact heap_setCell_other W1 ⟨w.heap.size, 0, none⟩ (w.heap.size + 4) _ (by simp only []; omega)
    have hBW2 : Below w.heap.size W W2 := by rw [← hW2]; exact (hBW1.setCell (p := ⟨w.heap.size, 0, none⟩) (Nat.le_refl _) _).drew
    clear e0 f0 e1 e2 e3 f3
    have e0 := g0.cell 0 rfl
    have e1 : W2.cell? ⟨w.heap.size + 1, x.val, none⟩ = some (.int .i64 (s0 / c)) := g1.cell x.val (by rw [Array.getElem?_setIfInBounds_self_of_lt hrl])
    have e2 := g2.cell 0 rfl
    have e3 := g3.cell 0 rfl
    have f3 := g3.frozen 0
    clear hW2
    gi_wp2
    refine wpIn_mono (Q := fun e a w2 => e = Exit.normal ∧ a = { tmps := #[Value.slice (some ⟨b, off, none⟩) zs.length cap, .int .i64 s, undef, .pointer (some ⟨w.heap.size, 0, none⟩), .slice none 0 0, .int .i64 0, .pointer (some ⟨w.heap.size + 2, 0, none⟩), .pointer (some ⟨w.heap.size + 3, 0, none⟩), .int .i64 (x.val : Int), .int .i64 c, .slice (some ⟨b, off, none⟩) zs.length cap, .int .i64 zs.length, .slice (some ⟨w.heap.size + 1, 0, none⟩) zs.length zs.length, .slice (some ⟨b, off, none⟩) zs.length cap, .func (.func 78) #[] #[.pointer (some ⟨w.heap.size + 4, 0, none⟩)], .int .i64 (x.val : Int), .int .i64 c, .slice (some ⟨w.heap.size + 1, 0, none⟩) zs.length zs.length, .int .i64 (x.val : Int), .int .i64 s0, .int .i64 c, .int .i64 (s0 / c), .pointer (some ⟨w.heap.size + 1, x.val, none⟩), .int .i64 s0, .slice (some ⟨w.heap.size + 1, 0, none⟩) zs.length zs.length, .int .i64 (x.val : Int), .pointer (some ⟨w.heap.size + 1, x.val, none⟩), .int .i64 (s0 / c), .int .i64 c, .int .i64 (s0 / c * c), .int .i64 (s0 - s0 / c * c), .int .i64 n0, .slice (some ⟨w.heap.size + 1, 0, none⟩) zs.length zs.length, .int .i64 (x.val : Int), .pointer (some ⟨w.heap.size + 1, x.val, none⟩), .int .i64 (s0 / c), .int .i64 (n0 + s0 / c), undef, undef], defers := [] } ∧ w2 = ((W2.setCell ⟨w.heap.size + 3, 0, none⟩ (.int .i64 (n0 + s0 / c))).drew)) ?_ ?_
    · gi_region
      all_goals (refine ⟨rfl, ?_, ?_⟩ <;> first | with_reducible rfl | simp only [hw1, hw2, hw3])
    rintro _ _ _ ⟨rfl, rfl, rfl⟩
    generalize hW3 : ((W2.setCell ⟨w.heap.size + 3, 0, none⟩ (.int .i64 (n0 + s0 / c))).drew) = W3
    have p0 : Blk W3 w.heap.size #[.int .i64 (s0 - s0 / c * c)] 3 := by rw [← hW3]; exact g0.other _ _ (by omega)
    have p1 : Blk W3 (w.heap.size + 1) ((rowI (gfs zs s pre).1).setIfInBounds x.val (.int .i64 (s0 / c))) 3 := by rw [← hW3]; exact g1.other _ _ (by omega)
    have p2 : Blk W3 (w.heap.size + 2) #[.slice (some ⟨w.heap.size + 1, 0, none⟩) zs.length zs.length] 22 := by rw [← hW3]; exact g2.other _ _ (by omega)
    have p3 : Blk W3 (w.heap.size + 3) #[.int .i64 (n0 + s0 / c)] 3 := by rw [← hW3]; exact g3.set _ _
    have hKF3 : KeepsFrom W0.heap.size W W3 := by rw [← hW3]; exact hKF2.trans (((KeepsOthers.setCell _ _ _).trans (KeepsOthers.drew _)).from _)
    have hBW3 : Below w.heap.size W W3 := by rw [← hW3]; exact (hBW2.setCell (p := ⟨w.heap.size + 3, 0, none⟩) (Nat.le_add_right _ _) _).drew
    have hS3 : W3.heap[w.heap.size + 4]? = W.heap[w.heap.size + 4]? := by rw [← hq2, ← hW3]; exact heap_setCell_other W2 ⟨w.heap.size + 3, 0, none⟩ (w.heap.size + 4) _ (by simp only []; omega)
    rw [rowI_set] at p1
    refine ⟨hKF3, ⟨hBW3, hS3⟩, ⟨?_, ?_, p2, ?_, hok'⟩, hB.trans hBW3⟩
    · rw [hgf]; exact p0
    · rw [hgf]; exact p1
    · rw [hgf]; exact p3
  case done =>
    rintro D ys W hD rfl ⟨⟨c0, c1, c2, c3, hok⟩, hB⟩ hK
    have e2 := c2.cell 0 rfl
    have e3 := c3.cell 0 rfl
    gi_wp2
    refine wpIn_mono (Q := fun e a w2 => e = Exit.normal ∧ a = { tmps := #[Value.slice (some ⟨b, off, none⟩) zs.length cap, .int .i64 s, undef, .pointer (some ⟨w.heap.size, 0, none⟩), .slice (some ⟨w.heap.size + 1, 0, none⟩) zs.length zs.length, .int .i64 (gfs zs s (bw zs.length 0)).2.1, .pointer (some ⟨w.heap.size + 2, 0, none⟩), .pointer (some ⟨w.heap.size + 3, 0, none⟩), undef, undef, .slice (some ⟨b, off, none⟩) zs.length cap, .int .i64 zs.length, .slice (some ⟨w.heap.size + 1, 0, none⟩) zs.length zs.length, .slice (some ⟨b, off, none⟩) zs.length cap, .func (.func 78) #[] #[.pointer (some ⟨w.heap.size + 4, 0, none⟩)], undef, undef, undef, undef, undef, undef, undef, undef, undef, undef, undef, undef, undef, undef, undef, undef, undef, undef, undef, undef, undef, undef, .slice (some ⟨w.heap.size + 1, 0, none⟩) zs.length zs.length, .int .i64 (gfs zs s (bw zs.length 0)).2.1], defers := [{ target := Target.collected D, args := #[] }] } ∧ w2 = W.drew) ?_ ?_
    · gi_region
      all_goals (refine ⟨rfl, ?_, ?_⟩ <;> with_reducible rfl)
    rintro _ _ _ ⟨rfl, rfl, rfl⟩
    dsimp only [Exit.then]
    go_at_K
    gi_wp2
    refine ⟨by simp, .inl ⟨_, _, rfl, run_takeDeferred hK, ?_⟩⟩
    have hB2 := hB.trans (belowK_b (w := w) (Nat.le_refl _) W D _ (.deferred none) (by omega) hK rfl rfl)
    refine ⟨_, results_tmp2 rfl _ _ _, rfl, ?_, hB2.drew⟩
    have c1' : Blk W.drew (w.heap.size + 1) (rowI (gfs zs s (bw zs.length 0)).1) 3 := c1
    exact c1'.kept (grownBy_putObj' _ D (.deferred none)) (fun e => by cases e; omega)
  case stop =>
    rintro D c pre W hD _ h _
    exact h.elim
/-- Coin by coin, the last one first, is what 'gr' says. -/
theorem gfs_gr (zs : List Int) (s : Int) : ∀ (k : Nat) (hk : k ≤ zs.length), gfs zs s (bw zs.length (zs.length - k)) =
    (List.replicate (zs.length - k) 0 ++ (gr (zs.drop (zs.length - k)) s).1, (gr (zs.drop (zs.length - k)) s).2.1, (gr (zs.drop (zs.length - k)) s).2.2) := by
  intro k
  induction k with
  | zero => intro _; simp [bw_top, gfs, gr]
  | succ k ih =>
    intro hk
    have hlt : zs.length - (k + 1) < zs.length := by omega
    rw [bw_snoc _ _ hlt, show zs.length - (k + 1) + 1 = zs.length - k by omega, gfs_snoc, ih (by omega)]
    rw [List.drop_eq_getElem_cons hlt, show zs.length - (k + 1) + 1 = zs.length - k by omega]
    simp only [gf, gr, List.foldr_cons, grStep, Fin.getElem_fin]
    refine Prod.ext ?_ rfl
    simp only
    generalize zs[zs.length - (k + 1)] = c
    generalize List.foldr grStep ([], 0, s) (List.drop (zs.length - k) zs) = p
    obtain ⟨m, hm⟩ : ∃ m, m = zs.length - (k + 1) := ⟨_, rfl⟩
    rw [← hm, show zs.length - k = m + 1 by omega, List.replicate_succ', List.append_assoc, List.set_append_right _ _ (by simp)]
    simp
theorem gfs_all (zs : List Int) (s : Int) : gfs zs s (bw zs.length 0) = gr zs s := by
  have h := gfs_gr zs s zs.length (Nat.le_refl _)
  rw [Nat.sub_self] at h
  rw [h]
  simp
theorem gr_len (zs : List Int) (s : Int) : (gr zs s).1.length = zs.length := by
  induction zs with
  | nil => rfl
  | cons c zs ih => simp only [gr, List.foldr_cons, grStep, List.length_cons] at ih ⊢; rw [ih]
end
open Go.Vi
theorem HC63 (_ : Nat × Nat) (xs : pksDen [.c (.sl (.int .i64)), .c (.int .i64)]) (r : rksDen [.own (.int .i64) 0, .c (.int .i64) 0]) (h : HF63 xs.1 xs.2.1 = some r) (vs : List V) (hv : pksArg [.c (.sl (.int .i64)), .c (.int .i64)] vs = some xs) :
    FC Try.prog 63 vs (rets [.own (.int .i64) 0, .c (.int .i64) 0] r) := by
  obtain ⟨zs, s, ⟨⟩⟩ := xs
  unfold HF63 at h
  obtain ⟨hd, h⟩ := cond_some h rfl
  simp only [Bool.and_eq_true, decide_eq_true_eq, List.all_eq_true] at hd h
  obtain ⟨⟨hc, hs0, hs1⟩, hl0, hl1⟩ := hd
  cases h
  intro w A0 args hA hargs
  have hv2 := pksArg_VR _ _ _ _ hv hargs
  match args, hv2 with
  | [v0, v1], ⟨g0, g1, _⟩ =>
    obtain ⟨b, off, cap, rfl, hb, hcs⟩ := CR_ints (zs := zs) (t := false) g0 hl0 hA
    have g1 : v1 = .int .i64 s := g1
    subst g1
    refine ((callsIn_wide (n := 3)).1 (great_in Fence.wide 3 trivial trivial trivial rfl (by omega) b off cap zs s hl1 hl0 w hb hcs hc hs0 hs1)).mono ?_
    rintro e W' ⟨rfl, hblk, hB⟩
    rw [gfs_all] at hblk ⊢
    have hlt := hblk.lt
    have hgl := gr_len zs s
    refine ⟨Grows.of_below hB, [.at (w.heap.size + 1) zs.length, .emp], [_, _], rfl, ?_, ?_, ?_⟩
    · have := out_ints (w := w) (A1 := newA w W' A0 [.at (w.heap.size + 1) zs.length, .emp]) (l := (gr zs s).1) hblk (Nat.le_succ _) (Nat.le_of_eq hgl) (by rw [rowI_size, hgl]; exact Nat.le_refl _) (fun i x => rowI_get)
      rw [hgl] at this
      exact this
    · intro b' c' h j hj
      simp at hj
      subst hj
      intro c'' e
      cases e
    · exact ⟨rfl, fun b c h => (by cases h), trivial⟩
end Go.Proofs.Ytjgmfdgpgdaclaa
set_option linter.unusedVariables false
set_option linter.unusedSimpArgs false
set_option maxRecDepth 100000
namespace Go.Proofs.Ytjgmfdgpgdaclaa
open Go.Vi
abbrev R63 := List Int × Int
def pk63 : List PK := [.c (.sl (.int .i64)), .c (.int .i64)]
def rk63 : List RK := [.own (.int .i64) 0, .c (.int .i64) 0]
noncomputable def S63 (n : Nat × Nat) (coins0 : List Int) (sum1 : Int) : Option R63 := HF63 coins0 sum1
noncomputable def P63 (n : Nat × Nat) := phiOf pk63 rk63 (fun xs => S63 n xs.1 xs.2.1)
theorem call63 : CallOK Try.prog 63 := callOK_of Try.func63 (by kernel_rfl) (by kernel_rfl)
theorem FC63 (n : Nat × Nat) : FCs Try.prog 63 (P63 n) := phiOf_FCs fun xs r h vs hv => HC63 n xs r h vs hv
abbrev R22 := List Int × Int
noncomputable def c22 : Code := bodyOf Try.f22
noncomputable def an22 : Ann := (.s .l (.s (.s .l (.s .l (.j [0, 1] .l .l))) .l))
def pk22 : List PK := [.c (.sl (.int .i64)), .c (.int .i64)]
def rk22 : List RK := [.own (.int .i64) 4, .c (.int .i64) 5]
noncomputable def rt22 (st : St) : Option R22 := rtG rk22 st
noncomputable def E22 (n : Nat × Nat) : Env := { T := tab, phi := (consPhi 56 (fun _ => true) (P56 n) (consPhi 63 (fun _ => true) (P63 n) noPhi)), eff := fun _ => false, fuel := n.1, hold := n.2 }
noncomputable def S22 (n : Nat × Nat) (coins0 : List Int) (sum1 : Int) : Option R22 := run (E22 n) c22 an22 rt22 (fun _ _ => none) rt22 { tm := [.c (.sl (.int .i64) coins0 false), .c (.int .i64 sum1), uu, uu, uu, uu, uu, uu, uu, uu, uu, uu, uu, uu, uu, uu, uu, uu, uu, uu, uu, uu], hp := emp }
theorem S22_eq (n : Nat × Nat) (coins0 : List Int) (sum1 : Int) : S22 n coins0 sum1 =
 (S56 n coins0 sum1).bind fun r1' =>
 (bif (r1' != 0) then some ([], r1')
 else (S63 n coins0 sum1).bind fun r2' =>
 some (r2'.1, 0)) := by kernel_rfl
theorem S22_run (n : Nat × Nat) (xs : pksDen pk22) : S22 n xs.1 xs.2.1 = runG (E22 n) noScope c22 an22 (rtG rk22) (fun _ _ => none) (rtG rk22) (st0 pk22 xs Try.f22.ntmps) := by kernel_rfl
noncomputable def P22 (n : Nat × Nat) := phiOf pk22 rk22 (fun xs => S22 n xs.1 xs.2.1)
theorem call22 : CallOK Try.prog 22 := callOK_of Try.func22 (by kernel_rfl) (by kernel_rfl)
theorem env22 (n : Nat × Nat) : EnvOK Try.prog (E22 n) := envOK0 (consPhi_ok (FC56 n) call56 (consPhi_ok (FC63 n) call63 noPhi_ok)) rfl rfl
theorem par22 (n : Nat × Nat) : EnvPar (E22 n) := envPar0 (consPhi_par phiOf_Par1 (consPhi_par phiOf_Par1 noPhi_par)) rfl
theorem FC22 (n : Nat × Nat) : FCs Try.prog 22 (P22 n) := phiOf_FCs fun xs r h vs hv => FC.of_runG tabOK eqsOK (env22 n) (par22 n) mixed (fun _ => noScope_ok) Try.func22 (c := c22) (an := an22) (pks := pk22) (rks := rk22) (by kernel_rfl) (by kernel_rfl) hv ((S22_run n xs).symm.trans h)
abbrev R66 := Int
noncomputable def c66 : Code := bodyOf Try.f66
noncomputable def an66 : Ann := (.s .l (.s .l (.s (.s .l (.j [] (.j [0, 17, 18, 19] (.s .l (.s (.j [0, 17, 18, 19] .l .l) (.s (.j [0, 17, 18, 19] (.s .l (.s .l (.s .l (.j [0, 17, 18, 19] .l .l)))) .l) .l))) .l) .l)) .l)))
def pk66 : List PK := [.c (.sl (.int .i64))]
def rk66 : List RK := [.c (.int .i64) 2]
noncomputable def rt66 (st : St) : Option R66 := rtG rk66 st
noncomputable def E66 (n : Nat × Nat) : Env := { T := tab, phi := (consPhi 57 (fun _ => true) (P57 n) (consPhi 63 (fun _ => true) (P63 n) noPhi)), eff := fun _ => false, fuel := n.1, hold := n.2 }
noncomputable def kq66_1 (n : Nat × Nat) : St → Option R66 := run (E66 n) (cB (cB (cB c66))) (Ann.snd (Ann.snd (Ann.snd an66))) rt66 (fun _ _ => none) rt66
noncomputable def xb66_3 (n : Nat × Nat) : Nat → St → Option R66 := fun j s => bif Nat.beq j 0 then normC [] s (kq66_1 n) else (fun _ _ => none) j s
noncomputable def F66_4 (n : Nat × Nat) : (St → Option R66) → St → Option R66 := fun K s => run (E66 n) (cA (cA (cB (cA (cB (cB c66)))))) (Ann.fst (Ann.fst (Ann.snd (Ann.fst (Ann.snd (Ann.snd an66)))))) (fun s => normC [0, 17, 18, 19] s K) (xb66_3 n) rt66 s
noncomputable def L66_1 (n : Nat × Nat) (m : Nat) (coins0 : List Int) (v18 : Int) (v19 : Int) (v17 : List Int) : Option R66 := loopN (F66_4 n) m { tm := [.c (.sl (.int .i64) coins0 false), uu, uu, uu, uu, uu, uu, uu, uu, uu, uu, uu, uu, uu, uu, uu, uu, .own 17 none false, .c (.int .i64 v18), .c (.int .i64 v19), uu, uu, uu, uu, uu, uu, uu, uu, uu, uu, uu, uu, uu, uu, uu], hp := (upd emp 17 (.arr (.int .i64) v17 false)) }
theorem L66_1_eq (n : Nat × Nat) (m1 : Nat) (coins0 : List Int) (v18 : Int) (v19 : Int) (v17 : List Int) : L66_1 n (m1 + 1) coins0 v18 v19 v17 =
 (bif decide (v19 < v18) then (bif inB v19 v17.length then (idx v17 v19).bind fun x3' =>
 (S63 n coins0 v19).bind fun r4' =>
 (bif decide (r4'.2 > x3') then some v19
 else L66_1 n m1 coins0 v18 (wr .i64 (v19 + 1)) v17)
 else none)
 else some 0) := by kernel_rfl
noncomputable def S66 (n : Nat × Nat) (coins0 : List Int) : Option R66 := run (E66 n) c66 an66 rt66 (fun _ _ => none) rt66 { tm := [.c (.sl (.int .i64) coins0 false), uu, uu, uu, uu, uu, uu, uu, uu, uu, uu, uu, uu, uu, uu, uu, uu, uu, uu, uu, uu, uu, uu, uu, uu, uu, uu, uu, uu, uu, uu, uu, uu, uu, uu], hp := emp }
theorem S66_eq (n : Nat × Nat) (coins0 : List Int) : S66 n coins0 =
 (idx coins0 (wr .i64 ((coins0.length : Int) - 1))).bind fun x1' =>
 (S57 n coins0 (wr .i64 (2 * x1'))).bind fun r2' =>
    L66_1 n n.1 coins0 (r2'.length : Int) 0 r2' := by kernel_rfl
theorem S66_run (n : Nat × Nat) (xs : pksDen pk66) : S66 n xs.1 = runG (E66 n) noScope c66 an66 (rtG rk66) (fun _ _ => none) (rtG rk66) (st0 pk66 xs Try.f66.ntmps) := by kernel_rfl
noncomputable def P66 (n : Nat × Nat) := phiOf pk66 rk66 (fun xs => S66 n xs.1)
theorem call66 : CallOK Try.prog 66 := callOK_of Try.func66 (by kernel_rfl) (by kernel_rfl)
theorem env66 (n : Nat × Nat) : EnvOK Try.prog (E66 n) := envOK0 (consPhi_ok (FC57 n) call57 (consPhi_ok (FC63 n) call63 noPhi_ok)) rfl rfl
theorem par66 (n : Nat × Nat) : EnvPar (E66 n) := envPar0 (consPhi_par phiOf_Par1 (consPhi_par phiOf_Par1 noPhi_par)) rfl
theorem FC66 (n : Nat × Nat) : FCs Try.prog 66 (P66 n) := phiOf_FCs fun xs r h vs hv => FC.of_runG tabOK eqsOK (env66 n) (par66 n) mixed (fun _ => noScope_ok) Try.func66 (c := c66) (an := an66) (pks := pk66) (rks := rk66) (by kernel_rfl) (by kernel_rfl) hv ((S66_run n xs).symm.trans h)
abbrev R27 := Bool × Int
noncomputable def c27 : Code := bodyOf Try.f27
noncomputable def an27 : Ann := (.s .l (.s (.s .l (.s .l (.j [0] .l .l))) .l))
def pk27 : List PK := [.c (.sl (.int .i64))]
def rk27 : List RK := [.c .bool 2, .c (.int .i64) 3]
noncomputable def rt27 (st : St) : Option R27 := rtG rk27 st
noncomputable def E27 (n : Nat × Nat) : Env := { T := tab, phi := (consPhi 25 (fun _ => true) (P25 n) (consPhi 66 (fun _ => true) (P66 n) noPhi)), eff := fun _ => false, fuel := n.1, hold := n.2 }
noncomputable def S27 (n : Nat × Nat) (coins0 : List Int) : Option R27 := run (E27 n) c27 an27 rt27 (fun _ _ => none) rt27 { tm := [.c (.sl (.int .i64) coins0 false), uu, uu, uu, uu, uu, uu, uu, uu, uu, uu, uu, uu], hp := emp }
theorem S27_eq (n : Nat × Nat) (coins0 : List Int) : S27 n coins0 =
 (S25 n coins0).bind fun r1' =>
 (bif (r1' != 0) then some (false, r1')
 else (S66 n coins0).bind fun r2' =>
 some ((r2' == 0), 0)) := by kernel_rfl
theorem S27_run (n : Nat × Nat) (xs : pksDen pk27) : S27 n xs.1 = runG (E27 n) noScope c27 an27 (rtG rk27) (fun _ _ => none) (rtG rk27) (st0 pk27 xs Try.f27.ntmps) := by kernel_rfl
noncomputable def P27 (n : Nat × Nat) := phiOf pk27 rk27 (fun xs => S27 n xs.1)
theorem call27 : CallOK Try.prog 27 := callOK_of Try.func27 (by kernel_rfl) (by kernel_rfl)
theorem env27 (n : Nat × Nat) : EnvOK Try.prog (E27 n) := envOK0 (consPhi_ok (FC25 n) call25 (consPhi_ok (FC66 n) call66 noPhi_ok)) rfl rfl
theorem par27 (n : Nat × Nat) : EnvPar (E27 n) := envPar0 (consPhi_par phiOf_Par1 (consPhi_par phiOf_Par1 noPhi_par)) rfl
theorem FC27 (n : Nat × Nat) : FCs Try.prog 27 (P27 n) := phiOf_FCs fun xs r h vs hv => FC.of_runG tabOK eqsOK (env27 n) (par27 n) mixed (fun _ => noScope_ok) Try.func27 (c := c27) (an := an27) (pks := pk27) (rks := rk27) (by kernel_rfl) (by kernel_rfl) hv ((S27_run n xs).symm.trans h)
abbrev R53 := List Int
noncomputable def c53 : Code := bodyOf Try.f53
noncomputable def an53 : Ann := .l
def pk53 : List PK := []
def rk53 : List RK := [.own (.int .i64) 0]
noncomputable def rt53 (st : St) : Option R53 := rtG rk53 st
noncomputable def E53 (n : Nat × Nat) : Env := { T := tab, phi := noPhi, eff := fun _ => false, fuel := n.1, hold := n.2 }
noncomputable def S53 (n : Nat × Nat) : Option R53 := run (E53 n) c53 an53 rt53 (fun _ _ => none) rt53 { tm := [uu, uu, uu], hp := emp }
theorem S53_eq (n : Nat × Nat) : S53 n =
 some [1, 5, 10] := by kernel_rfl
theorem S53_run (n : Nat × Nat) (xs : pksDen pk53) : S53 n = runG (E53 n) noScope c53 an53 (rtG rk53) (fun _ _ => none) (rtG rk53) (st0 pk53 xs Try.f53.ntmps) := by kernel_rfl
noncomputable def P53 (n : Nat × Nat) := phiOf pk53 rk53 (fun xs => S53 n)
theorem call53 : CallOK Try.prog 53 := callOK_of Try.func53 (by kernel_rfl) (by kernel_rfl)
theorem env53 (n : Nat × Nat) : EnvOK Try.prog (E53 n) := envOK0 noPhi_ok rfl rfl
theorem par53 (n : Nat × Nat) : EnvPar (E53 n) := envPar0 noPhi_par rfl
theorem FC53 (n : Nat × Nat) : FCs Try.prog 53 (P53 n) := phiOf_FCs fun xs r h vs hv => FC.of_runG tabOK eqsOK (env53 n) (par53 n) mixed (fun _ => noScope_ok) Try.func53 (c := c53) (an := an53) (pks := pk53) (rks := rk53) (by kernel_rfl) (by kernel_rfl) hv ((S53_run n xs).symm.trans h)
abbrev R29 := Int × Int
noncomputable def c29 : Code := bodyOf Try.f29
noncomputable def an29 : Ann := (.s .l (.s (.s .l (.s .l (.j [0] .l .l))) (.s .l (.s (.s .l (.j [5] .l .l)) .l))))
def pk29 : List PK := [.c (.sl (.int .i64))]
def rk29 : List RK := [.c (.int .i64) 2, .c (.int .i64) 3]
noncomputable def rt29 (st : St) : Option R29 := rtG rk29 st
noncomputable def E29 (n : Nat × Nat) : Env := { T := tab, phi := (consPhi 25 (fun _ => true) (P25 n) (consPhi 66 (fun _ => true) (P66 n) noPhi)), eff := fun _ => false, fuel := n.1, hold := n.2 }
noncomputable def S29 (n : Nat × Nat) (coins0 : List Int) : Option R29 := run (E29 n) c29 an29 rt29 (fun _ _ => none) rt29 { tm := [.c (.sl (.int .i64) coins0 false), uu, uu, uu, uu, uu, uu, uu, uu, uu, uu, uu, uu, uu, uu, uu], hp := emp }
theorem S29_eq (n : Nat × Nat) (coins0 : List Int) : S29 n coins0 =
 (S25 n coins0).bind fun r1' =>
 (bif (r1' != 0) then some (0, r1')
 else (S66 n coins0).bind fun r2' =>
 (bif (r2' == 0) then some (0, 13)
 else some (r2', 0))) := by kernel_rfl
theorem S29_run (n : Nat × Nat) (xs : pksDen pk29) : S29 n xs.1 = runG (E29 n) noScope c29 an29 (rtG rk29) (fun _ _ => none) (rtG rk29) (st0 pk29 xs Try.f29.ntmps) := by kernel_rfl
noncomputable def P29 (n : Nat × Nat) := phiOf pk29 rk29 (fun xs => S29 n xs.1)
theorem call29 : CallOK Try.prog 29 := callOK_of Try.func29 (by kernel_rfl) (by kernel_rfl)
theorem env29 (n : Nat × Nat) : EnvOK Try.prog (E29 n) := envOK0 (consPhi_ok (FC25 n) call25 (consPhi_ok (FC66 n) call66 noPhi_ok)) rfl rfl
theorem par29 (n : Nat × Nat) : EnvPar (E29 n) := envPar0 (consPhi_par phiOf_Par1 (consPhi_par phiOf_Par1 noPhi_par)) rfl
theorem FC29 (n : Nat × Nat) : FCs Try.prog 29 (P29 n) := phiOf_FCs fun xs r h vs hv => FC.of_runG tabOK eqsOK (env29 n) (par29 n) mixed (fun _ => noScope_ok) Try.func29 (c := c29) (an := an29) (pks := pk29) (rks := rk29) (by kernel_rfl) (by kernel_rfl) hv ((S29_run n xs).symm.trans h)
end Go.Proofs.Ytjgmfdgpgdaclaa
/-
  Maps of numbers that a call itself makes: what they hold, as plain functions.
-/
set_option linter.unusedVariables false
set_option linter.unusedSimpArgs false
set_option maxRecDepth 100000
namespace Go.Proofs.Ytjgmfdgpgdaclaa
open Go.RowKit Go.Shelf Go.Maps Go.ChangeMaps Go.MapKept
abbrev DU := DataW Unit
abbrev kx (x : Int) : Lit := .int .i64 x
abbrev inR (x : Int) : Prop := (Lit.int .i64 x).wf = true
theorem inR_of {x : Int} (h0 : -4000000000000000000 ≤ x) (h1 : x ≤ 4000000000000000000) : inR x := by
  simp only [inR, Lit.wf, IntKind.min, IntKind.max, IntKind.signed, IntKind.bits, Bool.and_eq_true, decide_eq_true_eq]
  simp
  omega
theorem und3 : Try.prog.underlying 3 = some (.int .i64) := by kernel_rfl
theorem und4 : Try.prog.underlying 4 = some .bool := by kernel_rfl
theorem keyed3 : Maps.Keyed Try.prog 3 := Maps.int_keyed und3
theorem keyOf3 {x : Int} (h : inR x) : keyOf Try.prog 3 (.int .i64 x) = some (kx x) := Maps.keyOf_int_mk und3 h
theorem kx_key (x : Int) : WideAt.IsKeyLit (kx x) := by trivial
theorem kx_ne {x y : Int} (h : x ≠ y) : kx x ≠ kx y := fun e => h (by cases e; rfl)
/-- What the map of truth values holds: just the keys at which f is true, each with true. -/
def IsB (D : DU) (f : Int → Bool) : Prop := IsMap D ∧ ∀ x, inR x → (D.atKey (kx x) (.lit (.bool false)) = .lit (.bool (f x)) ∧ has D (kx x) = f x)
theorem IsB.empty : IsB (.map []) (fun _ => false) := ⟨⟨[], rfl⟩, fun x hx => ⟨rfl, rfl⟩⟩
theorem isMap_put {D : DU} (h : IsMap D) (k : Lit) (d : DU) : IsMap (D.put k d) := by
  obtain ⟨es, rfl⟩ := h
  exact ⟨_, rfl⟩
theorem IsB.put {D : DU} {f : Int → Bool} (h : IsB D f) (x : Int) : IsB (D.put (kx x) (.lit (.bool true))) (fun y => y == x || f y) := by
  refine ⟨isMap_put h.1 _ _, fun y hy => ?_⟩
  by_cases e : y = x
  · subst e
    simp [atKey_put_same h.1 (kx_key y), has_put_same h.1 (kx_key y)]
  · have he : (y == x) = false := by simpa using e
    simp only [atKey_put_other (kx_ne e), has_put_other (kx_ne e), he, Bool.false_or]
    exact h.2 y hy
theorem IsB.congr {D : DU} {f g : Int → Bool} (h : IsB D f) (e : ∀ x, f x = g x) : IsB D g := by
  have : f = g := funext e
  exact this ▸ h
/-- What the map of numbers holds: keys from 0 to m alone. -/
def IsI (D : DU) (m : Int) (f : Int → Int) : Prop := IsMap D ∧ (∀ x, inR x → D.atKey (kx x) (.lit (.int .i64 0)) = .lit (.int .i64 (f x))) ∧ (∀ x, inR x → has D (kx x) = true → 0 ≤ x ∧ x ≤ m) ∧ (∀ x, inR x → has D (kx x) = false → f x = 0)
theorem IsI.empty (m : Int) : IsI (.map []) m (fun _ => 0) := ⟨⟨[], rfl⟩, fun x hx => rfl, fun x hx h => (by cases h), fun _ _ _ => rfl⟩
theorem IsI.put {D : DU} {m : Int} {f : Int → Int} (h : IsI D m f) (x v : Int) (h0 : 0 ≤ x) (h1 : x ≤ m) : IsI (D.put (kx x) (.lit (.int .i64 v))) m (fun y => if y = x then v else f y) := by
  obtain ⟨ha, hb, hc, hd⟩ := h
  refine ⟨isMap_put ha _ _, fun y hy => ?_, fun y hy hh => ?_, fun y hy hh => ?_⟩ <;> by_cases e : y = x
  · subst e
    simp [atKey_put_same ha (kx_key y)]
  · simp only [atKey_put_other (kx_ne e), if_neg e]
    exact hb y hy
  · omega
  · rw [has_put_other (kx_ne e)] at hh
    exact hc y hy hh
  · subst e
    rw [has_put_same ha (kx_key y)] at hh
    cases hh
  · rw [has_put_other (kx_ne e)] at hh
    simp only [if_neg e]
    exact hd y hy hh
theorem IsI.congr {D : DU} {m : Int} {f g : Int → Int} (h : IsI D m f) (e : ∀ x, f x = g x) : IsI D m g := by
  have : f = g := funext e
  exact this ▸ h
section
variable {b n : Nat} {D : DU} {w : World}
/-- 'm[x]' at truth values. -/
theorem look_bool {t : TypeId} {f : Int → Bool} (h : w.ownsMap Try.prog 3 (plainElem Try.prog 4) b n D) (hf : IsB D f) (ht : Try.prog.underlying t = some (.map 3 4)) {x : Int} (hx : inR x) :
    (Instr.lookup t (.map (some b)) (.int .i64 x) false).run Try.prog w = .ok (.bool (f x)) w := by
  obtain ⟨v, ps, hrun, hv⟩ := h.lookup keyed3 ht (z := .bool false) (zd := .lit (.bool false)) (zp := []) (by rfl) (plainElem_bool und4 false) (keyOf3 hx)
  rw [(hf.2 x hx).1] at hv
  rw [hrun]
  unfold plainElem at hv
  rw [und4] at hv
  cases v <;> simp at hv
  rw [hv.1]
/-- 'm[x]' at numbers. -/
theorem look_int {t : TypeId} {m : Int} {f : Int → Int} (h : w.ownsMap Try.prog 3 (plainElem Try.prog 3) b n D) (hf : IsI D m f) (ht : Try.prog.underlying t = some (.map 3 3)) {x : Int} (hx : inR x) :
    (Instr.lookup t (.map (some b)) (.int .i64 x) false).run Try.prog w = .ok (.int .i64 (f x)) w := by
  obtain ⟨c, hrun, hat, _⟩ := h.lookup_int keyed3 ht und3 (by rfl) (keyOf3 hx)
  rw [hf.2.1 x hx] at hat
  cases hat
  exact hrun
/-- 'm[x] = true'. -/
theorem put_bool {t : TypeId} (h : w.ownsMap Try.prog 3 (plainElem Try.prog 4) b n D) (ht : Try.prog.underlying t = some (.map 3 4)) (hn : n < maxLen) {x : Int} (hx : inR x) :
    ∃ w', (Instr.mapUpdate t (.map (some b)) (.int .i64 x) (.bool true)).run Try.prog w = .ok () w' ∧ w'.ownsMap Try.prog 3 (plainElem Try.prog 4) b (n + 1) (D.put (kx x) (.lit (.bool true))) ∧ w.grownBy w' (some b) :=
  h.update keyed3 ht hn (keyOf3 hx) (plainElem_bool und4 true)
/-- 'm[x] = v'. -/
theorem put_int {t : TypeId} (h : w.ownsMap Try.prog 3 (plainElem Try.prog 3) b n D) (ht : Try.prog.underlying t = some (.map 3 3)) (hn : n < maxLen) {x v : Int} (hx : inR x) (hv : inR v) :
    ∃ w', (Instr.mapUpdate t (.map (some b)) (.int .i64 x) (.int .i64 v)).run Try.prog w = .ok () w' ∧ w'.ownsMap Try.prog 3 (plainElem Try.prog 3) b (n + 1) (D.put (kx x) (.lit (.int .i64 v))) ∧ w.grownBy w' (some b) :=
  h.update keyed3 ht hn (keyOf3 hx) (plainElem_int und3 hv)
/-- 'clear(m)'. -/
theorem clear_map {t e : TypeId} {R : Value → Option (DU × List MemPlace)} (h : w.ownsMap Try.prog 3 R b n D) (ht : Try.prog.underlying t = some (.map 3 e)) :
    ∃ w', (∀ ty, (Builtin.clear_ #[t] ty #[.map (some b)]).run Try.prog w = .ok (.tuple #[]) w') ∧ w'.ownsMap Try.prog 3 R b 0 (.map []) ∧ w.grownBy w' (some b) := by
  obtain ⟨es, clock, hb, F, hs, hD⟩ := h
  refine ⟨setBlock w b (.map #[] clock), fun ty => ?_, ⟨#[], clock, heap_setBlock_same hb _, ⟨by simp, stamped_empty clock, by simp⟩, Nat.le_refl _, rfl⟩, ⟨rfl, rfl, rfl, by simp [setBlock], fun i _ hi => heap_setBlock_other hb _ (fun e => hi (by rw [e]))⟩⟩
  simp [Builtin.clear_, run_underlying ht, MapKept.run_getObj_map hb, Result.andThen, go_sem, setObj, Sem.run, hb, setBlock]
end
/-- maps.Clone of a map that a call has made. -/
theorem clone71 (b n : Nat) (R : Value → Option (DU × List MemPlace)) (D : DU) (w : World) (hown : w.ownsMap Try.prog 3 R b n D) :
    Calls Try.prog 71 #[.map (some b)] w fun e w' => e = .returned (.map (some w.heap.size)) ∧ w'.ownsMap Try.prog 3 R w.heap.size n D ∧ w'.ownsMap Try.prog 3 R b n D ∧ Below w.heap.size w w' ∧ w'.heap.size = w.heap.size + 1 := by
  have hlt := hown.lt
  obtain ⟨es, clock, hb, F, hs, hD⟩ := hown
  have h68 : Try.prog.underlying 68 = some (.map 3 4) := by kernel_rfl
  have hq := fun w => run_eql_map_nil_sl (P := Try.prog) w 68 _ _ (some b) h68
  have hB : Below w.heap.size w (w.alloc (.map es clock)) := (Below.refl _ w).alloc (Nat.le_refl _) _
  have key : Calls Try.prog 71 #[.map (some b)] w fun e w' => e = .returned (.map (some w.heap.size)) ∧ w' = w.alloc (.map es clock) := by
    go_enter Try.func71, Try.ntmps71
    go_wp2
    rw [run_callFunc_extern Try.func77 (by kernel_rfl) (by kernel_rfl) (by kernel_rfl) (e := Extern.MapsClone.clone) (by kernel_rfl), run_maps_clone_sl w 68 hb]
    simp only [Result.andThen]
    rw [Oper.upon_value]
    go_wp2
    rw [run_typeAssert_map_sl _ 68 20 _ _ _ h68]
    simp only [Result.andThen]
    rw [Oper.upon_value]
    go_wp2
    go_ret
    exact ⟨rfl, rfl⟩
  refine key.mono fun e w' ⟨he, hw⟩ => ?_
  subst hw
  exact ⟨he, ⟨es, clock, (MapKept.heap_alloc w _).1, F, hs, hD⟩, ⟨es, clock, (Below.heap_alloc _ _ b hlt).trans hb, F, hs, hD⟩, hB, by simp⟩
/-- The run of a range over truth values: which keys are still to come. -/
structure RangeB (w : World) (b r n : Nat) (D : DU) (left : Int → Bool) (cnt : Nat) : Prop where
  rg : ∃ lf : Lit → Bool, w.ranges Try.prog 3 (plainElem Try.prog 4) b r n D lf cnt ∧ ∀ x, inR x → lf (kx x) = left x
theorem range_bool {b n : Nat} {D : DU} {w : World} {t : TypeId} {f : Int → Bool} (h : w.ownsMap Try.prog 3 (plainElem Try.prog 4) b n D) (hf : IsB D f) (ht : Try.prog.underlying t = some (.map 3 4)) :
    ∃ w', (Instr.range t (.map (some b))).run Try.prog w = .ok (.pointer (some ⟨w.heap.size, 0, none⟩)) w' ∧ (∃ cnt, cnt ≤ n ∧ RangeB w' b w.heap.size n D f cnt) ∧ w.grownBy w' none ∧ w'.heap.size = w.heap.size + 1 := by
  obtain ⟨w', h1, h2, h3, h4⟩ := h.range keyed3 ht
  refine ⟨w', h1, ⟨_, ?_, ⟨_, h2, fun x hx => (hf.2 x hx).2⟩⟩, h3, h4⟩
  obtain ⟨es, clock, since, seen, c0, hb, F, hs, hD, hr, hbo, hl, _⟩ := h2
  rw [← hl]
  exact Nat.le_trans (by unfold leftOf; exact Array.size_filter_le) hs
theorem next_bool {b r n cnt : Nat} {D : DU} {w : World} {left : Int → Bool} {f : Int → Bool} (h : RangeB w b r n D left cnt) (hf : IsB D f) (ty : TypeId) :
    (cnt = 0 ∧ (∀ x, inR x → left x = false) ∧ (Instr.next (.pointer (some ⟨r, 0, none⟩)) false ty).run Try.prog w = .ok (.tuple #[.bool false]) w) ∨
    ∃ x w' cnt', inR x ∧ left x = true ∧ (Instr.next (.pointer (some ⟨r, 0, none⟩)) false ty).run Try.prog w = .ok (.tuple #[.bool true, .int .i64 x, .bool (f x)]) w' ∧
      RangeB w' b r n D (fun y => left y && !(y == x)) cnt' ∧ cnt' < cnt ∧ w.grownBy w' (some r) ∧ w'.heap.size = w.heap.size ∧ (Instr.entry (.pointer (some ⟨r, 0, none⟩))).run Try.prog w' = .ok (.tuple #[.int .i64 x, .bool (f x)]) w' := by
  obtain ⟨lf, h, hl⟩ := h.rg
  rcases h.next keyed3 ty with ⟨h1, h2, h3⟩ | ⟨key, v, kl, y, w', cnt', h1, h2, h3, h4, h5, h6, h7, h8, h9, h10⟩
  · exact .inl ⟨h1, fun x hx => (hl x hx).symm.trans (h2 _), h3⟩
  · obtain ⟨x, rfl, rfl, hx⟩ := Maps.keyOf_int_inv und3 h1
    have hat := h4 (.lit (.bool false))
    rw [(hf.2 x hx).1] at hat
    unfold plainElem at h3
    rw [und4] at h3
    cases v <;> simp at h3
    subst h3
    cases hat
    refine .inr ⟨x, w', cnt', hx, (hl x hx).symm.trans h2, h5, ⟨_, h6, fun z hz => ?_⟩, h7, h8, h9, h10⟩
    rw [hl z hz]
    congr 2
    by_cases e : z = x
    · subst e
      rw [WideAt.sameKey_self (kx_key z)]
      simp
    · rw [sameKey_ne (kx_ne e)]
      simpa using e
theorem RangeB.kept {w w' : World} {b r n cnt : Nat} {D : DU} {left : Int → Bool} {row : Option Nat} (h : RangeB w b r n D left cnt) (hg : w.grownBy w' row) (hb : some b ≠ row) (hr : some r ≠ row) : RangeB w' b r n D left cnt := by
  obtain ⟨lf, h, hl⟩ := h.rg
  exact ⟨_, h.kept hg hb hr, hl⟩
theorem RangeB.ne {w : World} {b r n cnt : Nat} {D : DU} {left : Int → Bool} (h : RangeB w b r n D left cnt) : r ≠ b := by
  obtain ⟨lf, h, hl⟩ := h.rg
  exact h.ne
theorem RangeB.owns {w : World} {b r n cnt : Nat} {D : DU} {left : Int → Bool} (h : RangeB w b r n D left cnt) : w.ownsMap Try.prog 3 (plainElem Try.prog 4) b n D := by
  obtain ⟨lf, h, hl⟩ := h.rg
  exact h.owns
theorem RangeB.left_eq {w : World} {b r n cnt : Nat} {D : DU} {left : Int → Bool} (h : RangeB w b r n D left cnt) : w.rangeLeft b r = cnt := by
  obtain ⟨lf, h, hl⟩ := h.rg
  exact h.left_eq
/-- The run of a range over numbers. -/
structure RangeI (w : World) (b r n : Nat) (D : DU) (left : Int → Bool) (cnt : Nat) : Prop where
  rg : ∃ lf : Lit → Bool, w.ranges Try.prog 3 (plainElem Try.prog 3) b r n D lf cnt ∧ ∀ x, inR x → lf (kx x) = left x
theorem range_int {b n : Nat} {D : DU} {w : World} {t : TypeId} (h : w.ownsMap Try.prog 3 (plainElem Try.prog 3) b n D) (ht : Try.prog.underlying t = some (.map 3 3)) :
    ∃ w', (Instr.range t (.map (some b))).run Try.prog w = .ok (.pointer (some ⟨w.heap.size, 0, none⟩)) w' ∧ (∃ cnt, cnt ≤ n ∧ RangeI w' b w.heap.size n D (fun x => has D (kx x)) cnt) ∧ w.grownBy w' none ∧ w'.heap.size = w.heap.size + 1 := by
  obtain ⟨w', h1, h2, h3, h4⟩ := h.range keyed3 ht
  refine ⟨w', h1, ⟨_, ?_, ⟨_, h2, fun x hx => rfl⟩⟩, h3, h4⟩
  obtain ⟨es, clock, since, seen, c0, hb, F, hs, hD, hr, hbo, hl, _⟩ := h2
  rw [← hl]
  exact Nat.le_trans (by unfold leftOf; exact Array.size_filter_le) hs
theorem next_int {b r n cnt : Nat} {D : DU} {w : World} {left : Int → Bool} {m : Int} {f : Int → Int} (h : RangeI w b r n D left cnt) (hf : IsI D m f) (ty : TypeId) :
    (cnt = 0 ∧ (∀ x, inR x → left x = false) ∧ (Instr.next (.pointer (some ⟨r, 0, none⟩)) false ty).run Try.prog w = .ok (.tuple #[.bool false]) w) ∨
    ∃ x w' cnt', inR x ∧ left x = true ∧ (Instr.next (.pointer (some ⟨r, 0, none⟩)) false ty).run Try.prog w = .ok (.tuple #[.bool true, .int .i64 x, .int .i64 (f x)]) w' ∧
      RangeI w' b r n D (fun y => left y && !(y == x)) cnt' ∧ cnt' < cnt ∧ w.grownBy w' (some r) ∧ w'.heap.size = w.heap.size ∧ (Instr.entry (.pointer (some ⟨r, 0, none⟩))).run Try.prog w' = .ok (.tuple #[.int .i64 x, .int .i64 (f x)]) w' := by
  obtain ⟨lf, h, hl⟩ := h.rg
  rcases h.next keyed3 ty with ⟨h1, h2, h3⟩ | ⟨key, v, kl, y, w', cnt', h1, h2, h3, h4, h5, h6, h7, h8, h9, h10⟩
  · exact .inl ⟨h1, fun x hx => (hl x hx).symm.trans (h2 _), h3⟩
  · obtain ⟨x, rfl, rfl, hx⟩ := Maps.keyOf_int_inv und3 h1
    have hat := h4 (.lit (.int .i64 0))
    rw [hf.2.1 x hx] at hat
    obtain ⟨c, rfl, rfl, _⟩ := plainElem_int_inv und3 h3
    cases hat
    refine .inr ⟨x, w', cnt', hx, (hl x hx).symm.trans h2, h5, ⟨_, h6, fun z hz => ?_⟩, h7, h8, h9, h10⟩
    rw [hl z hz]
    congr 2
    by_cases e : z = x
    · subst e
      rw [WideAt.sameKey_self (kx_key z)]
      simp
    · rw [sameKey_ne (kx_ne e)]
      simpa using e
theorem RangeI.kept {w w' : World} {b r n cnt : Nat} {D : DU} {left : Int → Bool} {row : Option Nat} (h : RangeI w b r n D left cnt) (hg : w.grownBy w' row) (hb : some b ≠ row) (hr : some r ≠ row) : RangeI w' b r n D left cnt := by
  obtain ⟨lf, h, hl⟩ := h.rg
  exact ⟨_, h.kept hg hb hr, hl⟩
theorem RangeI.ne {w : World} {b r n cnt : Nat} {D : DU} {left : Int → Bool} (h : RangeI w b r n D left cnt) : r ≠ b := by
  obtain ⟨lf, h, hl⟩ := h.rg
  exact h.ne
theorem RangeI.owns {w : World} {b r n cnt : Nat} {D : DU} {left : Int → Bool} (h : RangeI w b r n D left cnt) : w.ownsMap Try.prog 3 (plainElem Try.prog 3) b n D := by
  obtain ⟨lf, h, hl⟩ := h.rg
  exact h.owns
theorem RangeI.left_eq {w : World} {b r n cnt : Nat} {D : DU} {left : Int → Bool} (h : RangeI w b r n D left cnt) : w.rangeLeft b r = cnt := by
  obtain ⟨lf, h, hl⟩ := h.rg
  exact h.left_eq
/-- What the body of a loop over a function's values may do: B is where the loop's own blocks begin, n₀ where the call's begin, Bs the iterator's box. -/
structure Chg (B n₀ Bs : Nat) (W W' : World) : Prop where
  kf : KeepsFrom B W W'
  kp : KpB n₀ Bs W W'
theorem Chg.refl (B n₀ Bs : Nat) (W : World) : Chg B n₀ Bs W W := ⟨KeepsFrom.refl _ _, KpB.refl _ _ _⟩
theorem Chg.size {B n₀ Bs : Nat} {W W' : World} (h : Chg B n₀ Bs W W') : W.heap.size ≤ W'.heap.size := h.kf.size
theorem Chg.grown {B n₀ Bs : Nat} {W W' W'' : World} (h : Chg B n₀ Bs W W') {row : Option Nat} (hg : W'.grownBy W'' row) (hn : n₀ ≤ W'.heap.size) (hBs : Bs < W'.heap.size) (hr : ∀ r, row = some r → n₀ ≤ r ∧ r ≠ Bs ∧ (r < B ∨ W.heap.size ≤ r)) : Chg B n₀ Bs W W'' := by
  refine ⟨⟨Nat.le_trans h.kf.size hg.size, fun k o hk ho hc => ?_⟩, h.kp.1.grown hg hn (fun k e => (hr k e).1), (hg.block Bs hBs (fun e => (hr Bs e.symm).2.1 rfl)).trans h.kp.2⟩
  have h1 := h.kf.same k o hk ho hc
  refine (hg.block k (Array.getElem?_eq_some_iff.1 h1).1 (fun e => ?_)).trans h1
  have := (Array.getElem?_eq_some_iff.1 ho).1
  rcases (hr k e.symm).2.2 with h | h <;> omega
theorem Chg.set {B n₀ Bs : Nat} {W W' : World} (h : Chg B n₀ Bs W W') (b j : Nat) (v : Value) (hb : n₀ ≤ b) (hne : b ≠ Bs) : Chg B n₀ Bs W (W'.setCell ⟨b, j, none⟩ v) :=
  ⟨h.kf.trans ((KeepsOthers.setCell _ _ _).from _), h.kp.1.setCell (p := ⟨b, j, none⟩) hb v, (heap_setCell_other W' ⟨b, j, none⟩ Bs v (Ne.symm hne)).trans h.kp.2⟩
theorem Chg.drew {B n₀ Bs : Nat} {W W' : World} (h : Chg B n₀ Bs W W') : Chg B n₀ Bs W W'.drew := ⟨h.kf.trans ((KeepsOthers.drew _).from _), h.kp.1.drew, h.kp.2⟩
theorem Chg.alloc {B n₀ Bs : Nat} {W W' : World} (h : Chg B n₀ Bs W W') (hn : n₀ ≤ W'.heap.size) (hBs : Bs < W'.heap.size) (o : Obj) : Chg B n₀ Bs W (W'.alloc o) :=
  h.grown (World.grownBy_alloc W' o none) hn hBs (fun r e => by cases e)
end Go.Proofs.Ytjgmfdgpgdaclaa
/-
  How many payments there are: the walk.
-/
set_option linter.unusedVariables false
set_option linter.unusedSimpArgs false
set_option maxRecDepth 100000
namespace Go.Proofs.Ytjgmfdgpgdaclaa
open Go.RowKit Go.Shelf Go.Maps Go.ChangeMaps Go.MapKept
/-- f at x, x - c, x - 2c and so on, so many of them, together. -/
def cws (c : Int) (f : Int → Int) : Nat → Int → Int
  | 0, _ => 0
  | k + 1, x => bif decide (x < 0) then 0 else f x + cws c f k (x - c)
/-- How many payments there are. -/
def cw : List Int → Int → Int
  | [], x => bif x == 0 then 1 else 0
  | c :: l, x => cws c (cw l) (x.toNat + 1) x
def HF37 (S : List Int → Int → Option Int) (l : List Int) (s : Int) : Option (Int × Int) :=
  (S l s).bind fun e => bif e != 0 then some (0, e) else
    bif (l.all fun c => decide (1 ≤ c) && decide (c ≤ 40)) && (decide (0 < l.length) && decide (l.length ≤ 6)) && (decide (0 ≤ s) && decide (s ≤ 200)) then some (cw l s, 0) else none
theorem cws_congr {c : Int} {f g : Int → Int} (hc : 1 ≤ c) : ∀ (K : Nat) (y : Int), (∀ z, 0 ≤ z → z ≤ y → f z = g z) → cws c f K y = cws c g K y
  | 0, _, _ => rfl
  | K + 1, y, h => by
    simp only [cws]
    by_cases hy : y < 0
    · simp [hy]
    · rw [h y (by omega) (Int.le_refl _), cws_congr hc K (y - c) (fun z h0 h1 => h z h0 (by omega))]
theorem cws_zero {c : Int} {f : Int → Int} (hc : 1 ≤ c) : ∀ (K : Nat) (y : Int), (∀ z, 0 ≤ z → z ≤ y → f z = 0) → cws c f K y = 0
  | 0, _, _ => rfl
  | K + 1, y, h => by
    simp only [cws]
    by_cases hy : y < 0
    · simp [hy]
    · rw [h y (by omega) (Int.le_refl _), cws_zero hc K (y - c) (fun z h0 h1 => h z h0 (by omega))]
      simp
theorem cws_bound {c M : Int} {f : Int → Int} (hc : 1 ≤ c) (hM : 0 ≤ M) : ∀ (K : Nat) (y : Int), (∀ z, 0 ≤ z → z ≤ y → 0 ≤ f z ∧ f z ≤ M) → 0 ≤ cws c f K y ∧ cws c f K y ≤ K * M
  | 0, _, _ => ⟨Int.le_refl _, by simp [cws]⟩
  | K + 1, y, h => by
    simp only [cws]
    have e : ((K + 1 : Nat) : Int) * M = K * M + M := by rw [Int.natCast_add, Int.add_mul]; simp
    have hK : 0 ≤ (K : Int) * M := Int.mul_nonneg (by omega) hM
    by_cases hy : y < 0
    · rw [decide_eq_true hy, cond_true, e]
      omega
    · have h1 := h y (by omega) (Int.le_refl _)
      have h2 := cws_bound (f := f) hc hM K (y - c) (fun z h0 h1 => h z h0 (by omega))
      rw [decide_eq_false hy, cond_false, e]
      omega
/-- Where f is greater at one point. -/
theorem cws_point {c x n : Int} {f g : Int → Int} (hc : 1 ≤ c) (hx : 0 ≤ x) (hg : ∀ z, g z = f z + (if z = x then n else 0)) : ∀ (K : Nat) (y : Int), y < K → cws c g K y = cws c f K y + (if x ≤ y ∧ (y - x) % c = 0 then n else 0)
  | 0, y, h => by
    simp only [cws]
    rw [if_neg (by omega)]
    rfl
  | K + 1, y, h => by
    simp only [cws]
    by_cases hy : y < 0
    · rw [if_neg (by omega)]
      simp [hy]
    · rw [decide_eq_false hy, cond_false, cond_false, hg, cws_point hc hx hg K (y - c) (by omega)]
      by_cases e : y = x
      · rw [if_pos e, if_pos (show x ≤ y ∧ (y - x) % c = 0 from ⟨by omega, by rw [e, Int.sub_self, Int.zero_emod]⟩), if_neg (by omega)]
        omega
      · rw [if_neg e]
        by_cases h1 : x ≤ y ∧ (y - x) % c = 0
        · have h2 : ¬ (y - x < c) := fun h => by
            rw [Int.emod_eq_of_lt (by omega) h] at h1
            omega
          rw [if_pos h1, if_pos ⟨by omega, by rw [show y - c - x = (y - x) - c by omega, Int.sub_emod, h1.2]; simp⟩]
          omega
        · rw [if_neg h1, if_neg]
          · omega
          · rintro ⟨h2, h3⟩
            apply h1
            refine ⟨by omega, ?_⟩
            have : (y - x) % c = (y - c - x + c) % c := by congr 1; omega
            rw [this, Int.add_emod, h3]
            simp
/-- What the new map holds, some sums of the elder one being still to come. -/
def nxt (s c : Int) (F : Int → Int) (left : Int → Bool) (y : Int) : Int := bif decide (y ≤ s) then cws c (fun z => bif left z then 0 else F z) (y.toNat + 1) y else 0
/-- .. and in the midst of the sums that come from x: those below t are in. -/
def nxj (c x t n : Int) (B : Int → Int) (y : Int) : Int := B y + (if x ≤ y ∧ y < t ∧ (y - x) % c = 0 then n else 0)
theorem nxj_step {c x t n : Int} {B : Int → Int} (hc : 1 ≤ c) (hx : x ≤ t) (ht : (t - x) % c = 0) (y : Int) : (if y = t then nxj c x t n B t + n else nxj c x t n B y) = nxj c x (t + c) n B y := by
  unfold nxj
  by_cases e : y = t
  · subst e
    rw [if_pos rfl, if_neg (by omega), if_pos ⟨hx, by omega, ht⟩]
    omega
  · rw [if_neg e]
    congr 1
    by_cases h : x ≤ y ∧ y < t ∧ (y - x) % c = 0
    · rw [if_pos h, if_pos ⟨h.1, by omega, h.2.2⟩]
    · rw [if_neg h, if_neg]
      rintro ⟨h1, h2, h3⟩
      refine h ⟨h1, ?_, h3⟩
      by_cases h4 : y < t
      · exact h4
      · exfalso
        have h5 : (y - t) % c = 0 := by rw [show y - t = (y - x) - (t - x) by omega, Int.sub_emod, h3, ht]; simp
        rw [Int.emod_eq_of_lt (by omega) (by omega)] at h5
        omega
theorem nxt_step {s c x : Int} {F : Int → Int} {left : Int → Bool} (hc : 1 ≤ c) (hx0 : 0 ≤ x) (hxs : x ≤ s) (hl : left x = true) (y : Int) :
    nxt s c F (fun z => left z && !(z == x)) y = nxt s c F left y + (if x ≤ y ∧ y ≤ s ∧ (y - x) % c = 0 then F x else 0) := by
  unfold nxt
  by_cases hy : y ≤ s
  · rw [decide_eq_true hy, cond_true, cond_true, cws_point (f := fun z => bif left z then 0 else F z) (x := x) (n := F x) hc hx0 ?_ (y.toNat + 1) y (by omega)]
    · congr 1
      by_cases h : x ≤ y ∧ (y - x) % c = 0
      · rw [if_pos h, if_pos ⟨h.1, hy, h.2⟩]
      · rw [if_neg h, if_neg (fun k => h ⟨k.1, k.2.2⟩)]
    · intro z
      by_cases e : z = x
      · subst e
        simp [hl]
      · have : (z == x) = false := by simpa using e
        simp only [this, Bool.not_false, Bool.and_true, if_neg e]
        omega
  · rw [decide_eq_false hy, cond_false, cond_false, if_neg (by omega)]
    rfl
theorem nxj_end {s c x t : Int} {F : Int → Int} {left : Int → Bool} (hc : 1 ≤ c) (hx0 : 0 ≤ x) (hxs : x ≤ s) (hl : left x = true) (hxt : x ≤ t) (ht : (t - x) % c = 0) (hts : s < t) (htc : t ≤ s + c) (y : Int) :
    nxj c x t (F x) (nxt s c F left) y = nxt s c F (fun z => left z && !(z == x)) y := by
  rw [nxt_step hc hx0 hxs hl]
  unfold nxj
  congr 1
  by_cases h : x ≤ y ∧ y < t ∧ (y - x) % c = 0
  · rw [if_pos h, if_pos]
    refine ⟨h.1, ?_, h.2.2⟩
    by_cases h4 : y ≤ s
    · exact h4
    · exfalso
      have h5 : (t - y) % c = 0 := by rw [show t - y = (t - x) - (y - x) by omega, Int.sub_emod, h.2.2, ht]; simp
      rw [Int.emod_eq_of_lt (by omega) (by omega)] at h5
      omega
  · rw [if_neg h, if_neg]
    rintro ⟨h1, h2, h3⟩
    exact h ⟨h1, by omega, h3⟩
theorem nxt_bound {s c M : Int} {F : Int → Int} {left : Int → Bool} (hc : 1 ≤ c) (hs : s ≤ 200) (hM : 0 ≤ M) (hF : ∀ z, 0 ≤ F z ∧ F z ≤ M) (y : Int) : 0 ≤ nxt s c F left y ∧ nxt s c F left y ≤ 201 * M := by
  unfold nxt
  by_cases hy : y ≤ s
  · rw [decide_eq_true hy, cond_true]
    have h := cws_bound (c := c) (M := M) (f := fun z => bif left z then 0 else F z) hc hM (y.toNat + 1) y (fun z _ _ => by cases left z <;> simp [hF z, hM])
    refine ⟨h.1, Int.le_trans h.2 (Int.mul_le_mul_of_nonneg_right (by omega) hM)⟩
  · rw [decide_eq_false hy, cond_false]
    omega
/-- Up to s alone. -/
def cut (s : Int) (f : Int → Int) (x : Int) : Int := bif decide (x ≤ s) then f x else 0
theorem nxt_end {s c : Int} {l : List Int} {left : Int → Bool} (hc : 1 ≤ c) (hl : ∀ z, 0 ≤ z → z ≤ s → left z = false) (y : Int) : nxt s c (cut s (cw l)) left y = cut s (cw (c :: l)) y := by
  unfold nxt
  show _ = bif decide (y ≤ s) then cws c (cw l) (y.toNat + 1) y else 0
  by_cases hy : y ≤ s
  · rw [decide_eq_true hy, cond_true, cond_true]
    apply cws_congr hc
    intro z h0 h1
    rw [hl z h0 (by omega)]
    simp [cut, show z ≤ s by omega]
  · rw [decide_eq_false hy, cond_false, cond_false]
theorem nxt_start {s c : Int} {F : Int → Int} {left : Int → Bool} (hc : 1 ≤ c) (hl : ∀ z, 0 ≤ z → z ≤ s → left z = false → F z = 0) (y : Int) : nxt s c F left y = 0 := by
  unfold nxt
  by_cases hy : y ≤ s
  · rw [decide_eq_true hy, cond_true]
    apply cws_zero hc
    intro z h0 h1
    cases e : left z
    · exact hl z h0 (by omega) e
    · rfl
  · rw [decide_eq_false hy, cond_false]
theorem cw_bound : ∀ (l : List Int), (∀ c ∈ l, 1 ≤ c ∧ c ≤ 40) → ∀ y, y ≤ 200 → 0 ≤ cw l y ∧ cw l y ≤ (201 : Int) ^ l.length
  | [], _, y, _ => by simp only [cw]; cases y == 0 <;> simp
  | c :: l, h, y, hy => by
    have hM : (0 : Int) ≤ 201 ^ l.length := Int.pow_nonneg (by omega)
    have h1 := cws_bound (c := c) (M := 201 ^ l.length) (f := cw l) (h c (by simp)).1 hM (y.toNat + 1) y (fun z _ hz => cw_bound l (fun d hd => h d (by simp [hd])) z (by omega))
    simp only [cw]
    refine ⟨h1.1, Int.le_trans h1.2 ?_⟩
    rw [List.length_cons, Int.pow_succ, Int.mul_comm]
    exact Int.mul_le_mul_of_nonneg_left (by omega) hM
theorem cut_bound {l : List Int} (h : ∀ c ∈ l, 1 ≤ c ∧ c ≤ 40) {s : Int} (hs : s ≤ 200) (y : Int) : 0 ≤ cut s (cw l) y ∧ cut s (cw l) y ≤ (201 : Int) ^ l.length := by
  unfold cut
  by_cases hy : y ≤ s
  · rw [decide_eq_true hy, cond_true]
    exact cw_bound l h y (by omega)
  · rw [decide_eq_false hy, cond_false]
    exact ⟨by omega, Int.pow_nonneg (by omega)⟩
/-- The coins whose numbers have come, the last one first. -/
def coinsOf (zs : List Int) (pre : List (Fin zs.length)) : List Int := pre.reverse.map fun i => zs[i]
theorem coinsOf_snoc (zs : List Int) (pre : List (Fin zs.length)) (x : Fin zs.length) : coinsOf zs (pre ++ [x]) = zs[x] :: coinsOf zs pre := by simp [coinsOf]
theorem coinsOf_all (zs : List Int) : coinsOf zs (bw zs.length 0) = zs := by
  unfold coinsOf bw
  rw [List.drop_zero, List.reverse_reverse]
  apply List.ext_getElem
  · simp
  · intro i h1 h2
    simp
theorem coinsOf_mem {zs : List Int} {pre : List (Fin zs.length)} {c : Int} (h : c ∈ coinsOf zs pre) : c ∈ zs := by
  unfold coinsOf at h
  obtain ⟨i, _, rfl⟩ := List.mem_map.1 h
  exact List.getElem_mem _
theorem coinsOf_len (zs : List Int) (pre : List (Fin zs.length)) : (coinsOf zs pre).length = pre.length := by simp [coinsOf]
/-- What holds between two coins: m and g are the two maps' blocks. -/
def WI (zs : List Int) (s : Int) (w : World) (m g : Nat) (pre : List (Fin zs.length)) (W : World) : Prop :=
  ∃ (ma mb na nb : Nat) (Da Db : DU), ((ma = m ∧ mb = g) ∨ (ma = g ∧ mb = m)) ∧ Blk W (g + 1) #[.map (some ma)] 70 ∧ Blk W (g + 2) #[.map (some mb)] 70 ∧ Blk W w.heap.size #[.int .i64 s] 3 ∧
    W.ownsMap Try.prog 3 (plainElem Try.prog 3) ma na Da ∧ W.ownsMap Try.prog 3 (plainElem Try.prog 3) mb nb Db ∧ IsI Da s (cut s (cw (coinsOf zs pre))) ∧ na ≤ 201 ^ pre.length ∧ Below w.heap.size w W ∧ g + 4 ≤ W.heap.size
theorem WI_own (zs : List Int) (s : Int) (w : World) (m g B : Nat) (hm : m < B) (hg : g < B) (hw : w.heap.size ≤ B) : OwnFrom B (WI zs s w m g) := by
  rintro pre W W' row ⟨ma, mb, na, nb, Da, Db, h1, h2, h3, h4, h5, h6, h7, h8, h9, h10⟩ hgr hr
  have hne : ∀ b, b < B → some b ≠ row := fun b hb e => by have := (hr b e.symm).1; omega
  have hcell : ∀ {b : Nat} {cur : Array Value} {t : TypeId}, Blk W b cur t → Blk W' b cur t := fun {b cur t} h => h.kept hgr (fun e => by
    obtain ⟨_, o, ho, hc⟩ := hr b e.symm
    rw [show W.heap[b]? = _ from h] at ho
    cases ho
    cases hc)
  refine ⟨ma, mb, na, nb, Da, Db, h1, hcell h2, hcell h3, hcell h4, h5.kept hgr (hne _ (by omega)), h6.kept hgr (hne _ (by omega)), h7, h8, ?_⟩
  exact ⟨h9.grown hgr h9.size (fun k e => by have := (hr k e).1; omega), Nat.le_trans h10 hgr.size⟩
theorem owns_set {W : World} {k : TypeId} {R : Value → Option (DU × List MemPlace)} {b n : Nat} {D : DU} (h : W.ownsMap Try.prog k R b n D) {b' : Nat} (j : Nat) (v : Value) (hne : b ≠ b') : (W.setCell ⟨b', j, none⟩ v).ownsMap Try.prog k R b n D := by
  obtain ⟨es, clock, hb, r⟩ := h
  exact ⟨es, clock, (heap_setCell_other W ⟨b', j, none⟩ b v hne).trans hb, r⟩
section
attribute [local go_sem] Oper.semAt_some
set_option maxHeartbeats 8000000 in
theorem ways_in (F : Fence) (n : Nat) (h37 : F.fn 37) (h56 : F.fn 56) (h72 : F.fn 72) (h78 : F.fn 78) (hro : F.round = none) (hn : 3 ≤ n) (b off cap : Nat) (zs : List Int) (s : Int) (w : World) (hb : b < w.heap.size)
    (hcs : ∀ j (h : j < zs.length), w.cell? ⟨b, off + j, none⟩ = some (.int .i64 zs[j])) (h0 : 0 < zs.length) (hl : zs.length ≤ 6) (hcc : ∀ c ∈ zs, 1 ≤ c ∧ c ≤ 40) (hs0 : 0 ≤ s) (hs1 : s ≤ 200)
    (hck : ∀ W, Below w.heap.size w W → CallsIn F (n - 1) Try.prog 56 #[.slice (some ⟨b, off, none⟩) zs.length cap, .int .i64 s] W fun e w' => e = .returned (.int .i64 0) ∧ Below W.heap.size W w') :
    CallsIn F n Try.prog 37 #[.slice (some ⟨b, off, none⟩) zs.length cap, .int .i64 s] w fun e w' => e = .returned (.tuple #[.int .i64 (cw zs s), .int .i64 0]) ∧ Below w.heap.size w w' := by
  have h70 : Try.prog.underlying 70 = some (.map 3 3) := by kernel_rfl
  have hmm := @run_makeMap Try.prog
  have hins : ∀ W : World, ∃ W', (Instr.mapUpdate 70 (.map (some W.heap.size)) (.int .i64 0) (.int .i64 1)).run Try.prog (W.alloc (.map #[] 0)) = .ok () W' ∧
      W'.ownsMap (H := Unit) Try.prog 3 (plainElem Try.prog 3) W.heap.size 1 ((DataW.map []).put (kx 0) (.lit (.int .i64 1))) ∧ (W.alloc (.map #[] 0)).grownBy W' (some W.heap.size) :=
    fun W => put_int (World.ownsMap_made W _ _ _) h70 (by decide) (inR_of (by omega) (by omega)) (inR_of (by omega) (by omega))
  obtain ⟨V, hV⟩ := Classical.axiomOfChoice hins
  have hV1 := fun W => (hV W).1
  clear hins
  have h1 : 1 ≤ n := by omega
  refine callsIn_of_wp_marks Try.func37 rfl h37 ?_ hro
  simp only [Try.ntmps37, List.size_toArray, List.length_cons, List.length_nil, Nat.reduceAdd, Nat.reduceSub, Array.replicate_succ, Array.replicate_zero, List.push_toArray, List.append_toArray, List.nil_append, List.cons_append]
  gi_wp2_with (first
    | (gi_at_call 56; refine (hck _ ((Below.refl _ w).alloc (Nat.le_refl _) _)).mono ?_; rintro e w2 ⟨rfl, hB1⟩)
    | (gi_at_call 72; refine (back_in F (n - 1) h72 hro _ _ _ _).mono ?_; rintro e w' ⟨rfl, rfl⟩))
  obtain ⟨_, hV2, hV3⟩ := hV w2
  clear hV hV1 hmm
  have hB2 : Below w.heap.size w w2 := ((Below.refl _ w).alloc (Nat.le_refl _) _).trans (hB1.mono (by simp))
  have b0 : Blk w2 w.heap.size #[.int .i64 s] 3 := (hB1.block _ (by simp)).trans (Blk.new w _ _)
  have hm1 : w.heap.size + 1 ≤ w2.heap.size := by have := hB1.size; simpa using this
  have hg1 : w2.heap.size + 1 ≤ (V w2).heap.size := by have := hV3.size; simpa using this
  have b0' : Blk (V w2) w.heap.size #[.int .i64 s] 3 := (b0.alloc _).kept hV3 (by simp; omega)
  have hBV : Below w.heap.size w (V w2) := (hB2.alloc (by omega) _).grown hV3 (by simp; omega) (fun k e => by cases e; omega)
  generalize hWV : V w2 = WV at *
  generalize hm : w2.heap.size = m at *
  generalize hg : WV.heap.size = g at *
  have hmade : (WV.alloc (.map #[] 0)).ownsMap (H := Unit) Try.prog 3 (plainElem Try.prog 3) g 0 (.map []) := by
    rw [← hg]
    exact World.ownsMap_made (H := Unit) WV Try.prog 3 (plainElem Try.prog 3)
  generalize hW0 : World.alloc (World.alloc (World.alloc (World.alloc WV _) _) _) _ = W0
  have hsz : W0.heap.size = g + 4 := by rw [← hW0, ← hg]; simp
  have c0 : Blk W0 w.heap.size #[.int .i64 s] 3 := by rw [← hW0]; exact (((b0'.alloc _).alloc _).alloc _).alloc _
  have c1 : Blk W0 (g + 1) #[.map (some m)] 70 := by
    rw [← hW0, ← hg]
    have := Blk.new (WV.alloc (.map #[] 0)) #[.map (some m)] 70
    rw [World.size_alloc] at this
    exact (this.alloc _).alloc _
  have c2 : Blk W0 (g + 2) #[.map (some g)] 70 := by
    rw [← hW0, ← hg]
    have := Blk.new ((WV.alloc (.map #[] 0)).alloc (.cells #[.map (some m)] 70)) #[.map (some WV.heap.size)] 70
    simp only [World.size_alloc, Nat.add_assoc, Nat.reduceAdd] at this
    exact this.alloc _
  have c3 : Blk W0 (g + 3) #[.slice (some ⟨b, off, none⟩) zs.length cap] 22 := by
    rw [← hW0, ← hg]
    have := Blk.new (((WV.alloc (.map #[] 0)).alloc (.cells #[.map (some m)] 70)).alloc (.cells #[.map (some WV.heap.size)] 70)) #[.slice (some ⟨b, off, none⟩) zs.length cap] 22
    simp only [World.size_alloc, Nat.add_assoc, Nat.reduceAdd] at this
    exact this
  have o1 : W0.ownsMap (H := Unit) Try.prog 3 (plainElem Try.prog 3) m 1 ((DataW.map []).put (kx 0) (.lit (.int .i64 1))) := by
    rw [← hW0]
    exact (((hV2.kept (World.grownBy_alloc _ _ none) (by simp)).kept (World.grownBy_alloc _ _ none) (by simp)).kept (World.grownBy_alloc _ _ none) (by simp)).kept (World.grownBy_alloc _ _ none) (by simp)
  have o2 : W0.ownsMap (H := Unit) Try.prog 3 (plainElem Try.prog 3) g 0 (.map []) := by
    rw [← hW0]
    exact ((hmade.kept (World.grownBy_alloc _ _ none) (by simp)).kept (World.grownBy_alloc _ _ none) (by simp)).kept (World.grownBy_alloc _ _ none) (by simp)
  have hB0 : Below w.heap.size w W0 := by
    rw [← hW0]
    exact (((hBV.alloc (by omega) _).alloc (by simp; omega) _).alloc (by simp; omega) _).alloc (by simp; omega) _
  clear hW0 hV2 hV3 hB1
  simp only [Nat.add_assoc, Nat.reduceAdd]
  have hcs0 : ∀ j (h : j < zs.length), W0.cell? ⟨b, off + j, none⟩ = some (.int .i64 zs[j]) := fun j hj => (hB0.cell (p := ⟨b, off + j, none⟩) hb).trans (hcs j hj)
  have hmem : ∀ i : Fin zs.length, 1 ≤ zs[i.val] ∧ zs[i.val] ≤ 40 := fun i => hcc _ (List.getElem_mem _)
  have hI0 : IsI ((DataW.map []).put (kx 0) (.lit (.int .i64 1)) : DU) s (cut s (cw (coinsOf zs []))) := ((IsI.empty s).put 0 1 (Int.le_refl _) hs0).congr fun x => by
    simp only [coinsOf, List.reverse_nil, List.map_nil, cut, cw]
    by_cases e : x = 0
    · subst e
      simp [hs0]
    · rw [if_neg e, show (x == 0) = false by simpa using e]
      cases decide (x ≤ s) <;> rfl
  refine wpIn_rangeFunc_ownG hro h1 (gf := 78) (lb := #[.pointer (some ⟨g + 3, 0, none⟩)]) rfl h78 (enters_of Try.func78 (by kernel_rfl) rfl)
    (back_stops F (n - 1) h78 hro (by omega) (g + 3) w.heap.size b off cap zs (by omega) W0 (by omega) (by omega) (c3.cell 0 rfl) hb hcs0) KpB.trans (KpB.b (by omega) (by omega)) (Below.refl _ _) (fun _ => rfl)
    (WI zs s w m g) (fun _ _ _ => False) (WI_own zs s w m g _ (by omega) (by omega) (by omega)) (fun _ _ _ _ _ hs _ _ => hs)
    ⟨m, g, 1, 0, _, _, .inl ⟨rfl, rfl⟩, c1, c2, c0, o1, o2, hI0, Nat.le_refl _, hB0, by omega⟩
    ?a1 ?assign ?body ?done ?stop
  case assign =>
    intro l x W K hK
    gi_wp2
    exact hK
  case body =>
    rintro l pre x W ⟨ma, mb, na, nb, Da, Db, hsw, d1, d2, d0, p1, p2, hI, hna, hB, hgs⟩ hlen
    have e1 := d1.cell 0 rfl
    have e2 := d2.cell 0 rfl
    obtain ⟨hx1, hx2⟩ := hmem x
    have hxl := x.isLt
    have hsn := coinsOf_snoc zs pre x
    have hcm : ∀ y, 0 ≤ cut s (cw (coinsOf zs pre)) y ∧ cut s (cw (coinsOf zs pre)) y ≤ (201 : Int) ^ pre.length := fun y => by
      have := cut_bound (l := coinsOf zs pre) (fun c hc => hcc c (coinsOf_mem hc)) hs1 y
      rwa [coinsOf_len] at this
    have hpl : pre.length ≤ 5 := by omega
    have hMn : (201 : Int) ^ pre.length = ((201 ^ pre.length : Nat) : Int) := by rw [Int.natCast_pow]; rfl
    have hMnle : 201 ^ pre.length ≤ 328080401001 := Nat.le_trans (Nat.pow_le_pow_right (by omega) hpl) (by decide)
    rw [hMn] at hcm
    have hpw : 201 ^ (pre ++ [x]).length = 201 ^ pre.length * 201 := by simp [Nat.pow_succ]
    simp only [Fin.getElem_fin] at hsn
    generalize hgc : zs[x.val] = c at hx1 hx2 hsn ⊢
    generalize hF : cut s (cw (coinsOf zs pre)) = f at *
    clear hMn
    generalize hMn : (201 : Nat) ^ pre.length = Mn at *
    obtain ⟨Wc, hclr, q2, hgcl⟩ := clear_map p2 h70
    have q1 := p1.kept hgcl (by simp; omega)
    have f0 := d0.kept hgcl (by simp; omega)
    have f1 := d1.kept hgcl (by simp; omega)
    have f2 := d2.kept hgcl (by simp; omega)
    have f1c := f1.cell 0 rfl
    obtain ⟨Wr, hrun, ⟨cnt, hcnt, hrg⟩, hgr, hsr⟩ := range_int q1 h70
    have hsz1 := hgcl.size
    have hrs := hrg.ne
    have e0 := fun W' (h : Blk W' w.heap.size #[.int .i64 s] 3) => h.cell 0 rfl
    have hC0 : Chg W0.heap.size w.heap.size (g + 3) W Wr := ((Chg.refl _ _ _ W).grown hgcl (by omega) (by omega) (fun r e => by cases e; omega)).grown hgr (by omega) (by omega) (fun r e => by cases e)
    generalize hri : Wc.heap.size = ri at *
    gi_wp2
    gi_loopw [11] (fun _ wr => ∃ (left : Int → Bool) (cnt n2 : Nat) (D2 : DU), RangeI wr ma ri na Da left cnt ∧ wr.ownsMap Try.prog 3 (plainElem Try.prog 3) mb n2 D2 ∧ IsI D2 s (nxt s c f left) ∧ n2 + 201 * cnt ≤ 201 * na ∧ (∀ x, inR x → left x = true → 0 ≤ x ∧ x ≤ s) ∧
        Blk wr (g + 1) #[.map (some ma)] 70 ∧ Blk wr (g + 2) #[.map (some mb)] 70 ∧ Blk wr w.heap.size #[.int .i64 s] 3 ∧ Chg W0.heap.size w.heap.size (g + 3) W wr)
      (fun _ wr => wr.rangeLeft ma ri)
    case atStart =>
      refine ⟨_, cnt, 0, _, hrg, q2.kept hgr (by simp), (IsI.empty s).congr fun y => (nxt_start hx1 (fun z h0 h1 hz => hI.2.2.2 z (inR_of (by omega) (by omega)) hz) y).symm, by omega, fun z hz hh => hI.2.2.1 z hz hh, f1.kept hgr (by simp), f2.kept hgr (by simp), f0.kept hgr (by simp), hC0⟩
    case round =>
      obtain ⟨left, cnt2, n2, D2, hrg2, hown2, hD2, hn2, hlf, k1, k2, k0, hC⟩ := hrel
      obtain ⟨wi, rfl⟩ : ∃ wi, wi = wr := ⟨wr, rfl⟩
      rcases next_int hrg2 hI 0 with ⟨hz, hl0, hrun2⟩ | ⟨x0, w4, cnt', hx, hlx, hrun2, hrg4, hlt4, hg4, hs4, hen⟩
      · have e1' := k1.cell 0 rfl
        have e2' := k2.cell 0 rfl
        have g1' := k1.frozen 0
        have g2' := fun v => (k2.other (b' := g + 1) 0 v (by omega)).frozen 0
        gi_wp2
        have hC' := (hC.set (g + 1) 0 (.map (some mb)) (by omega) (by omega)).set (g + 2) 0 (.map (some ma)) (by omega) (by omega)
        refine ⟨hC'.kf, hC'.kp, mb, ma, n2, na, D2, Da, by omega, (k1.set 0 (.map (some mb))).other 0 _ (by omega), (k2.other 0 _ (by omega)).set 0 (.map (some ma)), (k0.other 0 _ (by omega)).other 0 _ (by omega),
          owns_set (owns_set hown2 0 _ (by omega)) 0 _ (by omega), owns_set (owns_set hrg2.owns 0 _ (by omega)) 0 _ (by omega), ?_, by rw [hpw]; omega, hB.trans hC'.kp.1, Nat.le_trans hgs hC'.size⟩
        rw [hsn]
        refine hD2.congr fun y => ?_
        rw [← hF]
        exact nxt_end hx1 (fun z h0 h1 => hl0 z (inR_of (by omega) (by omega))) y
      · have hne := hrg2.ne
        obtain ⟨hx0, hxs⟩ := hlf x0 hx hlx
        have hfx := hcm x0
        have hC4 := hC.grown hg4 (by have := hC.size; omega) (by have := hC.size; omega) (fun r e => by cases e; omega)
        have k1' := k1.kept hg4 (by simp; omega)
        have k2' := k2.kept hg4 (by simp; omega)
        have k0' := k0.kept hg4 (by simp; omega)
        have hown4 := hown2.kept hg4 (by simp; omega)
        gi_wp2
        gi_loopw [11] (fun i wr => ∃ (t : Int) (n3 : Nat) (D3 : DU), i = .int .i64 t ∧ x0 ≤ t ∧ (t - x0) % c = 0 ∧ t ≤ s + c ∧ RangeI wr ma ri na Da (fun y => left y && !(y == x0)) cnt' ∧ wr.ownsMap Try.prog 3 (plainElem Try.prog 3) mb n3 D3 ∧
            IsI D3 s (nxj c x0 t (f x0) (nxt s c f left)) ∧ (n3 : Int) + x0 ≤ n2 + t ∧ (n3 : Int) + x0 ≤ n2 + s + 1 ∧ Blk wr (g + 1) #[.map (some ma)] 70 ∧ Blk wr (g + 2) #[.map (some mb)] 70 ∧ Blk wr w.heap.size #[.int .i64 s] 3 ∧ Chg W0.heap.size w.heap.size (g + 3) W wr)
          (fun i _ => (s + 41 - intOf i).toNat)
        case atStart =>
          exact ⟨x0, n2, D2, rfl, Int.le_refl _, by simp, by omega, hrg4, hown4, hD2.congr fun y => by simp [nxj]; intros; omega, by omega, by omega, k1', k2', k0', hC4⟩
        case round =>
          obtain ⟨t, n3, D3, rfl, ht1, ht2, ht3, hrg5, hown5, hD3, hn3, hn3', j1, j2, j0, hC5⟩ := hrel
          have e0' := j0.cell 0 rfl
          have e2' := j2.cell 0 rfl
          have hbt := nxt_bound (left := left) hx1 hs1 (show (0 : Int) ≤ (Mn : Nat) by omega) hcm t
          by_cases hts : t ≤ s
          · have hlk := look_int hown5 hD3 h70 (x := t) (inR_of (by omega) (by omega))
            have hv : nxj c x0 t (f x0) (nxt s c f left) t = nxt s c f left t := by simp [nxj]
            rw [hv] at hlk
            obtain ⟨w6, hput, hown6, hg6⟩ := put_int hown5 h70 (by unfold maxLen; omega) (x := t) (v := nxt s c f left t + f x0) (inR_of (by omega) (by omega)) (inR_of (by omega) (by omega))
            have hjs := fun y => nxj_step (n := f x0) (B := nxt s c f left) hx1 ht1 ht2 y
            rw [hv] at hjs
            have hC6 := hC5.grown hg6 (by have := hC5.size; omega) (by have := hC5.size; omega) (fun r e => by cases e; omega)
            gi_wp2
            exact ⟨⟨t + c, n3 + 1, _, rfl, by omega, by rw [show t + c - x0 = (t - x0) + c by omega, Int.add_emod, ht2]; simp, by omega, hrg5.kept hg6 (by simp; omega) (by simp; omega), hown6, (hD3.put t _ (by omega) hts).congr hjs, by omega, by omega,
              j1.kept hg6 (by simp; omega), j2.kept hg6 (by simp; omega), j0.kept hg6 (by simp; omega), hC6⟩, by simp [intOf]; omega⟩
          · gi_wp2
            refine ⟨⟨_, cnt', n3, D3, hrg5, hown5, hD3.congr fun y => nxj_end hx1 hx0 hxs hlx ht1 ht2 (by omega) ht3 y, by omega, fun y hy hh => hlf y hy ?_, j1, j2, j0, hC5⟩, ?_⟩
            · rw [Bool.and_eq_true] at hh
              exact hh.1
            · rw [hrg5.left_eq, hrg2.left_eq]
              exact hlt4
  case done =>
    rintro D ys W hD rfl ⟨ma, mb, na, nb, Da, Db, hsw, d1, d2, d0, p1, p2, hI, hna, hB, hgs⟩ hK
    have e0 := d0.cell 0 rfl
    have e1 := d1.cell 0 rfl
    rw [coinsOf_all] at hI
    have hlk := look_int p1 hI h70 (x := s) (inR_of (by omega) (by omega))
    rw [show cut s (cw zs) s = cw zs s by simp [cut]] at hlk
    gi_wp2
    refine ⟨by simp, .inl ⟨_, _, rfl, run_takeDeferred hK, ?_⟩⟩
    have hBz := hB.trans (belowK_b (w := w) (Nat.le_refl _) W D _ (.deferred none) (by omega) hK rfl rfl)
    exact ⟨_, results_tmp2 rfl _ _ _, rfl, hBz⟩
  case stop =>
    rintro D c pre W hD _ h _
    exact h.elim
set_option maxHeartbeats 1000000 in
theorem ways_err (e : Int) (he : e ≠ 0) (v0 : Value) (s : Int) (w : World) (hck : ∀ W, Below w.heap.size w W → Calls Try.prog 56 #[v0, .int .i64 s] W fun x w' => x = .returned (.int .i64 e) ∧ Below W.heap.size W w') :
    Calls Try.prog 37 #[v0, .int .i64 s] w fun x w' => x = .returned (.tuple #[.int .i64 0, .int .i64 e]) ∧ Below w.heap.size w w' := by
  go_enter Try.func37, Try.ntmps37
  go_wp2_with (go_at_call 56; refine (hck _ ((Below.refl _ w).alloc (Nat.le_refl _) _)).mono ?_; rintro e w1 ⟨rfl, hB1⟩)
  have hB2 : Below w.heap.size w w1 := ((Below.refl _ w).alloc (Nat.le_refl _) _).trans (hB1.mono (by simp))
  go_ret2
  exact ⟨rfl, hB2⟩
end
open Go.Vi
theorem HC37 (n : Nat × Nat) (xs : pksDen [.c (.sl (.int .i64)), .c (.int .i64)]) (r : rksDen [.c (.int .i64) 0, .c (.int .i64) 0]) (h : HF37 (S56 n) xs.1 xs.2.1 = some r) (vs : List V) (hv : pksArg [.c (.sl (.int .i64)), .c (.int .i64)] vs = some xs) :
    FC Try.prog 37 vs (rets [.c (.int .i64) 0, .c (.int .i64) 0] r) := by
  obtain ⟨zs, s, ⟨⟩⟩ := xs
  unfold HF37 at h
  obtain ⟨e, he, h⟩ := Option.bind_eq_some_iff.1 h
  intro w A0 args hA hargs
  have hv2 := pksArg_VR _ _ _ _ hv hargs
  match args, hv2 with
  | [v0, v1], ⟨g0, g1, _⟩ =>
    have g1 : v1 = .int .i64 s := g1
    subst g1
    have hck := fun W (hW : Below w.heap.size w W) => call_list2 (rk := []) (FC56 n) (zs := zs) he hA g0 hW
    have fin : ∀ {x y : Int} {e' : Ending} {W' : World}, e' = .returned (.tuple #[.int .i64 x, .int .i64 y]) ∧ Below w.heap.size w W' →
        (match e', W' with | .returned u, w' => Grows w w' ∧ RetR w w' A0 (rets [.c (.int .i64) 0, .c (.int .i64) 0] (x, y)) u | _, _ => False) := by
      rintro x y e' W' ⟨rfl, hB⟩
      exact ⟨Grows.of_below hB, [.emp, .emp], [_, _], rfl, rfl, fun b c h => (by cases h), rfl, fun b c h => (by cases h), trivial⟩
    cases hz : e != 0 with
    | true =>
      rw [hz] at h
      cases h
      exact (ways_err e (by simpa using hz) v0 s w hck).mono fun _ _ h => fin h
    | false =>
      rw [hz] at h
      have hz : e = 0 := by simpa using hz
      subst hz
      simp only [cond_false] at h
      obtain ⟨hd, h⟩ := cond_some h rfl
      cases h
      simp only [Bool.and_eq_true, decide_eq_true_eq, List.all_eq_true] at hd
      obtain ⟨⟨hc, hl0, hl1⟩, hs0, hs1⟩ := hd
      obtain ⟨b, off, cap, rfl, hb, hcs⟩ := CR_ints (zs := zs) (t := false) g0 hl0 hA
      exact ((callsIn_wide (n := 3)).1 (ways_in Fence.wide 3 trivial trivial trivial trivial rfl (by omega) b off cap zs s w hb hcs hl0 hl1 hc hs0 hs1 (fun W hW => callsIn_wide.2 (hck W hW)))).mono fun _ _ h => fin h
end Go.Proofs.Ytjgmfdgpgdaclaa
set_option linter.unusedVariables false
set_option linter.unusedSimpArgs false
set_option maxRecDepth 100000
namespace Go.Proofs.Ytjgmfdgpgdaclaa
open Go.Vi
abbrev R37 := Int × Int
def pk37 : List PK := [.c (.sl (.int .i64)), .c (.int .i64)]
def rk37 : List RK := [.c (.int .i64) 0, .c (.int .i64) 0]
noncomputable def S37 (n : Nat × Nat) (coins0 : List Int) (sum1 : Int) : Option R37 := HF37 (S56 n) coins0 sum1
noncomputable def P37 (n : Nat × Nat) := phiOf pk37 rk37 (fun xs => S37 n xs.1 xs.2.1)
theorem call37 : CallOK Try.prog 37 := callOK_of Try.func37 (by kernel_rfl) (by kernel_rfl)
theorem FC37 (n : Nat × Nat) : FCs Try.prog 37 (P37 n) := phiOf_FCs fun xs r h vs hv => HC37 n xs r h vs hv
end Go.Proofs.Ytjgmfdgpgdaclaa
/-
  How far all sums can be paid: the walk.
-/
set_option linter.unusedVariables false
set_option linter.unusedSimpArgs false
set_option maxRecDepth 100000
namespace Go.Proofs.Ytjgmfdgpgdaclaa
open Go.RowKit Go.Shelf Go.Maps Go.ChangeMaps Go.MapKept
/-- What so many coins, or fewer, can be together. -/
def rs (l : List Int) : Nat → Int → Bool
  | 0, x => x == 0
  | k + 1, x => rs l k x || l.any fun c => rs l k (x - c)
/-- How far all numbers are so. -/
def upTo (f : Int → Bool) : Nat → Int → Int
  | 0, s => s
  | k + 1, s => bif f (s + 1) then upTo f k (s + 1) else s
def HF35 (S : List Int → Option Int) (l : List Int) (many : Int) : Option (Int × Int) :=
  (S l).bind fun e => bif e != 0 then some (0, e) else
    bif decide (many < 0) || decide (many > 5) then some (0, 1) else
    bif (l.all fun c => decide (1 ≤ c) && decide (c ≤ 40)) && (decide (0 < l.length) && decide (l.length ≤ 6)) then some (upTo (rs l many.toNat) 300 0, 0) else none
theorem rs_bound {l : List Int} (hl : ∀ c ∈ l, 1 ≤ c ∧ c ≤ 40) : ∀ (k : Nat) (x : Int), rs l k x = true → 0 ≤ x ∧ x ≤ 40 * k
  | 0, x, h => by simp [rs] at h; omega
  | k + 1, x, h => by
    simp only [rs, Bool.or_eq_true, List.any_eq_true] at h
    rcases h with h | ⟨c, hc, h⟩
    · have := rs_bound hl k x h; omega
    · have h1 := rs_bound hl k _ h; have := hl c hc; omega
/-- Of the coins so far: what one sum more gives. -/
def addS (l : List Int) (s : Int) (f : Int → Bool) (x : Int) : Bool := f x || l.any fun c => x == s + c
theorem addS_snoc (l : List Int) (c s : Int) (f : Int → Bool) : (fun y => y == s + c || addS l s f y) = addS (l ++ [c]) s f := by
  funext y
  simp only [addS, List.any_append, List.any_cons, List.any_nil, Bool.or_false]
  cases f y <;> cases (l.any fun c => y == s + c) <;> cases (y == s + c) <;> rfl
/-- What the new map holds, some sums being still to come. -/
def part (l : List Int) (f left : Int → Bool) (x : Int) : Bool := f x || l.any fun c => f (x - c) && !left (x - c)
theorem part_start (l : List Int) (f : Int → Bool) (x : Int) : part l f f x = f x := by
  unfold part
  cases h : f x
  · simp
  · rfl
theorem part_step {l : List Int} {f left : Int → Bool} {x : Int} (hx : f x = true) (y : Int) : addS l x (part l f left) y = part l f (fun z => left z && !(z == x)) y := by
  unfold addS part
  rw [Bool.or_assoc]
  congr 1
  rw [Bool.eq_iff_iff]
  simp only [Bool.or_eq_true, List.any_eq_true, Bool.and_eq_true, Bool.not_eq_true', beq_iff_eq, Bool.and_eq_false_iff, Bool.not_eq_false']
  constructor
  · rintro (⟨c, hc, h1, h2⟩ | ⟨c, hc, h1⟩)
    · exact ⟨c, hc, h1, .inl h2⟩
    · have : y - c = x := by omega
      exact ⟨c, hc, by rw [this]; exact hx, .inr this⟩
  · rintro ⟨c, hc, h1, h2 | h2⟩
    · exact .inl ⟨c, hc, h1, h2⟩
    · exact .inr ⟨c, hc, by omega⟩
theorem part_end {l : List Int} {k : Nat} {left : Int → Bool} (h : ∀ z, rs l k z = true → left z = false) (y : Int) : part l (rs l k) left y = rs l (k + 1) y := by
  unfold part
  simp only [rs]
  congr 1
  rw [Bool.eq_iff_iff]
  simp only [List.any_eq_true, Bool.and_eq_true, Bool.not_eq_true']
  exact ⟨fun ⟨c, hc, h1, _⟩ => ⟨c, hc, h1⟩, fun ⟨c, hc, h1⟩ => ⟨c, hc, h1, h _ h1⟩⟩
set_option maxHeartbeats 4000000 in
theorem reach_walk (b off cap : Nat) (zs : List Int) (many : Nat) (hm : many ≤ 5) (w : World) (hb : b < w.heap.size)
    (hcs : ∀ j (h : j < zs.length), w.cell? ⟨b, off + j, none⟩ = some (.int .i64 zs[j])) (hl : zs.length ≤ 6) (hcc : ∀ c ∈ zs, 1 ≤ c ∧ c ≤ 40)
    (hck : Calls Try.prog 25 #[.slice (some ⟨b, off, none⟩) zs.length cap] w fun e w' => e = .returned (.int .i64 0) ∧ Below w.heap.size w w') :
    Calls Try.prog 35 #[.slice (some ⟨b, off, none⟩) zs.length cap, .int .i64 many] w fun e w' => e = .returned (.tuple #[.int .i64 (upTo (rs zs many) 300 0), .int .i64 0]) ∧ Below w.heap.size w w' := by
  have h68 : Try.prog.underlying 68 = some (.map 3 4) := by kernel_rfl
  have hmm := @run_makeMap Try.prog
  have hins : ∀ W : World, ∃ W', (Instr.mapUpdate 68 (.map (some W.heap.size)) (.int .i64 0) (.bool true)).run Try.prog (W.alloc (.map #[] 0)) = .ok () W' ∧
      W'.ownsMap (H := Unit) Try.prog 3 (plainElem Try.prog 4) W.heap.size 1 ((DataW.map []).put (kx 0) (.lit (.bool true))) ∧ (W.alloc (.map #[] 0)).grownBy W' (some W.heap.size) :=
    fun W => put_bool (World.ownsMap_made W _ _ _) h68 (by decide) (inR_of (by omega) (by omega))
  obtain ⟨V, hV⟩ := Classical.axiomOfChoice hins
  have hV1 := fun W => (hV W).1
  clear hins
  go_enter Try.func35, Try.ntmps35
  go_wp2_with (go_at_call 25; refine hck.mono ?_; rintro e w1 ⟨rfl, hB1⟩)
  obtain ⟨_, hV2, hV3⟩ := hV w1
  clear hV hV1
  have hD0 : IsB ((DataW.map []).put (kx 0) (.lit (.bool true)) : DU) (rs zs 0) := (IsB.empty.put 0).congr fun x => by simp [rs]
  have hBV : Below w.heap.size w (V w1) := ((hB1.alloc hB1.size _).grown hV3 (by have := hB1.size; simp; omega) (fun k e => by cases e; exact hB1.size))
  go_loopw [7, 29] (fun a c wr => ∃ (k b1 n1 : Nat) (D1 : DU), k ≤ many ∧ c = .int .i64 k ∧ a = .map (some b1) ∧ w.heap.size ≤ b1 ∧ wr.ownsMap Try.prog 3 (plainElem Try.prog 4) b1 n1 D1 ∧ IsB D1 (rs zs k) ∧ n1 ≤ 7 ^ k ∧ Below w.heap.size w wr)
    (fun _ c _ => many - (intOf c).toNat)
  case atStart => exact ⟨0, _, _, _, Nat.zero_le _, rfl, rfl, hB1.size, hV2, hD0, Nat.le_refl _, hBV⟩
  case round =>
    obtain ⟨k, b1, n1, D1, hk, rfl, rfl, hb1, hown, hD, hn, hB⟩ := hrel
    obtain ⟨wo, rfl⟩ : ∃ wo, wo = wr := ⟨wr, rfl⟩
    by_cases hlt : k < many
    · go_wp2_with (go_at_call 71; refine (clone71 b1 n1 _ D1 _ hown).mono ?_; rintro e w2 ⟨rfl, hc1, hc2, hc3, hc4⟩)
      obtain ⟨w3, hr1, ⟨cnt, hcnt, hrg⟩, hg3, hs3⟩ := range_bool hc2 hD h68
      rw [hr1]
      simp only [Result.andThen]
      rw [Oper.upon_value]
      go_wp2
      have hB2 : Below w.heap.size w w2 := hB.trans (hc3.mono hB.size)
      have hB3 : Below w.heap.size w w3 := hB2.grown hg3 hB2.size (fun k e => by cases e)
      have hn7 : n1 ≤ 16807 := Nat.le_trans hn (Nat.le_trans (Nat.pow_le_pow_right (by omega) (show k ≤ 5 by omega)) (by omega))
      have hc1' := hc1.kept hg3 (by simp)
      rw [hc4] at hrg
      go_frame
      go_loopw [9] (fun _ wr2 => ∃ (left : Int → Bool) (cnt n2 : Nat) (D2 : DU), RangeB wr2 b1 (wo.heap.size + 1) n1 D1 left cnt ∧ wr2.ownsMap Try.prog 3 (plainElem Try.prog 4) wo.heap.size n2 D2 ∧ IsB D2 (part zs (rs zs k) left) ∧ n2 + 6 * cnt ≤ 7 * n1 ∧ (∀ x, left x = true → rs zs k x = true) ∧ Below w.heap.size w wr2)
        (fun _ wr2 => wr2.rangeLeft b1 (wo.heap.size + 1))
      case atStart => exact ⟨_, cnt, n1, D1, hrg, hc1', hD.congr fun x => (part_start zs _ x).symm, by omega, fun x h => h, hB3⟩
      case round =>
        obtain ⟨left, cnt2, n2, D2, hrg2, hown2, hD2, hn2, hlf, hBr⟩ := hrel
        obtain ⟨wi, rfl⟩ : ∃ wi, wi = wr := ⟨wr, rfl⟩
        rcases next_bool hrg2 hD 0 with ⟨h0, hl0, hrun⟩ | ⟨x, w4, cnt', hx, hlx, hrun, hrg4, hlt4, hg4, hs4, hen⟩
        · go_wp2
          have hd := hB.size
          refine ⟨⟨k + 1, wo.heap.size, n2, D2, by omega, by simp, rfl, hB.size, hown2, hD2.congr fun y => part_end (fun z hz => ?_) y, by rw [Nat.pow_succ]; omega, hBr⟩, by simp [intOf]; omega⟩
          obtain ⟨hz0, hz1⟩ := rs_bound hcc k z hz
          exact hl0 z (inR_of (by omega) (by omega))
        · have hne := hrg2.ne
          go_wp2
          have hfx := hlf x hlx
          have hb1lt := hown.lt
          obtain ⟨hx0, hx1⟩ := rs_bound hcc k x hfx
          have hown4 := hown2.kept hg4 (by simp)
          have hB4 : Below w.heap.size w w4 := hBr.grown hg4 hBr.size (fun j e => by cases e; have := hB.size; omega)
          have hBc : ∀ j (h : j < zs.length), ∀ W, Below w.heap.size w W → W.cell? ⟨b, off + j, none⟩ = some (.int .i64 zs[j]) := fun j h W hW => (hW.cell (p := ⟨b, off + j, none⟩) hb).trans (hcs j h)
          go_loopw [41] (fun i wr3 => ∃ (j n3 : Nat) (D3 : DU), j ≤ zs.length ∧ i = .int .i64 j ∧ RangeB wr3 b1 (wo.heap.size + 1) n1 D1 (fun y => left y && !(y == x)) cnt' ∧ wr3.ownsMap Try.prog 3 (plainElem Try.prog 4) wo.heap.size n3 D3 ∧
              IsB D3 (addS (zs.take j) x (part zs (rs zs k) left)) ∧ n3 ≤ n2 + j ∧ Below w.heap.size w wr3)
            (fun i _ => zs.length - (intOf i).toNat)
          case atStart => exact ⟨0, n2, D2, Nat.zero_le _, rfl, hrg4, hown4, hD2.congr fun y => by simp [addS], by omega, hB4⟩
          case round =>
            obtain ⟨j, n3, D3, hj, rfl, hrg5, hown5, hD3, hn3, hB5⟩ := hrel
            by_cases hjl : j < zs.length
            · have hcell := hBc j hjl wr hB5
              have hcj := hcc zs[j] (List.getElem_mem _)
              obtain ⟨w6, hput, hown6, hg6⟩ := put_bool hown5 h68 (by unfold maxLen; omega) (x := x + zs[j]) (inR_of (by omega) (by omega))
              go_wp2
              have hB6 : Below w.heap.size w w6 := hB5.grown hg6 hB5.size (fun q e => by cases e; exact hB.size)
              refine ⟨⟨j + 1, n3 + 1, _, by omega, by simp, hrg5.kept hg6 (by simp; omega) (by simp), hown6, (hD3.put (x + zs[j])).congr fun y => ?_, by omega, hB6⟩, by simp [intOf]; omega⟩
              rw [List.take_succ_eq_append_getElem hjl, ← addS_snoc]
            · obtain rfl : j = zs.length := by omega
              rw [List.take_of_length_le (Nat.le_refl _)] at hD3
              go_wp2
              refine ⟨⟨_, cnt', n3, D3, hrg5, hown5, hD3.congr fun y => part_step hfx y, by omega, fun y hy => ?_, hB5⟩, ?_⟩
              · rw [Bool.and_eq_true] at hy
                exact hlf y hy.1
              · rw [hrg5.left_eq, hrg2.left_eq]
                exact hlt4
    · obtain rfl : k = many := by omega
      go_wp2
      go_loopw [12] (fun v wr2 => ∃ t : Nat, v = .int .i64 t ∧ t ≤ 200 ∧ wr2 = wo ∧ upTo (rs zs k) (300 - t) t = upTo (rs zs k) 300 0) (fun v _ => 300 - (intOf v).toNat)
      case atStart => exact ⟨0, rfl, by omega, rfl, rfl⟩
      case round =>
        obtain ⟨t, rfl, ht, rfl, hup⟩ := hrel
        have hlk := look_bool hown hD h68 (x := (t : Int) + 1) (inR_of (by omega) (by omega))
        rw [show 300 - t = (299 - t) + 1 by omega, upTo] at hup
        cases hf : rs zs k ((t : Int) + 1) with
        | true =>
          rw [hf] at hlk hup
          obtain ⟨_, hb2⟩ := rs_bound hcc k _ hf
          go_wp2
          refine ⟨⟨t + 1, by simp, by omega, by simp, ?_⟩, by simp [intOf]; omega⟩
          rw [← hup]
          rw [show 300 - (t + 1) = 299 - t by omega]
          simp
        | false =>
          rw [hf] at hlk hup
          go_wp2
          go_ret2
          exact ⟨by rw [← hup]; rfl, hB⟩
set_option maxHeartbeats 1000000 in
theorem reach_err (e : Int) (he : e ≠ 0) (v0 : Value) (m : Int) (w : World) (hck : Calls Try.prog 25 #[v0] w fun x w' => x = .returned (.int .i64 e) ∧ Below w.heap.size w w') :
    Calls Try.prog 35 #[v0, .int .i64 m] w fun x w' => x = .returned (.tuple #[.int .i64 0, .int .i64 e]) ∧ Below w.heap.size w w' := by
  go_enter Try.func35, Try.ntmps35
  go_wp2_with (go_at_call 25; refine hck.mono ?_; rintro e w1 ⟨rfl, hB1⟩)
  go_ret2
  exact ⟨rfl, hB1⟩
set_option maxHeartbeats 1000000 in
theorem reach_range (v0 : Value) (m : Int) (w : World) (hm : m < 0 ∨ m > 5) (hck : Calls Try.prog 25 #[v0] w fun x w' => x = .returned (.int .i64 0) ∧ Below w.heap.size w w') :
    Calls Try.prog 35 #[v0, .int .i64 m] w fun x w' => x = .returned (.tuple #[.int .i64 0, .int .i64 1]) ∧ Below w.heap.size w w' := by
  have hd : (decide (m < 0) || decide (5 < m)) = true := by simpa using hm
  go_enter Try.func35, Try.ntmps35
  go_wp2_with (go_at_call 25; refine hck.mono ?_; rintro e w1 ⟨rfl, hB1⟩)
  all_goals first | (go_ret2; exact ⟨rfl, hB1⟩) | trace_state
open Go.Vi
theorem HC35 (n : Nat × Nat) (xs : pksDen [.c (.sl (.int .i64)), .c (.int .i64)]) (r : rksDen [.c (.int .i64) 0, .c (.int .i64) 0]) (h : HF35 (S25 n) xs.1 xs.2.1 = some r) (vs : List V) (hv : pksArg [.c (.sl (.int .i64)), .c (.int .i64)] vs = some xs) :
    FC Try.prog 35 vs (rets [.c (.int .i64) 0, .c (.int .i64) 0] r) := by
  obtain ⟨zs, m, ⟨⟩⟩ := xs
  unfold HF35 at h
  obtain ⟨e, he, h⟩ := Option.bind_eq_some_iff.1 h
  intro w A0 args hA hargs
  have hv2 := pksArg_VR _ _ _ _ hv hargs
  match args, hv2 with
  | [v0, v1], ⟨g0, g1, _⟩ =>
    have g1 : v1 = .int .i64 m := g1
    subst g1
    have hck := call_list (rk := []) (FC25 n) (zs := zs) he hA g0 (Below.refl _ w)
    have fin : ∀ {x y : Int} {e' : Ending} {W' : World}, e' = .returned (.tuple #[.int .i64 x, .int .i64 y]) ∧ Below w.heap.size w W' →
        (match e', W' with | .returned u, w' => Grows w w' ∧ RetR w w' A0 (rets [.c (.int .i64) 0, .c (.int .i64) 0] (x, y)) u | _, _ => False) := by
      rintro x y e' W' ⟨rfl, hB⟩
      exact ⟨Grows.of_below hB, [.emp, .emp], [_, _], rfl, rfl, fun b c h => (by cases h), rfl, fun b c h => (by cases h), trivial⟩
    cases hz : e != 0 with
    | true =>
      rw [hz] at h
      cases h
      exact (reach_err e (by simpa using hz) v0 m w hck).mono fun _ _ h => fin h
    | false =>
      rw [hz] at h
      have hz : e = 0 := by simpa using hz
      subst hz
      simp only [cond_false] at h
      cases hm : decide (m < 0) || decide (m > 5) with
      | true =>
        rw [hm] at h
        cases h
        exact (reach_range v0 m w (by simpa using hm) hck).mono fun _ _ h => fin h
      | false =>
        rw [hm] at h
        simp only [cond_false] at h
        obtain ⟨hd, h⟩ := cond_some h rfl
        cases h
        simp only [Bool.and_eq_true, decide_eq_true_eq, List.all_eq_true, Bool.or_eq_false_iff, decide_eq_false_iff_not] at hd hm
        obtain ⟨hc, hl0, hl1⟩ := hd
        obtain ⟨b, off, cap, rfl, hb, hcs⟩ := CR_ints (zs := zs) (t := false) g0 hl0 hA
        obtain ⟨k, rfl⟩ := Int.eq_ofNat_of_zero_le (Int.not_lt.1 hm.1)
        have hk : ¬ ((k : Int) > 5) := hm.2
        exact (reach_walk b off cap zs k (by omega) w hb hcs hl1 hc hck).mono fun _ _ h => fin h
end Go.Proofs.Ytjgmfdgpgdaclaa
set_option linter.unusedVariables false
set_option linter.unusedSimpArgs false
set_option maxRecDepth 100000
namespace Go.Proofs.Ytjgmfdgpgdaclaa
open Go.Vi
abbrev R35 := Int × Int
def pk35 : List PK := [.c (.sl (.int .i64)), .c (.int .i64)]
def rk35 : List RK := [.c (.int .i64) 0, .c (.int .i64) 0]
noncomputable def S35 (n : Nat × Nat) (coins0 : List Int) (many1 : Int) : Option R35 := HF35 (S25 n) coins0 many1
noncomputable def P35 (n : Nat × Nat) := phiOf pk35 rk35 (fun xs => S35 n xs.1 xs.2.1)
theorem call35 : CallOK Try.prog 35 := callOK_of Try.func35 (by kernel_rfl) (by kernel_rfl)
theorem FC35 (n : Nat × Nat) : FCs Try.prog 35 (P35 n) := phiOf_FCs fun xs r h vs hv => HC35 n xs r h vs hv
abbrev R39 := Int × Int × Int
noncomputable def c39 : Code := bodyOf Try.f39
noncomputable def an39 : Ann := (.s .l (.s (.s .l (.s .l (.j [0, 1, 5, 61, 62, 63, 64, 65, 66, 67] .l .l))) (.s .l (.s .l (.s .l (.s (.s .l (.j [4, 5] (.j [1, 4, 5, 9, 38, 39, 40, 61, 62, 63, 64, 65, 66, 67] (.s .l (.s (.j [1, 4, 5, 9, 38, 39, 40, 61, 62, 63, 64, 65, 66, 67] .l .l) (.j [] (.j [1, 4, 5, 9, 38, 39, 40, 61, 62, 63, 64, 65, 66, 67] (.s .l (.s .l (.s .l (.s .l (.j [1, 4, 5, 9, 38, 39, 40, 61, 62, 63, 64, 65, 66, 67] .l .l))))) .l) .l))) .l) .l)) .l))))))
def pk39 : List PK := [.c (.sl (.int .i64)), .c (.int .i64)]
def rk39 : List RK := [.c (.int .i64) 4, .c (.int .i64) 5, .c (.int .i64) 6]
noncomputable def rt39 (st : St) : Option R39 := rtG rk39 st
noncomputable def E39 (n : Nat × Nat) : Env := { T := tab, phi := (consPhi 56 (fun _ => true) (P56 n) (consPhi 57 (fun _ => true) (P57 n) noPhi)), eff := fun _ => false, fuel := n.1, hold := n.2 }
noncomputable def kq39_3 (n : Nat × Nat) : St → Option R39 := run (E39 n) (cB (cB (cB (cB (cB (cB c39)))))) (Ann.snd (Ann.snd (Ann.snd (Ann.snd (Ann.snd (Ann.snd an39)))))) rt39 (fun _ _ => none) rt39
noncomputable def xb39_5 (n : Nat × Nat) : Nat → St → Option R39 := fun j s => bif Nat.beq j 0 then normC [4, 5] s (kq39_3 n) else (fun _ _ => none) j s
noncomputable def F39_6 (n : Nat × Nat) : (St → Option R39) → St → Option R39 := fun K s => run (E39 n) (cA (cA (cB (cA (cB (cB (cB (cB (cB c39))))))))) (Ann.fst (Ann.fst (Ann.snd (Ann.fst (Ann.snd (Ann.snd (Ann.snd (Ann.snd (Ann.snd an39))))))))) (fun s => normC [1, 4, 5, 9, 38, 39, 40, 61, 62, 63, 64, 65, 66, 67] s K) (xb39_5 n) rt39 s
noncomputable def kq39_9 (n : Nat × Nat) (m1 : Nat) : St → Option R39 := run (E39 n) (cB (cB (cB (cA (cA (cB (cA (cB (cB (cB (cB (cB c39)))))))))))) (Ann.snd (Ann.snd (Ann.snd (Ann.fst (Ann.fst (Ann.snd (Ann.fst (Ann.snd (Ann.snd (Ann.snd (Ann.snd (Ann.snd an39)))))))))))) (fun s => normC [1, 4, 5, 9, 38, 39, 40, 61, 62, 63, 64, 65, 66, 67] s (loopN (F39_6 n) m1)) (xb39_5 n) rt39
noncomputable def L39_1 (n : Nat × Nat) (m : Nat) (sum1 : Int) (pay4 : Int) (back5 : Int) (v38o : Nat) (v38w : Nat) (v39 : Int) (v40 : Int) (l9 : List Int) : Option R39 := loopN (F39_6 n) m { tm := [uu, .c (.int .i64 sum1), uu, uu, .c (.int .i64 pay4), .c (.int .i64 back5), uu, uu, uu, .own 9 none false, uu, uu, uu, uu, uu, uu, uu, uu, uu, uu, uu, uu, uu, uu, uu, uu, uu, uu, uu, uu, uu, uu, uu, uu, uu, uu, uu, uu, .own 9 (some (v38o, v38w)) false, .c (.int .i64 v39), .c (.int .i64 v40), uu, uu, uu, uu, uu, uu, uu, uu, uu, uu, uu, uu, uu, uu, uu, uu, uu, uu, uu, uu, uu, uu, uu, uu, uu, uu, uu, uu, uu, uu, uu, uu, uu], hp := (upd emp 9 (.arr (.int .i64) l9 false)) }
noncomputable def L39_2 (n : Nat × Nat) (m1 : Nat) (sum1 : Int) (pay4 : Int) (back5 : Int) (v38o : Nat) (v38w : Nat) (v39 : Int) (v40 : Int) (l9 : List Int) : Option R39 := loopN (fun _ => (kq39_9 n m1)) n.2 { tm := [uu, .c (.int .i64 sum1), uu, uu, .c (.int .i64 pay4), .c (.int .i64 back5), uu, uu, uu, .own 9 none false, uu, uu, uu, uu, uu, uu, uu, uu, uu, uu, uu, uu, uu, uu, uu, uu, uu, uu, uu, uu, uu, uu, uu, uu, uu, uu, uu, uu, .own 9 (some (v38o, v38w)) false, .c (.int .i64 v39), .c (.int .i64 v40), uu, uu, uu, uu, uu, uu, uu, uu, uu, uu, uu, uu, uu, uu, uu, uu, uu, uu, uu, uu, uu, uu, uu, uu, uu, uu, uu, uu, uu, uu, uu, uu, uu], hp := (upd emp 9 (.arr (.int .i64) l9 false)) }
theorem L39_1_eq (n : Nat × Nat) (m1 : Nat) (sum1 : Int) (pay4 : Int) (back5 : Int) (v38o : Nat) (v38w : Nat) (v39 : Int) (v40 : Int) (l9 : List Int) : L39_1 n (m1 + 1) sum1 pay4 back5 v38o v38w v39 v40 l9 =
 (bif decide (v40 < v39) then (bif inB v40 ((l9.drop v38o).take v38w).length then (idx ((l9.drop v38o).take v38w) v40).bind fun x5' =>
 (bif inB (wr .i64 (sum1 + v40)) l9.length then (idx l9 (wr .i64 (sum1 + v40))).bind fun x6' =>
 ((bif (decide (wr .i64 ((wr .i64 ((wr .i64 (x6' + x5')) - pay4)) - back5) < 0) == false) then ((bif (((wr .i64 ((wr .i64 ((wr .i64 (x6' + x5')) - pay4)) - back5)) == 0) == true) then some (decide (x5' < back5))
 else some false)).bind fun b7' =>
 some b7'
 else some true)).bind fun b8' =>
 (bif b8' then L39_2 n m1 sum1 x6' x5' v38o v38w v39 v40 l9
 else L39_2 n m1 sum1 pay4 back5 v38o v38w v39 v40 l9)
 else none)
 else none)
 else some (pay4, back5, 0)) := by kernel_rfl
theorem L39_2_raw (n : Nat × Nat) (m1 : Nat) (sum1 : Int) (pay4 : Int) (back5 : Int) (v38o : Nat) (v38w : Nat) (v39 : Int) (v40 : Int) (l9 : List Int) : (kq39_9 n m1) { tm := [uu, .c (.int .i64 sum1), uu, uu, .c (.int .i64 pay4), .c (.int .i64 back5), uu, uu, uu, .own 9 none false, uu, uu, uu, uu, uu, uu, uu, uu, uu, uu, uu, uu, uu, uu, uu, uu, uu, uu, uu, uu, uu, uu, uu, uu, uu, uu, uu, uu, .own 9 (some (v38o, v38w)) false, .c (.int .i64 v39), .c (.int .i64 v40), uu, uu, uu, uu, uu, uu, uu, uu, uu, uu, uu, uu, uu, uu, uu, uu, uu, uu, uu, uu, uu, uu, uu, uu, uu, uu, uu, uu, uu, uu, uu, uu, uu], hp := (upd emp 9 (.arr (.int .i64) l9 false)) } =
    L39_1 n m1 sum1 pay4 back5 v38o v38w v39 (wr .i64 (v40 + 1)) l9 := by kernel_rfl
noncomputable def S39 (n : Nat × Nat) (coins0 : List Int) (sum1 : Int) : Option R39 := run (E39 n) c39 an39 rt39 (fun _ _ => none) rt39 { tm := [.c (.sl (.int .i64) coins0 false), .c (.int .i64 sum1), uu, uu, uu, uu, uu, uu, uu, uu, uu, uu, uu, uu, uu, uu, uu, uu, uu, uu, uu, uu, uu, uu, uu, uu, uu, uu, uu, uu, uu, uu, uu, uu, uu, uu, uu, uu, uu, uu, uu, uu, uu, uu, uu, uu, uu, uu, uu, uu, uu, uu, uu, uu, uu, uu, uu, uu, uu, uu, uu, uu, uu, uu, uu, uu, uu, uu, uu, uu, uu, uu, uu, uu], hp := emp }
theorem S39_eq (n : Nat × Nat) (coins0 : List Int) (sum1 : Int) : S39 n coins0 sum1 =
 (S56 n coins0 sum1).bind fun r1' =>
 (bif (r1' != 0) then some (0, 0, r1')
 else (idx coins0 (wr .i64 ((coins0.length : Int) - 1))).bind fun x2' =>
 (S57 n coins0 (wr .i64 (sum1 + x2'))).bind fun r3' =>
 (bif inB sum1 r3'.length then (idx r3' sum1).bind fun x4' =>
 (bif bounds none (some (wr .i64 (x2' + 1))) none r3'.length then L39_1 n n.1 sum1 x4' 0 (0 + 0) ((Int.toNat (wr .i64 (x2' + 1))) - 0) (((r3'.drop (0 + 0)).take ((Int.toNat (wr .i64 (x2' + 1))) - 0)).length : Int) 0 r3'
 else none)
 else none)) := by kernel_rfl
theorem S39_run (n : Nat × Nat) (xs : pksDen pk39) : S39 n xs.1 xs.2.1 = runG (E39 n) noScope c39 an39 (rtG rk39) (fun _ _ => none) (rtG rk39) (st0 pk39 xs Try.f39.ntmps) := by kernel_rfl
noncomputable def P39 (n : Nat × Nat) := phiOf pk39 rk39 (fun xs => S39 n xs.1 xs.2.1)
theorem call39 : CallOK Try.prog 39 := callOK_of Try.func39 (by kernel_rfl) (by kernel_rfl)
theorem env39 (n : Nat × Nat) : EnvOK Try.prog (E39 n) := envOK0 (consPhi_ok (FC56 n) call56 (consPhi_ok (FC57 n) call57 noPhi_ok)) rfl rfl
theorem par39 (n : Nat × Nat) : EnvPar (E39 n) := envPar0 (consPhi_par phiOf_Par1 (consPhi_par phiOf_Par1 noPhi_par)) rfl
theorem FC39 (n : Nat × Nat) : FCs Try.prog 39 (P39 n) := phiOf_FCs fun xs r h vs hv => FC.of_runG tabOK eqsOK (env39 n) (par39 n) mixed (fun _ => noScope_ok) Try.func39 (c := c39) (an := an39) (pks := pk39) (rks := rk39) (by kernel_rfl) (by kernel_rfl) hv ((S39_run n xs).symm.trans h)
/- slices.Min[[]int,int] -/
abbrev R75 := Int
noncomputable def c75 : Code := bodyOf Try.f75
noncomputable def an75 : Ann := (.s .l (.s (.s .l (.j [0] .l .l)) (.s .l (.s (.s .l (.j [3] (.j [0, 3, 4] (.s (.s .l (.j [0, 3, 4] .l .l)) (.s (.j [0, 3, 4] .l .l) .l)) .l) .l)) .l))))
def pk75 : List PK := [.c (.sl (.int .i64))]
def rk75 : List RK := [.c (.int .i64) 2]
noncomputable def rt75 (st : St) : Option R75 := rtG rk75 st
noncomputable def E75 (n : Nat × Nat) : Env := { T := tab, phi := noPhi, eff := fun _ => false, fuel := n.1, hold := n.2 }
noncomputable def kq75_3 (n : Nat × Nat) : St → Option R75 := run (E75 n) (cB (cB (cB (cB c75)))) (Ann.snd (Ann.snd (Ann.snd (Ann.snd an75)))) rt75 (fun _ _ => none) rt75
noncomputable def xb75_5 (n : Nat × Nat) : Nat → St → Option R75 := fun j s => bif Nat.beq j 0 then normC [3] s (kq75_3 n) else (fun _ _ => none) j s
noncomputable def F75_6 (n : Nat × Nat) : (St → Option R75) → St → Option R75 := fun K s => run (E75 n) (cA (cA (cB (cA (cB (cB (cB c75))))))) (Ann.fst (Ann.fst (Ann.snd (Ann.fst (Ann.snd (Ann.snd (Ann.snd an75))))))) (fun s => normC [0, 3, 4] s K) (xb75_5 n) rt75 s
noncomputable def L75_1 (n : Nat × Nat) (m : Nat) (x0 : List Int) (m3 : Int) (i4 : Int) : Option R75 := loopN (F75_6 n) m { tm := [.c (.sl (.int .i64) x0 false), uu, uu, .c (.int .i64 m3), .c (.int .i64 i4), uu, uu, uu, uu, uu, uu, uu, uu, uu, uu, uu, uu, uu, uu, uu, uu, uu, uu, uu, uu], hp := emp }
theorem L75_1_eq (n : Nat × Nat) (m1 : Nat) (x0 : List Int) (m3 : Int) (i4 : Int) : L75_1 n (m1 + 1) x0 m3 i4 =
 (bif decide (i4 < (x0.length : Int)) then (idx x0 i4).bind fun x2' =>
      L75_1 n m1 x0 (if x2' < m3 then x2' else m3) (wr .i64 (i4 + 1))
 else some m3) := by kernel_rfl
noncomputable def S75 (n : Nat × Nat) (x0 : List Int) : Option R75 := run (E75 n) c75 an75 rt75 (fun _ _ => none) rt75 { tm := [.c (.sl (.int .i64) x0 false), uu, uu, uu, uu, uu, uu, uu, uu, uu, uu, uu, uu, uu, uu, uu, uu, uu, uu, uu, uu, uu, uu, uu, uu], hp := emp }
theorem S75_eq (n : Nat × Nat) (x0 : List Int) : S75 n x0 =
 (bif decide ((x0.length : Int) < 1) then none
 else (idx x0 0).bind fun x1' =>
      L75_1 n n.1 x0 x1' 1) := by kernel_rfl
theorem S75_run (n : Nat × Nat) (xs : pksDen pk75) : S75 n xs.1 = runG (E75 n) noScope c75 an75 (rtG rk75) (fun _ _ => none) (rtG rk75) (st0 pk75 xs Try.f75.ntmps) := by kernel_rfl
noncomputable def P75 (n : Nat × Nat) := phiOf pk75 rk75 (fun xs => S75 n xs.1)
theorem call75 : CallOK Try.prog 75 := callOK_of Try.func75 (by kernel_rfl) (by kernel_rfl)
theorem env75 (n : Nat × Nat) : EnvOK Try.prog (E75 n) := envOK0 noPhi_ok rfl rfl
theorem par75 (n : Nat × Nat) : EnvPar (E75 n) := envPar0 noPhi_par rfl
theorem FC75 (n : Nat × Nat) : FCs Try.prog 75 (P75 n) := phiOf_FCs fun xs r h vs hv => FC.of_runG tabOK eqsOK (env75 n) (par75 n) mixed (fun _ => noScope_ok) Try.func75 (c := c75) (an := an75) (pks := pk75) (rks := rk75) (by kernel_rfl) (by kernel_rfl) hv ((S75_run n xs).symm.trans h)
/- slices.Max[[]int,int] -/
abbrev R76 := Int
noncomputable def c76 : Code := bodyOf Try.f76
noncomputable def an76 : Ann := (.s .l (.s (.s .l (.j [0] .l .l)) (.s .l (.s (.s .l (.j [3] (.j [0, 3, 4] (.s (.s .l (.j [0, 3, 4] .l .l)) (.s (.j [0, 3, 4] .l .l) .l)) .l) .l)) .l))))
def pk76 : List PK := [.c (.sl (.int .i64))]
def rk76 : List RK := [.c (.int .i64) 2]
noncomputable def rt76 (st : St) : Option R76 := rtG rk76 st
noncomputable def E76 (n : Nat × Nat) : Env := { T := tab, phi := noPhi, eff := fun _ => false, fuel := n.1, hold := n.2 }
noncomputable def kq76_3 (n : Nat × Nat) : St → Option R76 := run (E76 n) (cB (cB (cB (cB c76)))) (Ann.snd (Ann.snd (Ann.snd (Ann.snd an76)))) rt76 (fun _ _ => none) rt76
noncomputable def xb76_5 (n : Nat × Nat) : Nat → St → Option R76 := fun j s => bif Nat.beq j 0 then normC [3] s (kq76_3 n) else (fun _ _ => none) j s
noncomputable def F76_6 (n : Nat × Nat) : (St → Option R76) → St → Option R76 := fun K s => run (E76 n) (cA (cA (cB (cA (cB (cB (cB c76))))))) (Ann.fst (Ann.fst (Ann.snd (Ann.fst (Ann.snd (Ann.snd (Ann.snd an76))))))) (fun s => normC [0, 3, 4] s K) (xb76_5 n) rt76 s
noncomputable def L76_1 (n : Nat × Nat) (m : Nat) (x0 : List Int) (m3 : Int) (i4 : Int) : Option R76 := loopN (F76_6 n) m { tm := [.c (.sl (.int .i64) x0 false), uu, uu, .c (.int .i64 m3), .c (.int .i64 i4), uu, uu, uu, uu, uu, uu, uu, uu, uu, uu, uu, uu, uu, uu, uu, uu, uu, uu, uu, uu], hp := emp }
theorem L76_1_eq (n : Nat × Nat) (m1 : Nat) (x0 : List Int) (m3 : Int) (i4 : Int) : L76_1 n (m1 + 1) x0 m3 i4 =
 (bif decide (i4 < (x0.length : Int)) then (idx x0 i4).bind fun x2' =>
      L76_1 n m1 x0 (if x2' > m3 then x2' else m3) (wr .i64 (i4 + 1))
 else some m3) := by kernel_rfl
noncomputable def S76 (n : Nat × Nat) (x0 : List Int) : Option R76 := run (E76 n) c76 an76 rt76 (fun _ _ => none) rt76 { tm := [.c (.sl (.int .i64) x0 false), uu, uu, uu, uu, uu, uu, uu, uu, uu, uu, uu, uu, uu, uu, uu, uu, uu, uu, uu, uu, uu, uu, uu, uu], hp := emp }
theorem S76_eq (n : Nat × Nat) (x0 : List Int) : S76 n x0 =
 (bif decide ((x0.length : Int) < 1) then none
 else (idx x0 0).bind fun x1' =>
      L76_1 n n.1 x0 x1' 1) := by kernel_rfl
theorem S76_run (n : Nat × Nat) (xs : pksDen pk76) : S76 n xs.1 = runG (E76 n) noScope c76 an76 (rtG rk76) (fun _ _ => none) (rtG rk76) (st0 pk76 xs Try.f76.ntmps) := by kernel_rfl
noncomputable def P76 (n : Nat × Nat) := phiOf pk76 rk76 (fun xs => S76 n xs.1)
theorem call76 : CallOK Try.prog 76 := callOK_of Try.func76 (by kernel_rfl) (by kernel_rfl)
theorem env76 (n : Nat × Nat) : EnvOK Try.prog (E76 n) := envOK0 noPhi_ok rfl rfl
theorem par76 (n : Nat × Nat) : EnvPar (E76 n) := envPar0 noPhi_par rfl
theorem FC76 (n : Nat × Nat) : FCs Try.prog 76 (P76 n) := phiOf_FCs fun xs r h vs hv => FC.of_runG tabOK eqsOK (env76 n) (par76 n) mixed (fun _ => noScope_ok) Try.func76 (c := c76) (an := an76) (pks := pk76) (rks := rk76) (by kernel_rfl) (by kernel_rfl) hv ((S76_run n xs).symm.trans h)
abbrev R68 := Int
noncomputable def c68 : Code := bodyOf Try.f68
noncomputable def an68 : Ann := (.s .l (.s (.j [] (.s .l (.j [] .l (.s .l (.j [] .l .l)))) .l) .l))
def pk68 : List PK := [.c (.sl (.int .i64)), .c (.sl (.int .i64))]
def rk68 : List RK := [.c (.int .i64) 4]
noncomputable def rt68 (st : St) : Option R68 := rtG rk68 st
noncomputable def E68 (n : Nat × Nat) : Env := { T := tab, phi := (consPhi 75 (fun _ => true) (P75 n) (consPhi 76 (fun _ => true) (P76 n) noPhi)), eff := fun _ => false, fuel := n.1, hold := n.2 }
noncomputable def S68 (n : Nat × Nat) (coins0 : List Int) (l1 : List Int) : Option R68 := run (E68 n) c68 an68 rt68 (fun _ _ => none) rt68 { tm := [.c (.sl (.int .i64) coins0 false), .c (.sl (.int .i64) l1 false), uu, uu, uu, uu, uu, uu, uu, uu, uu, uu, uu, uu, uu, uu, uu, uu, uu, uu], hp := emp }
theorem S68_eq (n : Nat × Nat) (coins0 : List Int) (l1 : List Int) : S68 n coins0 l1 =
 (bif ((l1.length : Int) != (coins0.length : Int)) then some 5
 else (S75 n l1).bind fun r1' =>
 ((bif (decide (r1' < 0) == false) then (S76 n l1).bind fun r2' =>
 some (decide (r2' > 200))
 else some true)).bind fun b3' =>
 (bif b3' then some 1
 else some 0)) := by kernel_rfl
theorem S68_run (n : Nat × Nat) (xs : pksDen pk68) : S68 n xs.1 xs.2.1 = runG (E68 n) noScope c68 an68 (rtG rk68) (fun _ _ => none) (rtG rk68) (st0 pk68 xs Try.f68.ntmps) := by kernel_rfl
noncomputable def P68 (n : Nat × Nat) := phiOf pk68 rk68 (fun xs => S68 n xs.1 xs.2.1)
theorem call68 : CallOK Try.prog 68 := callOK_of Try.func68 (by kernel_rfl) (by kernel_rfl)
theorem env68 (n : Nat × Nat) : EnvOK Try.prog (E68 n) := envOK0 (consPhi_ok (FC75 n) call75 (consPhi_ok (FC76 n) call76 noPhi_ok)) rfl rfl
theorem par68 (n : Nat × Nat) : EnvPar (E68 n) := envPar0 (consPhi_par phiOf_Par1 (consPhi_par phiOf_Par1 noPhi_par)) rfl
theorem FC68 (n : Nat × Nat) : FCs Try.prog 68 (P68 n) := phiOf_FCs fun xs r h vs hv => FC.of_runG tabOK eqsOK (env68 n) (par68 n) mixed (fun _ => noScope_ok) Try.func68 (c := c68) (an := an68) (pks := pk68) (rks := rk68) (by kernel_rfl) (by kernel_rfl) hv ((S68_run n xs).symm.trans h)
/- math/bits.Mul32 -/
abbrev R79 := Int × Int
noncomputable def c79 : Code := bodyOf Try.f79
noncomputable def an79 : Ann := .l
def pk79 : List PK := [.c (.int .u32), .c (.int .u32)]
def rk79 : List RK := [.c (.int .u32) 4, .c (.int .u32) 5]
noncomputable def rt79 (st : St) : Option R79 := rtG rk79 st
noncomputable def E79 (n : Nat × Nat) : Env := { T := tab, phi := noPhi, eff := fun _ => false, fuel := n.1, hold := n.2 }
noncomputable def S79 (n : Nat × Nat) (x0 : Int) (y1 : Int) : Option R79 := run (E79 n) c79 an79 rt79 (fun _ _ => none) rt79 { tm := [.c (.int .u32 x0), .c (.int .u32 y1), uu, uu, uu, uu, uu, uu, uu, uu, uu, uu, uu, uu, uu, uu, uu], hp := emp }
theorem S79_eq (n : Nat × Nat) (x0 : Int) (y1 : Int) : S79 n x0 y1 =
 (bif decide (32 < 0) then none
 else some (wr .u32 (Int.fdiv (wr .u64 ((wr .u64 x0) * (wr .u64 y1))) (2 ^ (min (Int.toNat 32) (IntKind.bits .u64)))), wr .u32 (wr .u64 ((wr .u64 x0) * (wr .u64 y1))))) := by kernel_rfl
theorem S79_run (n : Nat × Nat) (xs : pksDen pk79) : S79 n xs.1 xs.2.1 = runG (E79 n) noScope c79 an79 (rtG rk79) (fun _ _ => none) (rtG rk79) (st0 pk79 xs Try.f79.ntmps) := by kernel_rfl
noncomputable def P79 (n : Nat × Nat) := phiOf pk79 rk79 (fun xs => S79 n xs.1 xs.2.1)
theorem call79 : CallOK Try.prog 79 := callOK_of Try.func79 (by kernel_rfl) (by kernel_rfl)
theorem env79 (n : Nat × Nat) : EnvOK Try.prog (E79 n) := envOK0 noPhi_ok rfl rfl
theorem par79 (n : Nat × Nat) : EnvPar (E79 n) := envPar0 noPhi_par rfl
theorem FC79 (n : Nat × Nat) : FCs Try.prog 79 (P79 n) := phiOf_FCs fun xs r h vs hv => FC.of_runG tabOK eqsOK (env79 n) (par79 n) mixed (fun _ => noScope_ok) Try.func79 (c := c79) (an := an79) (pks := pk79) (rks := rk79) (by kernel_rfl) (by kernel_rfl) hv ((S79_run n xs).symm.trans h)
/- math/bits.Mul64 -/
abbrev R80 := Int × Int
noncomputable def c80 : Code := bodyOf Try.f80
noncomputable def an80 : Ann := .l
def pk80 : List PK := [.c (.int .u64), .c (.int .u64)]
def rk80 : List RK := [.c (.int .u64) 4, .c (.int .u64) 5]
noncomputable def rt80 (st : St) : Option R80 := rtG rk80 st
noncomputable def E80 (n : Nat × Nat) : Env := { T := tab, phi := noPhi, eff := fun _ => false, fuel := n.1, hold := n.2 }
noncomputable def S80 (n : Nat × Nat) (x0 : Int) (y1 : Int) : Option R80 := run (E80 n) c80 an80 rt80 (fun _ _ => none) rt80 { tm := [.c (.int .u64 x0), .c (.int .u64 y1), uu, uu, uu, uu, uu, uu, uu, uu, uu, uu, uu, uu, uu, uu, uu, uu, uu, uu, uu, uu, uu, uu, uu, uu, uu, uu, uu, uu, uu, uu, uu, uu, uu, uu, uu, uu, uu, uu, uu, uu, uu, uu, uu, uu, uu, uu, uu, uu, uu], hp := emp }
theorem S80_eq (n : Nat × Nat) (x0 : Int) (y1 : Int) : S80 n x0 y1 =
 (bif decide (32 < 0) then none
 else (bif decide (32 < 0) then none
 else (bif decide (32 < 0) then none
 else (bif decide (32 < 0) then none
 else (bif decide (32 < 0) then none
 else some (wr .u64 ((wr .u64 ((wr .u64 ((Int.fdiv x0 (2 ^ (min (Int.toNat 32) (IntKind.bits .u64)))) * (Int.fdiv y1 (2 ^ (min (Int.toNat 32) (IntKind.bits .u64)))))) + (Int.fdiv (wr .u64 ((wr .u64 ((Int.fdiv x0 (2 ^ (min (Int.toNat 32) (IntKind.bits .u64)))) * (wr .u64 (BitVec.ofInt (IntKind.bits .u64) y1 &&& BitVec.ofInt (IntKind.bits .u64) 4294967295).toNat))) + (Int.fdiv (wr .u64 ((wr .u64 (BitVec.ofInt (IntKind.bits .u64) x0 &&& BitVec.ofInt (IntKind.bits .u64) 4294967295).toNat) * (wr .u64 (BitVec.ofInt (IntKind.bits .u64) y1 &&& BitVec.ofInt (IntKind.bits .u64) 4294967295).toNat))) (2 ^ (min (Int.toNat 32) (IntKind.bits .u64)))))) (2 ^ (min (Int.toNat 32) (IntKind.bits .u64)))))) + (Int.fdiv (wr .u64 ((wr .u64 (BitVec.ofInt (IntKind.bits .u64) (wr .u64 ((wr .u64 ((Int.fdiv x0 (2 ^ (min (Int.toNat 32) (IntKind.bits .u64)))) * (wr .u64 (BitVec.ofInt (IntKind.bits .u64) y1 &&& BitVec.ofInt (IntKind.bits .u64) 4294967295).toNat))) + (Int.fdiv (wr .u64 ((wr .u64 (BitVec.ofInt (IntKind.bits .u64) x0 &&& BitVec.ofInt (IntKind.bits .u64) 4294967295).toNat) * (wr .u64 (BitVec.ofInt (IntKind.bits .u64) y1 &&& BitVec.ofInt (IntKind.bits .u64) 4294967295).toNat))) (2 ^ (min (Int.toNat 32) (IntKind.bits .u64)))))) &&& BitVec.ofInt (IntKind.bits .u64) 4294967295).toNat) + (wr .u64 ((wr .u64 (BitVec.ofInt (IntKind.bits .u64) x0 &&& BitVec.ofInt (IntKind.bits .u64) 4294967295).toNat) * (Int.fdiv y1 (2 ^ (min (Int.toNat 32) (IntKind.bits .u64)))))))) (2 ^ (min (Int.toNat 32) (IntKind.bits .u64))))), wr .u64 (x0 * y1))))))) := by kernel_rfl
theorem S80_run (n : Nat × Nat) (xs : pksDen pk80) : S80 n xs.1 xs.2.1 = runG (E80 n) noScope c80 an80 (rtG rk80) (fun _ _ => none) (rtG rk80) (st0 pk80 xs Try.f80.ntmps) := by kernel_rfl
noncomputable def P80 (n : Nat × Nat) := phiOf pk80 rk80 (fun xs => S80 n xs.1 xs.2.1)
theorem call80 : CallOK Try.prog 80 := callOK_of Try.func80 (by kernel_rfl) (by kernel_rfl)
theorem env80 (n : Nat × Nat) : EnvOK Try.prog (E80 n) := envOK0 noPhi_ok rfl rfl
theorem par80 (n : Nat × Nat) : EnvPar (E80 n) := envPar0 noPhi_par rfl
theorem FC80 (n : Nat × Nat) : FCs Try.prog 80 (P80 n) := phiOf_FCs fun xs r h vs hv => FC.of_runG tabOK eqsOK (env80 n) (par80 n) mixed (fun _ => noScope_ok) Try.func80 (c := c80) (an := an80) (pks := pk80) (rks := rk80) (by kernel_rfl) (by kernel_rfl) hv ((S80_run n xs).symm.trans h)
/- math/bits.Mul -/
abbrev R74 := Int × Int
noncomputable def c74 : Code := bodyOf Try.f74
noncomputable def an74 : Ann := (.s .l (.s (.j [0, 1] .l .l) .l))
def pk74 : List PK := [.c (.int .u64), .c (.int .u64)]
def rk74 : List RK := [.c (.int .u64) 4, .c (.int .u64) 5]
noncomputable def rt74 (st : St) : Option R74 := rtG rk74 st
noncomputable def E74 (n : Nat × Nat) : Env := { T := tab, phi := (consPhi 79 (fun _ => true) (P79 n) (consPhi 80 (fun _ => true) (P80 n) noPhi)), eff := fun _ => false, fuel := n.1, hold := n.2 }
noncomputable def S74 (n : Nat × Nat) (x0 : Int) (y1 : Int) : Option R74 := run (E74 n) c74 an74 rt74 (fun _ _ => none) rt74 { tm := [.c (.int .u64 x0), .c (.int .u64 y1), uu, uu, uu, uu, uu, uu, uu, uu, uu, uu, uu, uu, uu, uu, uu, uu, uu, uu, uu, uu, uu, uu, uu, uu, uu, uu, uu, uu], hp := emp }
theorem S74_eq (n : Nat × Nat) (x0 : Int) (y1 : Int) : S74 n x0 y1 =
 (bif false then (S79 n (wr .u32 x0) (wr .u32 y1)).bind fun r1' =>
 some (wr .u64 r1'.1, wr .u64 r1'.2)
 else (S80 n x0 y1).bind fun r2' =>
 some (r2'.1, r2'.2)) := by kernel_rfl
theorem S74_run (n : Nat × Nat) (xs : pksDen pk74) : S74 n xs.1 xs.2.1 = runG (E74 n) noScope c74 an74 (rtG rk74) (fun _ _ => none) (rtG rk74) (st0 pk74 xs Try.f74.ntmps) := by kernel_rfl
noncomputable def P74 (n : Nat × Nat) := phiOf pk74 rk74 (fun xs => S74 n xs.1 xs.2.1)
theorem call74 : CallOK Try.prog 74 := callOK_of Try.func74 (by kernel_rfl) (by kernel_rfl)
theorem env74 (n : Nat × Nat) : EnvOK Try.prog (E74 n) := envOK0 (consPhi_ok (FC79 n) call79 (consPhi_ok (FC80 n) call80 noPhi_ok)) rfl rfl
theorem par74 (n : Nat × Nat) : EnvPar (E74 n) := envPar0 (consPhi_par phiOf_Par1 (consPhi_par phiOf_Par1 noPhi_par)) rfl
theorem FC74 (n : Nat × Nat) : FCs Try.prog 74 (P74 n) := phiOf_FCs fun xs r h vs hv => FC.of_runG tabOK eqsOK (env74 n) (par74 n) mixed (fun _ => noScope_ok) Try.func74 (c := c74) (an := an74) (pks := pk74) (rks := rk74) (by kernel_rfl) (by kernel_rfl) hv ((S74_run n xs).symm.trans h)
/- slices.Repeat[[]int,int] -/
abbrev R52 := List Int
noncomputable def c52 : Code := bodyOf Try.f52
noncomputable def an52 : Ann := (.s .l (.s (.s .l (.j [0, 1, 24, 25] .l .l)) (.s .l (.s (.s .l (.j [0, 6] .l .l)) (.s .l (.s .l (.s (.j [7] (.j [7, 8] (.s (.s .l (.j [7, 8] .l .l)) (.j [7, 8] .l .l)) .l) .l) .l)))))))
def pk52 : List PK := [.c (.sl (.int .i64)), .c (.int .i64)]
def rk52 : List RK := [.own (.int .i64) 4]
noncomputable def rt52 (st : St) : Option R52 := rtG rk52 st
noncomputable def E52 (n : Nat × Nat) : Env := { T := tab, phi := (consPhi 74 (fun _ => true) (P74 n) noPhi), eff := fun _ => false, fuel := n.1, hold := n.2 }
noncomputable def kq52_5 (n : Nat × Nat) : St → Option R52 := run (E52 n) (cB (cB (cB (cB (cB (cB (cB c52))))))) (Ann.snd (Ann.snd (Ann.snd (Ann.snd (Ann.snd (Ann.snd (Ann.snd an52))))))) rt52 (fun _ _ => none) rt52
noncomputable def xb52_7 (n : Nat × Nat) : Nat → St → Option R52 := fun j s => bif Nat.beq j 0 then normC [7] s (kq52_5 n) else (fun _ _ => none) j s
noncomputable def F52_8 (n : Nat × Nat) : (St → Option R52) → St → Option R52 := fun K s => run (E52 n) (cA (cA (cA (cB (cB (cB (cB (cB (cB c52))))))))) (Ann.fst (Ann.fst (Ann.fst (Ann.snd (Ann.snd (Ann.snd (Ann.snd (Ann.snd (Ann.snd an52))))))))) (fun s => normC [7, 8] s K) (xb52_7 n) rt52 s
noncomputable def L52_1 (n : Nat × Nat) (m : Nat) (v8 : Int) (newslice7 : List Int) : Option R52 := loopN (F52_8 n) m { tm := [uu, uu, uu, uu, uu, uu, uu, .own 7 none false, .c (.int .i64 v8), uu, uu, uu, uu, uu, uu, uu, uu, uu, uu, uu, uu, uu, uu, uu, uu, uu, uu, uu, uu, uu, uu, uu, uu, uu, uu, uu, uu, uu, uu, uu, uu, uu, uu, uu, uu, uu, uu, uu], hp := (upd emp 7 (.arr (.int .i64) newslice7 false)) }
theorem L52_1_eq (n : Nat × Nat) (m1 : Nat) (v8 : Int) (newslice7 : List Int) : L52_1 n (m1 + 1) v8 newslice7 =
 (bif decide (v8 < (newslice7.length : Int)) then (bif bounds (some v8) none none newslice7.length then (bif bounds none (some v8) none newslice7.length then L52_1 n m1 (wr .i64 (v8 + ((min ((newslice7.drop (0 + 0)).take ((Int.toNat v8) - 0)).length ((newslice7.drop (0 + (Int.toNat v8))).take (newslice7.length - (Int.toNat v8))).length : Nat) : Int))) (newslice7.take (0 + (Int.toNat v8)) ++ ((newslice7.drop (0 + 0)).take ((Int.toNat v8) - 0)).take (min ((newslice7.drop (0 + 0)).take ((Int.toNat v8) - 0)).length ((newslice7.drop (0 + (Int.toNat v8))).take (newslice7.length - (Int.toNat v8))).length) ++ newslice7.drop ((0 + (Int.toNat v8)) + min ((newslice7.drop (0 + 0)).take ((Int.toNat v8) - 0)).length ((newslice7.drop (0 + (Int.toNat v8))).take (newslice7.length - (Int.toNat v8))).length))
 else none)
 else none)
 else some newslice7) := by kernel_rfl
noncomputable def S52 (n : Nat × Nat) (x0 : List Int) (count1 : Int) : Option R52 := run (E52 n) c52 an52 rt52 (fun _ _ => none) rt52 { tm := [.c (.sl (.int .i64) x0 false), .c (.int .i64 count1), uu, uu, uu, uu, uu, uu, uu, uu, uu, uu, uu, uu, uu, uu, uu, uu, uu, uu, uu, uu, uu, uu, uu, uu, uu, uu, uu, uu, uu, uu, uu, uu, uu, uu, uu, uu, uu, uu, uu, uu, uu, uu, uu, uu, uu, uu], hp := emp }
theorem S52_eq (n : Nat × Nat) (x0 : List Int) (count1 : Int) : S52 n x0 count1 =
 (bif decide (count1 < 0) then none
 else (S74 n (wr .u64 (x0.length : Int)) (wr .u64 count1)).bind fun r1' =>
 ((bif (decide (r1'.1 > 0) == false) then some (decide (r1'.2 > 9223372036854775807))
 else some true)).bind fun b2' =>
 (bif b2' then none
 else (bif decide (0 ≤ wr .i64 r1'.2) && decide (wr .i64 r1'.2 ≤ wr .i64 r1'.2) && decide (wr .i64 r1'.2 ≤ lim) then L52_1 n n.1 ((min x0.length (List.replicate (Int.toNat (wr .i64 r1'.2)) (0 : Int)).length : Nat) : Int) ((List.replicate (Int.toNat (wr .i64 r1'.2)) (0 : Int)).take 0 ++ x0.take (min x0.length (List.replicate (Int.toNat (wr .i64 r1'.2)) (0 : Int)).length) ++ (List.replicate (Int.toNat (wr .i64 r1'.2)) (0 : Int)).drop (0 + min x0.length (List.replicate (Int.toNat (wr .i64 r1'.2)) (0 : Int)).length))
 else none))) := by kernel_rfl
theorem S52_run (n : Nat × Nat) (xs : pksDen pk52) : S52 n xs.1 xs.2.1 = runG (E52 n) noScope c52 an52 (rtG rk52) (fun _ _ => none) (rtG rk52) (st0 pk52 xs Try.f52.ntmps) := by kernel_rfl
noncomputable def P52 (n : Nat × Nat) := phiOf pk52 rk52 (fun xs => S52 n xs.1 xs.2.1)
theorem env52 (n : Nat × Nat) : EnvOK Try.prog (E52 n) := envOK0 (consPhi_ok (FC74 n) call74 noPhi_ok) rfl rfl
theorem par52 (n : Nat × Nat) : EnvPar (E52 n) := envPar0 (consPhi_par phiOf_Par1 noPhi_par) rfl
theorem FC52 (n : Nat × Nat) : FCs Try.prog 52 (P52 n) := phiOf_FCs fun xs r h vs hv => FC.of_runG tabOK eqsOK (env52 n) (par52 n) mixed (fun _ => noScope_ok) Try.func52 (c := c52) (an := an52) (pks := pk52) (rks := rk52) (by kernel_rfl) (by kernel_rfl) hv ((S52_run n xs).symm.trans h)
/- slices.Clone[[]int,int] -/
abbrev R46 := List Int
noncomputable def c46 : Code := bodyOf Try.f46
noncomputable def an46 : Ann := (.s .l (.s (.s .l (.j [0] .l .l)) .l))
def pk46 : List PK := [.c (.sl (.int .i64))]
def rk46 : List RK := [.own (.int .i64) 2]
noncomputable def rt46 (st : St) : Option R46 := rtG rk46 st
noncomputable def E46 (n : Nat × Nat) : Env := { T := tab, phi := noPhi, eff := fun _ => false, fuel := n.1, hold := n.2 }
noncomputable def S46 (n : Nat × Nat) (s0 : List Int) : Option R46 := run (E46 n) c46 an46 rt46 (fun _ _ => none) rt46 { tm := [.c (.sl (.int .i64) s0 false), uu, uu, uu, uu, uu, uu, uu], hp := emp }
theorem S46_eq (n : Nat × Nat) (s0 : List Int) : S46 n s0 =
 (bif !s0.isEmpty then (bif false then some []
 else (bif decide (([] : List Int).length + s0.length ≤ lim) then some ([] ++ s0)
 else none))
 else none) := by kernel_rfl
theorem S46_run (n : Nat × Nat) (xs : pksDen pk46) : S46 n xs.1 = runG (E46 n) noScope c46 an46 (rtG rk46) (fun _ _ => none) (rtG rk46) (st0 pk46 xs Try.f46.ntmps) := by kernel_rfl
noncomputable def P46 (n : Nat × Nat) := phiOf pk46 rk46 (fun xs => S46 n xs.1)
theorem call46 : CallOK Try.prog 46 := callOK_of Try.func46 (by kernel_rfl) (by kernel_rfl)
theorem env46 (n : Nat × Nat) : EnvOK Try.prog (E46 n) := envOK0 noPhi_ok rfl rfl
theorem par46 (n : Nat × Nat) : EnvPar (E46 n) := envPar0 noPhi_par rfl
theorem FC46 (n : Nat × Nat) : FCs Try.prog 46 (P46 n) := phiOf_FCs fun xs r h vs hv => FC.of_runG tabOK eqsOK (env46 n) (par46 n) mixed (fun _ => noScope_ok) Try.func46 (c := c46) (an := an46) (pks := pk46) (rks := rk46) (by kernel_rfl) (by kernel_rfl) hv ((S46_run n xs).symm.trans h)
end Go.Proofs.Ytjgmfdgpgdaclaa
/-
  What calls give, and rows of numbers that a call has made.
-/
set_option linter.unusedVariables false
set_option linter.unusedSimpArgs false
set_option maxRecDepth 100000
namespace Go.Proofs.Ytjgmfdgpgdaclaa
open Go.RowKit Go.Shelf
open Go.Vi
theorem fcs_FC {pks : List PK} {rks : List RK} {S : pksDen pks → Option (rksDen rks)} {g : FuncId} (h : FCs Try.prog g (phiOf pks rks S)) {xs : pksDen pks} {r : rksDen rks} {vs : List V} (hv : pksArg pks vs = some xs) (hs : S xs = some r) :
    FC Try.prog g vs (rets rks r) := by
  obtain ⟨ret, h1, h2⟩ := h vs _ some (rets rks r) (by unfold phiOf; rw [hv]; simp only [Option.bind_some, hs])
  cases h1
  exact h2
/-- A call that gives one number. -/
theorem fc_int {g : FuncId} {vs : List V} {t : Nat} {e : Int} (h : FC Try.prog g vs (rets [.c (.int .i64) t] e)) {w : World} {A : Nat → Prop} {args : List Value} (hA : ∀ b, A b → b < w.heap.size) (hv : All2 (VR noGam w A emp) vs args) :
    Calls Try.prog g args.toArray w fun x w2 => x = .returned (.int .i64 e) ∧ Below w.heap.size w w2 := by
  refine (h w A args hA hv).mono ?_
  intro x w2 hx
  cases x with
  | returned u =>
    obtain ⟨hG, is, us, rfl, hR⟩ := hx
    match is, us, hR with
    | [i], [u], ⟨hu, _, _⟩ =>
      have hu : u = .int .i64 e := hu
      subst hu
      exact ⟨rfl, ⟨hG.os, hG.tape, hG.output, hG.size, hG.blk⟩⟩
    | [], [], hR => exact hR.elim
    | [], _ :: _, hR => exact hR.elim
    | [_], [], hR => exact hR.elim
    | [_], _ :: _ :: _, hR => exact hR.2.2.elim
    | _ :: _ :: _, [], hR => exact hR.elim
    | _ :: _ :: _, [_], hR => exact hR.2.2.elim
    | _ :: _ :: _, _ :: _ :: _, hR => exact hR.2.2.elim
  | _ => exact hx.elim
theorem below_drew {W W' : World} (h : Below W.drew.heap.size W.drew W') : Below W.heap.size W W' := ⟨h.os, h.tape, h.output, h.size, h.block⟩
theorem Blk.below {W W' : World} {B b : Nat} {cur : Array Value} {t : TypeId} (h : Blk W b cur t) (hB : Below B W W') (hlt : b < B) : Blk W' b cur t := (hB.block b hlt).trans h
/-- A slice of numbers in a block of the call's own: its first cells. -/
def Row (W : World) (b cap : Nat) (len : Nat) (f : Nat → Int) : Prop := ∃ cur ty, Blk W b cur ty ∧ len ≤ cap ∧ cap ≤ cur.size ∧ ∀ i, i < len → cur[i]? = some (.int .i64 (f i))
theorem Row.kept {W W' : World} {b cap len : Nat} {f : Nat → Int} {row : Option Nat} (h : Row W b cap len f) (hg : W.grownBy W' row) (hne : some b ≠ row) : Row W' b cap len f := by
  obtain ⟨cur, ty, h1, h2⟩ := h
  exact ⟨cur, ty, h1.kept hg hne, h2⟩
theorem Row.cell {W : World} {b cap len : Nat} {f : Nat → Int} (h : Row W b cap len f) {i : Nat} (hi : i < len) : W.cell? ⟨b, i, none⟩ = some (.int .i64 (f i)) := by
  obtain ⟨cur, ty, h1, h2, h3, h4⟩ := h
  exact h1.cell i (h4 i hi)
theorem Row.frozen {W : World} {b cap len : Nat} {f : Nat → Int} (h : Row W b cap len f) (i : Nat) : W.frozen? ⟨b, i, none⟩ = false := by
  obtain ⟨cur, ty, h1, _⟩ := h
  exact h1.frozen i
theorem Row.set {W : World} {b cap len : Nat} {f : Nat → Int} (h : Row W b cap len f) (i : Nat) (v : Int) : Row (W.setCell ⟨b, i, none⟩ (.int .i64 v)) b cap len (fun j => if j = i then v else f j) := by
  obtain ⟨cur, ty, h1, h2, h3, h4⟩ := h
  refine ⟨_, ty, h1.set i _, h2, by simpa using h3, fun j hj => ?_⟩
  have := h4 j hj
  by_cases e : j = i
  · subst e
    have hlt := (Array.getElem?_eq_some_iff.1 this).1
    simp [Array.getElem?_setIfInBounds_self_of_lt hlt]
  · rw [Array.getElem?_setIfInBounds_ne (fun h => e h.symm)]
    simpa [e] using this
theorem Row.other {W : World} {b cap len : Nat} {f : Nat → Int} (h : Row W b cap len f) {b' : Nat} (j : Nat) (v : Value) (hne : b ≠ b') : Row (W.setCell ⟨b', j, none⟩ v) b cap len f := by
  obtain ⟨cur, ty, h1, h2⟩ := h
  exact ⟨cur, ty, h1.other j v hne, h2⟩
theorem Row.lt {W : World} {b cap len : Nat} {f : Nat → Int} (h : Row W b cap len f) : b < W.heap.size := by
  obtain ⟨cur, ty, h1, _⟩ := h
  exact h1.lt
theorem Row.congr {W : World} {b cap len : Nat} {f g : Nat → Int} (h : Row W b cap len f) (e : ∀ i, i < len → f i = g i) : Row W b cap len g := by
  obtain ⟨cur, ty, h1, h2, h3, h4⟩ := h
  exact ⟨cur, ty, h1, h2, h3, fun i hi => by rw [← e i hi]; exact h4 i hi⟩
theorem Row.below {W W' : World} {B b cap len : Nat} {f : Nat → Int} (h : Row W b cap len f) (hB : Below B W W') (hlt : b < B) : Row W' b cap len f := by
  obtain ⟨cur, ty, h1, h2⟩ := h
  exact ⟨cur, ty, h1.below hB hlt, h2⟩
theorem Row.one (W : World) (x : Int) (ty : TypeId) : Row (W.alloc (.cells #[.int .i64 x] ty)) W.heap.size 1 1 (fun _ => x) := by
  refine ⟨_, ty, Blk.new W _ _, Nat.le_refl _, Nat.le_refl _, fun i hi => ?_⟩
  match i, hi with
  | 0, _ => rfl
theorem Row.drew {W : World} {b cap len : Nat} {f : Nat → Int} (h : Row W b cap len f) : Row W.drew b cap len f := h
theorem CR_row {W : World} {b cap : Nat} {l : List Int} (h : Row W b cap l.length (fun i => l[i]?.getD 0)) : CR W (fun x => x = b) (.sl (.int .i64) l false) (.slice (some ⟨b, 0, none⟩) l.length cap) := by
  obtain ⟨cur, ty, h1, h2, h3, h4⟩ := h
  refine ⟨_, cap, rfl, h2, fun h => (by cases h), .inr ⟨b, 0, cur, ty, (0, 0), rfl, rfl, h1, ?_, fun i x hx => ?_⟩⟩
  · show 0 + l.length * 1 ≤ _
    omega
  · show (cur.toList.drop (0 + i * 1)).take 1 = [.int .i64 x]
    have hi := (List.getElem?_eq_some_iff.1 hx).1
    have h5 : cur[i]? = some (.int .i64 (l[i]?.getD 0)) := h4 i hi
    rw [hx] at h5
    have hlt := (Array.getElem?_eq_some_iff.1 h5).1
    rw [Nat.mul_one, Nat.zero_add, List.drop_eq_getElem_cons (by simpa using hlt)]
    simp [(Array.getElem?_eq_some_iff.1 h5).2]
/-- A call that gives a list of its own. -/
theorem fc_own {g : FuncId} {vs : List V} {t : Nat} {l : List Int} (h : FC Try.prog g vs (rets [.own (.int .i64) t] l)) (hl : 0 < l.length) {w : World} {A : Nat → Prop} {args : List Value} (hA : ∀ b, A b → b < w.heap.size) (hv : All2 (VR noGam w A emp) vs args) :
    Calls Try.prog g args.toArray w fun x w2 => ∃ b cap, x = .returned (.slice (some ⟨b, 0, none⟩) l.length cap) ∧ w.heap.size ≤ b ∧ Row w2 b cap l.length (fun i => l[i]?.getD 0) ∧ Below w.heap.size w w2 := by
  refine (h w A args hA hv).mono ?_
  intro x w2 hx
  cases x with
  | returned u =>
    obtain ⟨hG, is, us, rfl, hR⟩ := hx
    match is, us, hR with
    | [.emp], [u], ⟨⟨ho, _, _⟩, _, _⟩ =>
      have ho : l = [] := ho
      rw [ho] at hl
      exact absurd hl (by simp)
    | [.at b c], [u], ⟨⟨ho, hs, hb⟩, _, _⟩ =>
      obtain ⟨_, ho1, cur, et, ho2, ho3, ho4⟩ := ho
      obtain ⟨rfl, _, _⟩ := hs
      refine ⟨b, c, rfl, (hb b c rfl).1, ⟨cur, et, ho2, ho1, by have : c * 1 ≤ cur.size := ho3; omega, fun i hi => ?_⟩, ⟨hG.os, hG.tape, hG.output, hG.size, hG.blk⟩⟩
      have h4 := ho4 i l[i] (by simp)
      have h5 : (cur.toList.drop (i * 1)).take 1 = [.int .i64 l[i]] := h4
      rw [Nat.mul_one] at h5
      have h6 := congrArg (fun l => l[0]?) h5
      have h7 : cur.toList[i]? = some (.int .i64 l[i]) := by simpa [List.getElem?_take, List.getElem?_drop] using h6
      rw [← Array.getElem?_toList, h7]
      simp [List.getElem?_eq_getElem hi]
    | [], [], hR => exact hR.elim
    | [], _ :: _, hR => exact hR.elim
    | [_], [], hR => exact hR.elim
    | [_], _ :: _ :: _, hR => exact hR.2.2.elim
    | _ :: _ :: _, [], hR => exact hR.elim
    | _ :: _ :: _, [_], hR => exact hR.2.2.elim
    | _ :: _ :: _, _ :: _ :: _, hR => exact hR.2.2.elim
  | _ => exact hx.elim
end Go.Proofs.Ytjgmfdgpgdaclaa
set_option linter.unusedVariables false
set_option linter.unusedSimpArgs false
set_option maxRecDepth 100000
namespace Go.Proofs.Ytjgmfdgpgdaclaa
open Go.RowKit Go.Shelf
section
attribute [local go_sem] Oper.semAt_some
set_option maxHeartbeats 2000000 in
/-- The closure of slices.Backward: J k holds when the elements from k on have come. -/
theorem backN_in (F : Fence) (n : Nat) (hC : F.fn 78) (hro : F.round = none) (hn : 1 ≤ n) (l Bs n₀ b off cap : Nat) (zs : List Int) (hreach : zs.length * 8 ≤ 140737488351232) (hb : b < n₀) (J : Nat → World → Prop)
    (hY : ∀ k (hk : k < zs.length) W, J (k + 1) W → YieldAt F (n - 1) Try.prog l #[.int .i64 (k : Int), .int .i64 zs[k]] W fun e W' => e = .returned (.bool true) ∧ J k W' ∧ KpB n₀ Bs W W')
    (W : World) (hBs : W.cell? ⟨Bs, 0, none⟩ = some (.slice (some ⟨b, off, none⟩) zs.length cap)) (hc : ∀ j (h : j < zs.length), W.cell? ⟨b, off + j, none⟩ = some (.int .i64 zs[j])) (h0 : J zs.length W) :
    CallsIn F n Try.prog 78 #[.func (.yield l) #[] #[], .pointer (some ⟨Bs, 0, none⟩)] W fun e W' => (∃ v, e = .returned v) ∧ J 0 W' := by
  refine callsIn_of_wp Try.func78 rfl hC ?_ hro
  simp only [Try.ntmps78, List.size_toArray, List.length_cons, List.length_nil, Nat.reduceAdd, Nat.reduceSub, Array.replicate_succ, Array.replicate_zero, List.push_toArray, List.append_toArray, List.nil_append, List.cons_append]
  gi_wp2
  gi_loopw [3] (fun i wr => (∃ k : Nat, k < zs.length ∧ i = .int .i64 k ∧ J (k + 1) wr ∧ KpB n₀ Bs W wr) ∨ (i = .int .i64 (-1) ∧ J 0 wr ∧ KpB n₀ Bs W wr))
    (fun i _ => (intOf i + 1).toNat)
  case atStart =>
    rcases Nat.eq_zero_or_pos zs.length with h | h
    · exact .inr ⟨by simp [h], by rw [h] at h0; exact h0, KpB.refl _ _ _⟩
    · exact .inl ⟨zs.length - 1, by omega, by congr 1; omega, by rw [show zs.length - 1 + 1 = zs.length by omega]; exact h0, KpB.refl _ _ _⟩
  case round =>
    rcases hrel with ⟨k, hk, rfl, hJs, hnx⟩ | ⟨rfl, hJs, hnx⟩
    · have hcx := (hnx.1.cell (p := ⟨b, off + k, none⟩) hb).trans (hc k hk)
      have hBs' : wr.cell? ⟨Bs, 0, none⟩ = some (.slice (some ⟨b, off, none⟩) zs.length cap) := by rw [← hBs]; simp only [World.cell?, hnx.2]
      obtain ⟨fn, tmps, assign, body, hy, hR⟩ := hY k hk wr hJs
      gi_wp2
      refine hR.mono ?_
      rintro e W3 ⟨rfl, hJ3, hk3⟩
      gi_wp2
      go_roundw
      case rel =>
        cases k with
        | zero => exact .inr ⟨by simp, hJ3, hnx.trans hk3⟩
        | succ k => exact .inl ⟨k, by omega, by congr 1; omega, hJ3, hnx.trans hk3⟩
      case measure => simp [intOf]
    · gi_wp2
      go_end0
      exact ⟨⟨_, rfl⟩, hJs⟩
end
/-- How a body that is never left must end. -/
def nrmW (R : World → Prop) : Exit → Act → World → Prop
  | .normal, _, w => R w
  | _, _, _ => False
/-- A loop over slices.Backward, its rounds in their order. -/
theorem rangeBack {F : Fence} {n : Nat} (hro : F.round = none) (hn : 2 ≤ n) (h78 : F.fn 78) {g : Operand} {ps : Array Tmp} {assign body : Code} {Q : Exit → Act → World → Prop} {a : Act} {w : World}
    {Bs n₀ b off cap : Nat} {zs : List Int} (hreach : zs.length * 8 ≤ 140737488351232) (hg : a.eval g = .func (.func 78) #[] #[.pointer (some ⟨Bs, 0, none⟩)]) (hps : ps.size = 2) (hb : b < n₀) (hn₀ : n₀ ≤ w.heap.size) (hBl : Bs < w.heap.size)
    (hBs : w.cell? ⟨Bs, 0, none⟩ = some (.slice (some ⟨b, off, none⟩) zs.length cap)) (hc : ∀ j (h : j < zs.length), w.cell? ⟨b, off + j, none⟩ = some (.int .i64 zs[j]))
    (I : Nat → World → Prop) (hI : OwnFrom w.heap.size I) (h0 : I zs.length w) (a₁ : Fin zs.length → Act)
    (hassign : ∀ (l : Nat) (x : Fin zs.length) (W : World) (K : Act → World → Prop), K (a₁ x) W →
      assign.wpIn (F.inRound l) (n - 1 - 1) Try.prog (Exit.then K (fun _ _ _ => False)) { tmps := (ps.zip #[.int .i64 (x.val : Int), .int .i64 (zs[x.val]'x.isLt)]).foldl (fun t (p, v) => t.setIfInBounds p v) a.tmps, defers := [] } W)
    (hbody : ∀ (l k : Nat) (hk : k < zs.length) (W : World), I (k + 1) W → body.wpIn (F.inRound l) (n - 1 - 1) Try.prog (nrmW fun W' => KeepsFrom w.heap.size W W' ∧ KpB n₀ Bs W W' ∧ I k W') (a₁ ⟨k, hk⟩) W)
    (hdone : ∀ (D : Nat) (W : World), w.heap.size ≤ D → I 0 W → W.heap[D]? = some (.deferred (some [])) → Q .normal { a with defers := { target := .collected D, args := #[] } :: a.defers } W) :
    (Code.rangeFunc g ps assign body).wpIn F n Try.prog Q a w := by
  refine wpIn_rangeFunc fun fn hfn => ?_
  rw [hro]
  generalize hL : w.heap.size + 1 = L
  let r0 : Loop := { state := .ready, pending := none, fn, tmps := a.tmps, params := ps, assign, body, defers := w.heap.size }
  generalize hW1 : (w.alloc (.deferred (some []))).alloc (.loop r0) = W1
  have s1 : W1.heap.size = w.heap.size + 2 := by rw [← hW1]; simp
  have hl1 : W1.heap[L]? = some (.loop r0) := by
    have := World.alloc_heap_new (w.alloc (.deferred (some []))) (.loop r0)
    rw [World.size_alloc, hL, hW1] at this
    exact this
  have hd1 : W1.heap[w.heap.size]? = some (.deferred (some [])) := by
    rw [← hW1]
    exact (Below.heap_alloc _ _ _ (by simp)).trans (World.alloc_heap_new w _)
  have hB1 : Below w.heap.size w W1 := by rw [← hW1]; exact ((Below.refl _ w).alloc (Nat.le_refl _) _).alloc (by simp) _
  refine ⟨L, [{ target := .collected w.heap.size, args := #[] }], W1, { target := .fn (.func 78) #[.pointer (some ⟨Bs, 0, none⟩)], args := #[.func (.yield L) #[] #[]] }, W1, 78, #[.func (.yield L) #[] #[], .pointer (some ⟨Bs, 0, none⟩)], W1, ?_, ?_, ?_, ?_, fun _ => by omega, ?_⟩
  · rw [run_enterLoop_outer, hW1, hL]
  · simp only [resolve, hg]
    simp [go_sem]
  · intro f' hf'
    simp [Target.leads] at hf'
    subst hf'
    exact h78
  · simp [invoke, go_sem, enters_of Try.func78 (by kernel_rfl) rfl]
  · have hK : ∀ (X : World) (j : Nat) (o o' : Loop), w.heap.size ≤ j → X.heap[j]? = some (.loop o) → KpB n₀ Bs X (X.putObj j (.loop o')) := fun X j o o' hj ho => ⟨belowK_b (w := w) hn₀ X j _ _ hj ho rfl rfl, World.putObj_heap_other (by omega)⟩
    refine (backN_in F (n - 1) h78 hro (by omega) L Bs n₀ b off cap zs hreach hb (fun k W => I k W ∧ W.heap[L]? = some (.loop r0) ∧ W.heap[w.heap.size]? = some (.deferred (some []))) ?_ W1
      ((hB1.cell (p := ⟨Bs, 0, none⟩) hBl).trans hBs) (fun j hj => (hB1.cell (p := ⟨b, off + j, none⟩) (by show b < _; omega)).trans (hc j hj)) ⟨by rw [← hW1]; exact hI.alloc _ (hI.alloc _ h0), hl1, hd1⟩).mono ?_
    · rintro k hk W ⟨hi, hl, hd⟩
      have hlt := (Array.getElem?_eq_some_iff.1 hl).1
      refine ⟨_, _, _, _, run_yield (r := r0) hl (by rw [show r0.params = ps from rfl, hps]; rfl), roundIn_of_wpIn hfn (hassign L ⟨k, hk⟩ W _ ⟨_, run_beginRound hl rfl, ?_⟩)⟩
      have hi2 := hI.putObj (.loop { r0 with state := .busy }) hi (by omega) hl rfl
      have hl2 : (W.putObj L (.loop { r0 with state := .busy })).heap[L]? = some (.loop { r0 with state := .busy }) := World.putObj_heap_same hlt
      have hd2 : (W.putObj L (.loop { r0 with state := .busy })).heap[w.heap.size]? = some (.deferred (some [])) := (World.putObj_heap_other (by omega)).trans hd
      refine wpIn_mono (hbody L k hk _ hi2) ?_
      intro e a3 W3 hp
      cases e with
      | normal =>
        obtain ⟨k1, k2, k3⟩ := hp
        have hl3 := k1.same _ _ (by omega) hl2 rfl
        have hd3 := k1.same _ _ (Nat.le_refl _) hd2 rfl
        exact ⟨_, _, run_endRound none hl3, rfl, ⟨hI.putObj _ k3 (by omega) hl3 rfl, World.putObj_heap_same (Array.getElem?_eq_some_iff.1 hl3).1, (World.putObj_heap_other (by omega)).trans hd3⟩,
          ((hK W L _ _ (by omega) hl).trans k2).trans (hK W3 L _ _ (by omega) hl3)⟩
      | _ => exact hp.elim
    · rintro e W2 ⟨⟨v, rfl⟩, hi, hl, hd⟩
      exact ⟨none, _, run_endLoop hl (by simp [r0]), hdone _ _ (Nat.le_refl _) (hI.putObj _ hi (by omega) hl rfl) ((World.putObj_heap_other (by omega)).trans hd)⟩
end Go.Proofs.Ytjgmfdgpgdaclaa
set_option linter.unusedVariables false
set_option linter.unusedSimpArgs false
set_option maxRecDepth 100000
namespace Go.Proofs.Ytjgmfdgpgdaclaa
open Go.RowKit Go.Shelf Go.Vi
/-- A region with draws: what it leaves, named. -/
def nrm (R : Act → World → Prop) : Exit → Act → World → Prop
  | .normal, a, w => R a w
  | _, _, _ => False
theorem wpIn_nrm {F : Fence} {n : Nat} {P : Program} {c : Code} {K : Act → World → Prop} {Q : Exit → Act → World → Prop} {a : Act} {w : World} {R : Act → World → Prop}
    (h : c.wpIn F n P (nrm R) a w) (k : ∀ a' w', R a' w' → K a' w') : c.wpIn F n P (Exit.then K Q) a w :=
  wpIn_mono h fun e a' w' h => by
    cases e with
    | normal => exact k a' w' h
    | _ => exact h.elim
/-- The frame, these six slots turned. -/
def put6 (A : Act) (i : Nat) (u0 u1 u2 u3 u4 u5 : Value) : Act := { tmps := (((((A.tmps.setIfInBounds i u0).setIfInBounds (i + 1) u1).setIfInBounds (i + 2) u2).setIfInBounds (i + 3) u3).setIfInBounds (i + 4) u4).setIfInBounds (i + 5) u5, defers := A.defers }
def put5 (A : Act) (i : Nat) (u0 u1 u2 u3 u4 : Value) : Act := { tmps := ((((A.tmps.setIfInBounds i u0).setIfInBounds (i + 1) u1).setIfInBounds (i + 2) u2).setIfInBounds (i + 3) u3).setIfInBounds (i + 4) u4, defers := A.defers }
def rfBody : Code → Code | .rangeFunc _ _ _ b => b | c => c
noncomputable def c41 : Code := bodyOf Try.f41
noncomputable def r41_9 : Code := cA (cB (cB (cB (cB (cB c41)))))
noncomputable def r41_14 : Code := cA (cA (rfBody (cA (cB (cA (cB (cB (cB (cB (cB (cB (cB c41))))))))))))
/-- What both leave. -/
def Cloned (Wc : World) (tb i s : Nat) (W : World) : Prop :=
  ∃ b3 cap3 W2, Below Wc.heap.size Wc W2 ∧ Wc.heap.size ≤ b3 ∧ Row W2 b3 cap3 (s + 1) (fun _ => -1) ∧ W = W2.setCell ⟨tb, i, none⟩ (.slice (some ⟨b3, 0, none⟩) (s + 1) cap3)
section
attribute [local go_sem] Oper.semAt_some
set_option maxHeartbeats 8000000 in
theorem reg9 {F : Fence} {n : Nat} (h1 : 1 ≤ n) (h46 : F.fn 46) (hro : F.round = none) {Wc : World} {g b2 cap2 s L b off cap : Nat} {cur : Array Value} {v0 : Value}
    (hcl : ∀ W b1 cap1, Row W b1 cap1 (s + 1) (fun _ => -1) → CallsIn F (n - 1) Try.prog 46 #[.slice (some ⟨b1, 0, none⟩) (s + 1) cap1] W fun e w' => ∃ b2 cap2, e = .returned (.slice (some ⟨b2, 0, none⟩) (s + 1) cap2) ∧ W.heap.size ≤ b2 ∧ Row w' b2 cap2 (s + 1) (fun _ => -1) ∧ Below W.heap.size W w')
    (c10 : Blk Wc g #[.slice (some ⟨b2, 0, none⟩) (s + 1) cap2] 22) (c11 : Blk Wc (g + 2) #[.slice (some ⟨g + 1, 0, none⟩) (L + 1) (L + 1)] 75) (ctb : Blk Wc (g + 1) cur 22) (hcur : cur[L]? = some v0) (crow : Row Wc b2 cap2 (s + 1) (fun _ => -1))
    {R : Act → World → Prop} (A : Act) (hR : ∀ a' w', (∃ u0 u1 u2 u3 u4 u5, a' = put6 A 42 u0 u1 u2 u3 u4 u5) ∧ Cloned Wc (g + 1) L s w' → R a' w') (hs : 47 < A.tmps.size) (A0 : A.tmps[0]? = some (.slice (some ⟨b, off, none⟩) L cap)) (A10 : A.tmps[10]? = some (.pointer (some ⟨g, 0, none⟩))) (A11 : A.tmps[11]? = some (.pointer (some ⟨g + 2, 0, none⟩))) :
    r41_9.wpIn F n Try.prog (nrm R) A Wc := by
  unfold r41_9 c41
  simp only [cA, cB, bodyOf, Try.f41]
  have q10 := c10.cell 0 rfl
  have q11 := c11.cell 0 rfl
  have hl11 := c11.lt
  have l42 : 42 < A.tmps.size := by omega
  have l43 : 43 < A.tmps.size := by omega
  have l44 : 44 < A.tmps.size := by omega
  have l45 : 45 < A.tmps.size := by omega
  have l46 : 46 < A.tmps.size := by omega
  clear c10
  gi_region_with (gi_at_call 46; refine (hcl Wc.drew _ _ crow.drew).mono ?_; rintro e w5 ⟨b3, cap3, rfl, hb3, hr5, hB7⟩; have hB7 := below_drew hB7; have y11 := (c11.below hB7 (by omega)).cell 0 rfl; have ytb := (ctb.below hB7 (by omega)).cell L hcur; have ytf := (ctb.below hB7 (by omega)).frozen L)
  all_goals (refine hR _ _ ⟨⟨.slice (some ⟨g + 1, 0, none⟩) (L + 1) (L + 1), .slice (some ⟨b, off, none⟩) L cap, .int .i64 L, .slice (some ⟨b2, 0, none⟩) (s + 1) cap2, .slice (some ⟨b3, 0, none⟩) (s + 1) cap3, .pointer (some ⟨g + 1, L, none⟩), ?_⟩, b3, cap3, w5, hB7, hb3, hr5, rfl⟩)
  all_goals (simp [put6, Array.setIfInBounds_comm])
set_option maxHeartbeats 8000000 in
theorem reg14 {F : Fence} {n : Nat} (h1 : 1 ≤ n) (h46 : F.fn 46) {l : Nat} (hro : F.round = some l) {Wc : World} {g b2 cap2 s L i : Nat} {cur : Array Value} {v0 : Value}
    (hcl : ∀ W b1 cap1, Row W b1 cap1 (s + 1) (fun _ => -1) → CallsIn F (n - 1) Try.prog 46 #[.slice (some ⟨b1, 0, none⟩) (s + 1) cap1] W fun e w' => ∃ b2 cap2, e = .returned (.slice (some ⟨b2, 0, none⟩) (s + 1) cap2) ∧ W.heap.size ≤ b2 ∧ Row w' b2 cap2 (s + 1) (fun _ => -1) ∧ Below W.heap.size W w')
    (c10 : Blk Wc g #[.slice (some ⟨b2, 0, none⟩) (s + 1) cap2] 22) (c11 : Blk Wc (g + 2) #[.slice (some ⟨g + 1, 0, none⟩) (L + 1) (L + 1)] 75) (ctb : Blk Wc (g + 1) cur 22) (hcur : cur[i]? = some v0) (hi : i < L) (crow : Row Wc b2 cap2 (s + 1) (fun _ => -1))
    {R : Act → World → Prop} (A : Act) (hR : ∀ a' w', (∃ u0 u1 u2 u3 u4, a' = put5 A 58 u0 u1 u2 u3 u4) ∧ Cloned Wc (g + 1) i s w' → R a' w') (hs : 62 < A.tmps.size) (A12 : A.tmps[12]? = some (.int .i64 i)) (A10 : A.tmps[10]? = some (.pointer (some ⟨g, 0, none⟩))) (A11 : A.tmps[11]? = some (.pointer (some ⟨g + 2, 0, none⟩))) :
    r41_14.wpIn F n Try.prog (nrm R) A Wc := by
  unfold r41_14 c41
  simp only [cA, cB, bodyOf, Try.f41, rfBody]
  have q10 := c10.cell 0 rfl
  have q11 := c11.cell 0 rfl
  have hl11 := c11.lt
  have l58 : 58 < A.tmps.size := by omega
  have l59 : 59 < A.tmps.size := by omega
  have l60 : 60 < A.tmps.size := by omega
  have l61 : 61 < A.tmps.size := by omega
  clear c10
  gi_region_with (gi_at_call 46; refine (hcl Wc.drew _ _ crow.drew).mono ?_; rintro e w5 ⟨b3, cap3, rfl, hb3, hr5, hB7⟩; have hB7 := below_drew hB7; have y11 := (c11.below hB7 (by omega)).cell 0 rfl; have ytb := (ctb.below hB7 (by omega)).cell i hcur; have ytf := (ctb.below hB7 (by omega)).frozen i)
  all_goals (refine hR _ _ ⟨⟨.slice (some ⟨g + 1, 0, none⟩) (L + 1) (L + 1), .int .i64 i, .slice (some ⟨b2, 0, none⟩) (s + 1) cap2, .slice (some ⟨b3, 0, none⟩) (s + 1) cap3, .pointer (some ⟨g + 1, i, none⟩), ?_⟩, b3, cap3, w5, hB7, hb3, hr5, rfl⟩)
  all_goals (simp [put5, Array.setIfInBounds_comm])
end
def puts (A : Act) (l : List (Nat × Value)) : Act := { tmps := l.foldl (fun t p => t.setIfInBounds p.1 p.2) A.tmps, defers := A.defers }
noncomputable def r41_34 : Code := (cA (cA (cA (cB (cA (cA (cB (cB (cA (cA (cB (cB (cA (cA (cB (cA (cB (cB (cB (cB (cB (cB (cB (cB (cB (cB c41))))))))))))))))))))))))))
noncomputable def r41_35 : Code := (cA (cB (cA (cA (cB (cA (cA (cB (cB (cA (cA (cB (cB (cA (cA (cB (cA (cB (cB (cB (cB (cB (cB (cB (cB (cB (cB c41)))))))))))))))))))))))))))
section
attribute [local go_sem] Oper.semAt_some
set_option maxHeartbeats 16000000 in
theorem reg34 {n : Nat} {Wc : World} {g r cp s L B k t m c p d : Nat} {v : Int} (hkL : k + 1 < L + 1) (hk9 : k ≤ 1000) (hp : (m : Int) * (c : Int) = p) (hd : (t : Int) - (p : Int) = d) (hp2 : p ≤ 10000) (ht2 : t ≤ 10000) (hds : d < s + 1) (q11 : Wc.cell? ⟨g + 2, 0, none⟩ = some (.slice (some ⟨g + 1, 0, none⟩) (L + 1) (L + 1))) (q5 : Wc.cell? ⟨B, 0, none⟩ = some (.int .i64 (t : Nat))) (qt : Wc.cell? ⟨g + 1, k + 1, none⟩ = some (.slice (some ⟨r, 0, none⟩) (s + 1) cp)) (qr : Wc.cell? ⟨r, d, none⟩ = some (.int .i64 v))
    {K : Act → World → Prop} {Q : Exit → Act → World → Prop} {x0 x1 x2 x3 x4 x6 x7 x8 x9 x10 x12 x13 x14 x15 x16 x17 x21 x22 x23 x24 x25 x26 x27 x28 x29 x30 x31 x32 x33 x34 x35 x36 x37 x38 x39 x40 x41 x42 x43 x44 x45 x46 x47 x48 x49 x50 x51 x52 x53 x54 x55 x56 x57 x58 x59 x60 x61 x62 x63 x64 x65 x66 x67 x68 x69 x70 x71 x72 x73 x74 x75 x76 x77 x78 x79 x80 x81 x82 x83 x84 x85 x86 x87 x88 x89 x90 x91 x92 x93 x94 x95 x96 x97 x98 x99 x100 x101 x102 x103 x104 x105 x106 x107 x108 x109 x110 x111 x112 x113 x114 x115 x116 x117 x118 x119 x120 x121 x122 x123 x124 x125 x126 x127 x128 x129 x130 x131 x132 x133 x134 x135 x136 x137 x138 x139 x140 x141 x142 x143 x144 x145 x146 x147 x148 x149 x150 x151 x152 x153 x154 x155 x156 x157 x158 x159 x160 x161 x162 x163 x164 x165 x166 x167 x168 x169 x170 x171 x172 x173 x174 x175 x176 x177 x178 x179 x180 x181 x182 x183 x184 x185 x186 x187 x188 : Value} {ds : List Deferred} (hR : K { tmps := #[x0, x1, x2, x3, x4, .pointer (some ⟨B, 0, none⟩), x6, x7, x8, x9, x10, .pointer (some ⟨g + 2, 0, none⟩), x12, x13, x14, x15, x16, x17, .int .i64 (k : Nat), .int .i64 (c : Nat), .int .i64 (m : Nat), .int .i64 v, x22, x23, x24, x25, x26, x27, x28, x29, x30, x31, x32, x33, x34, x35, x36, x37, x38, x39, x40, x41, x42, x43, x44, x45, x46, x47, x48, x49, x50, x51, x52, x53, x54, x55, x56, x57, x58, x59, x60, x61, x62, x63, x64, x65, x66, x67, x68, x69, x70, x71, x72, x73, x74, x75, x76, x77, x78, x79, x80, x81, x82, x83, x84, x85, x86, x87, x88, x89, x90, x91, x92, x93, x94, x95, x96, x97, x98, x99, x100, x101, x102, x103, x104, x105, x106, x107, x108, x109, x110, x111, x112, x113, x114, x115, x116, x117, x118, x119, x120, x121, x122, x123, x124, x125, x126, x127, x128, x129, x130, x131, x132, x133, x134, x135, x136, x137, x138, x139, x140, x141, x142, x143, x144, x145, x146, x147, x148, x149, x150, .slice (some ⟨g + 1, 0, none⟩) (L + 1) (L + 1), .int .i64 k, .int .i64 (k + 1), .pointer (some ⟨g + 1, k + 1, none⟩), .slice (some ⟨r, 0, none⟩) (s + 1) cp, .int .i64 t, .int .i64 m, .int .i64 c, .int .i64 p, .int .i64 d, .pointer (some ⟨r, d, none⟩), .int .i64 v, x163, x164, x165, x166, x167, x168, x169, x170, x171, x172, x173, x174, x175, x176, x177, x178, x179, x180, x181, x182, x183, x184, x185, x186, x187, x188], defers := ds } Wc.drew) :
    r41_34.wpIn Fence.wide n Try.prog (Exit.then K Q) { tmps := #[x0, x1, x2, x3, x4, .pointer (some ⟨B, 0, none⟩), x6, x7, x8, x9, x10, .pointer (some ⟨g + 2, 0, none⟩), x12, x13, x14, x15, x16, x17, .int .i64 (k : Nat), .int .i64 (c : Nat), .int .i64 (m : Nat), x21, x22, x23, x24, x25, x26, x27, x28, x29, x30, x31, x32, x33, x34, x35, x36, x37, x38, x39, x40, x41, x42, x43, x44, x45, x46, x47, x48, x49, x50, x51, x52, x53, x54, x55, x56, x57, x58, x59, x60, x61, x62, x63, x64, x65, x66, x67, x68, x69, x70, x71, x72, x73, x74, x75, x76, x77, x78, x79, x80, x81, x82, x83, x84, x85, x86, x87, x88, x89, x90, x91, x92, x93, x94, x95, x96, x97, x98, x99, x100, x101, x102, x103, x104, x105, x106, x107, x108, x109, x110, x111, x112, x113, x114, x115, x116, x117, x118, x119, x120, x121, x122, x123, x124, x125, x126, x127, x128, x129, x130, x131, x132, x133, x134, x135, x136, x137, x138, x139, x140, x141, x142, x143, x144, x145, x146, x147, x148, x149, x150, x151, x152, x153, x154, x155, x156, x157, x158, x159, x160, x161, x162, x163, x164, x165, x166, x167, x168, x169, x170, x171, x172, x173, x174, x175, x176, x177, x178, x179, x180, x181, x182, x183, x184, x185, x186, x187, x188], defers := ds } Wc := by
  refine wpIn_nrm (R := K) ?_ (fun _ _ h => h)
  unfold r41_34 c41
  simp only [cA, cB, bodyOf, Try.f41]
  gi_region
  all_goals exact hR
set_option maxHeartbeats 16000000 in
theorem reg35a {n : Nat} {Wc : World} {v : Int} (hv : v < 0)
    {K : Act → World → Prop} {Q : Exit → Act → World → Prop} {x0 x1 x2 x3 x4 x5 x6 x7 x8 x9 x10 x11 x12 x13 x14 x15 x16 x17 x18 x19 x20 x22 x23 x24 x25 x26 x27 x28 x29 x30 x31 x32 x33 x34 x35 x36 x37 x38 x39 x40 x41 x42 x43 x44 x45 x46 x47 x48 x49 x50 x51 x52 x53 x54 x55 x56 x57 x58 x59 x60 x61 x62 x63 x64 x65 x66 x67 x68 x69 x70 x71 x72 x73 x74 x75 x76 x77 x78 x79 x80 x81 x82 x83 x84 x85 x86 x87 x88 x89 x90 x91 x92 x93 x94 x95 x96 x97 x98 x99 x100 x101 x102 x103 x104 x105 x106 x107 x108 x109 x110 x111 x112 x113 x114 x115 x116 x117 x118 x119 x120 x121 x122 x123 x124 x125 x126 x127 x128 x129 x130 x131 x132 x133 x134 x135 x136 x137 x138 x139 x140 x141 x142 x143 x144 x145 x146 x147 x148 x149 x150 x151 x152 x153 x154 x155 x156 x157 x158 x159 x160 x161 x162 x163 x164 x165 x166 x167 x168 x169 x170 x171 x172 x173 x174 x175 x176 x177 x178 x179 x180 x181 x182 x183 x184 x185 x186 x187 x188 : Value} {ds : List Deferred} (hR : K { tmps := #[x0, x1, x2, x3, x4, x5, x6, x7, x8, x9, x10, x11, x12, x13, x14, x15, x16, x17, x18, x19, x20, .int .i64 v, x22, x23, x24, x25, x26, x27, x28, x29, x30, x31, x32, x33, x34, x35, x36, x37, x38, x39, x40, x41, x42, x43, x44, x45, x46, x47, x48, x49, x50, x51, x52, x53, x54, x55, x56, x57, x58, x59, x60, x61, x62, x63, x64, x65, x66, x67, x68, x69, x70, x71, x72, x73, x74, x75, x76, x77, x78, x79, x80, x81, x82, x83, x84, x85, x86, x87, x88, x89, x90, x91, x92, x93, x94, x95, x96, x97, x98, x99, x100, x101, x102, x103, x104, x105, x106, x107, x108, x109, x110, x111, x112, x113, x114, x115, x116, x117, x118, x119, x120, x121, x122, x123, x124, x125, x126, x127, x128, x129, x130, x131, x132, x133, x134, x135, x136, x137, x138, x139, x140, x141, x142, x143, x144, x145, x146, x147, x148, x149, x150, x151, x152, x153, x154, x155, x156, x157, x158, x159, x160, x161, x162, .int .i64 v, .bool false, .bool false, undef, undef, undef, undef, undef, undef, undef, undef, undef, undef, undef, .bool false, x178, x179, x180, x181, x182, x183, x184, x185, x186, x187, x188], defers := ds } Wc.drew) :
    r41_35.wpIn Fence.wide n Try.prog (Exit.then K Q) { tmps := #[x0, x1, x2, x3, x4, x5, x6, x7, x8, x9, x10, x11, x12, x13, x14, x15, x16, x17, x18, x19, x20, .int .i64 v, x22, x23, x24, x25, x26, x27, x28, x29, x30, x31, x32, x33, x34, x35, x36, x37, x38, x39, x40, x41, x42, x43, x44, x45, x46, x47, x48, x49, x50, x51, x52, x53, x54, x55, x56, x57, x58, x59, x60, x61, x62, x63, x64, x65, x66, x67, x68, x69, x70, x71, x72, x73, x74, x75, x76, x77, x78, x79, x80, x81, x82, x83, x84, x85, x86, x87, x88, x89, x90, x91, x92, x93, x94, x95, x96, x97, x98, x99, x100, x101, x102, x103, x104, x105, x106, x107, x108, x109, x110, x111, x112, x113, x114, x115, x116, x117, x118, x119, x120, x121, x122, x123, x124, x125, x126, x127, x128, x129, x130, x131, x132, x133, x134, x135, x136, x137, x138, x139, x140, x141, x142, x143, x144, x145, x146, x147, x148, x149, x150, x151, x152, x153, x154, x155, x156, x157, x158, x159, x160, x161, x162, x163, x164, x165, x166, x167, x168, x169, x170, x171, x172, x173, x174, x175, x176, x177, x178, x179, x180, x181, x182, x183, x184, x185, x186, x187, x188], defers := ds } Wc := by
  refine wpIn_nrm (R := K) ?_ (fun _ _ h => h)
  unfold r41_35 c41
  simp only [cA, cB, bodyOf, Try.f41]
  have hv2 : decide (v ≥ 0) = false := decide_eq_false (by omega)
  refine wpIn_region_any (by kernel_rfl) ?_
  have step : ∀ {i : Nat} {oi : Oper} {u : Value} {fuel : Nat} {listed : Array Bool} {a : Act} {w : World} {ops : Array Oper}, ops[i]? = some oi → Region.noSelect ops = true → Region.free .any ops listed i = true → (Region.ready .any ops listed).contains i = true → YieldsFenced Try.prog ops oi u a →
      wpAnyIn Fence.wide n Try.prog .any ops (nrm K) fuel (listed.setIfInBounds i true) (a.put oi.dst u) w → wpAnyIn Fence.wide n Try.prog .any ops (nrm K) (fuel + 1) listed a w :=
    fun h1 h2 h3 h4 h5 h6 => wpAnyIn_take rfl h1 h2 h3 h4 (fun c a w h => h) h5 h6
  refine step (i := 0) (u := .int .i64 v) (fuel := 14) rfl (by kernel_rfl) (by kernel_rfl) (by kernel_rfl) ⟨.inl ⟨rfl, fun w => rfl⟩, fun w => rfl⟩ ?_
  refine step (i := 1) (u := .bool (decide (v ≥ 0))) (fuel := 13) rfl (by kernel_rfl) (by kernel_rfl) (by kernel_rfl) ⟨.inl ⟨rfl, fun w => by kernel_rfl⟩, fun w => by kernel_rfl⟩ ?_
  rw [hv2]
  refine step (i := 2) (u := .bool false) (fuel := 12) rfl (by kernel_rfl) (by kernel_rfl) (by kernel_rfl) ⟨.inl ⟨rfl, fun w => rfl⟩, fun w => rfl⟩ ?_
  refine step (i := 3) (u := undef) (fuel := 11) rfl (by kernel_rfl) (by kernel_rfl) (by kernel_rfl) ⟨.inr ⟨by kernel_rfl, rfl⟩, fun w => by kernel_rfl⟩ ?_
  refine step (i := 4) (u := undef) (fuel := 10) rfl (by kernel_rfl) (by kernel_rfl) (by kernel_rfl) ⟨.inr ⟨by kernel_rfl, rfl⟩, fun w => by kernel_rfl⟩ ?_
  refine step (i := 5) (u := undef) (fuel := 9) rfl (by kernel_rfl) (by kernel_rfl) (by kernel_rfl) ⟨.inr ⟨by kernel_rfl, rfl⟩, fun w => by kernel_rfl⟩ ?_
  refine step (i := 6) (u := undef) (fuel := 8) rfl (by kernel_rfl) (by kernel_rfl) (by kernel_rfl) ⟨.inr ⟨by kernel_rfl, rfl⟩, fun w => by kernel_rfl⟩ ?_
  refine step (i := 7) (u := undef) (fuel := 7) rfl (by kernel_rfl) (by kernel_rfl) (by kernel_rfl) ⟨.inr ⟨by kernel_rfl, rfl⟩, fun w => by kernel_rfl⟩ ?_
  refine step (i := 8) (u := undef) (fuel := 6) rfl (by kernel_rfl) (by kernel_rfl) (by kernel_rfl) ⟨.inr ⟨by kernel_rfl, rfl⟩, fun w => by kernel_rfl⟩ ?_
  refine step (i := 9) (u := undef) (fuel := 5) rfl (by kernel_rfl) (by kernel_rfl) (by kernel_rfl) ⟨.inr ⟨by kernel_rfl, rfl⟩, fun w => by kernel_rfl⟩ ?_
  refine step (i := 10) (u := undef) (fuel := 4) rfl (by kernel_rfl) (by kernel_rfl) (by kernel_rfl) ⟨.inr ⟨by kernel_rfl, rfl⟩, fun w => by kernel_rfl⟩ ?_
  refine step (i := 11) (u := undef) (fuel := 3) rfl (by kernel_rfl) (by kernel_rfl) (by kernel_rfl) ⟨.inr ⟨by kernel_rfl, rfl⟩, fun w => by kernel_rfl⟩ ?_
  refine step (i := 12) (u := undef) (fuel := 2) rfl (by kernel_rfl) (by kernel_rfl) (by kernel_rfl) ⟨.inr ⟨by kernel_rfl, rfl⟩, fun w => by kernel_rfl⟩ ?_
  refine step (i := 13) (u := undef) (fuel := 1) rfl (by kernel_rfl) (by kernel_rfl) (by kernel_rfl) ⟨.inr ⟨by kernel_rfl, rfl⟩, fun w => by kernel_rfl⟩ ?_
  refine step (i := 14) (u := .bool false) (fuel := 0) rfl (by kernel_rfl) (by kernel_rfl) (by kernel_rfl) ⟨.inl ⟨by kernel_rfl, fun w => by kernel_rfl⟩, fun w => by kernel_rfl⟩ ?_
  refine ⟨by kernel_rfl, ?_⟩
  refine (congrArg (fun a => K a Wc.drew) ?_).mp hR
  simp [Act.put]
set_option maxHeartbeats 16000000 in
theorem reg35b {n : Nat} {Wc : World} {g r cp s L B k t m x : Nat} {v tt : Int} (hkL : k < L + 1) (hx : v + (m : Int) = x) (hx2 : x ≤ 100000) (hv : 0 ≤ v) (hts : t < s + 1) (q11 : Wc.cell? ⟨g + 2, 0, none⟩ = some (.slice (some ⟨g + 1, 0, none⟩) (L + 1) (L + 1))) (q5 : Wc.cell? ⟨B, 0, none⟩ = some (.int .i64 (t : Nat))) (qt : Wc.cell? ⟨g + 1, k, none⟩ = some (.slice (some ⟨r, 0, none⟩) (s + 1) cp)) (qr : Wc.cell? ⟨r, t, none⟩ = some (.int .i64 tt))
    {K : Act → World → Prop} {Q : Exit → Act → World → Prop} {x0 x1 x2 x3 x4 x6 x7 x8 x9 x10 x12 x13 x14 x15 x16 x17 x19 x22 x23 x24 x25 x26 x27 x28 x29 x30 x31 x32 x33 x34 x35 x36 x37 x38 x39 x40 x41 x42 x43 x44 x45 x46 x47 x48 x49 x50 x51 x52 x53 x54 x55 x56 x57 x58 x59 x60 x61 x62 x63 x64 x65 x66 x67 x68 x69 x70 x71 x72 x73 x74 x75 x76 x77 x78 x79 x80 x81 x82 x83 x84 x85 x86 x87 x88 x89 x90 x91 x92 x93 x94 x95 x96 x97 x98 x99 x100 x101 x102 x103 x104 x105 x106 x107 x108 x109 x110 x111 x112 x113 x114 x115 x116 x117 x118 x119 x120 x121 x122 x123 x124 x125 x126 x127 x128 x129 x130 x131 x132 x133 x134 x135 x136 x137 x138 x139 x140 x141 x142 x143 x144 x145 x146 x147 x148 x149 x150 x151 x152 x153 x154 x155 x156 x157 x158 x159 x160 x161 x162 x163 x164 x165 x166 x167 x168 x169 x170 x171 x172 x173 x174 x175 x176 x177 x178 x179 x180 x181 x182 x183 x184 x185 x186 x187 x188 : Value} {ds : List Deferred} (hR : K { tmps := #[x0, x1, x2, x3, x4, .pointer (some ⟨B, 0, none⟩), x6, x7, x8, x9, x10, .pointer (some ⟨g + 2, 0, none⟩), x12, x13, x14, x15, x16, x17, .int .i64 (k : Nat), x19, .int .i64 (m : Nat), .int .i64 v, x22, x23, x24, x25, x26, x27, x28, x29, x30, x31, x32, x33, x34, x35, x36, x37, x38, x39, x40, x41, x42, x43, x44, x45, x46, x47, x48, x49, x50, x51, x52, x53, x54, x55, x56, x57, x58, x59, x60, x61, x62, x63, x64, x65, x66, x67, x68, x69, x70, x71, x72, x73, x74, x75, x76, x77, x78, x79, x80, x81, x82, x83, x84, x85, x86, x87, x88, x89, x90, x91, x92, x93, x94, x95, x96, x97, x98, x99, x100, x101, x102, x103, x104, x105, x106, x107, x108, x109, x110, x111, x112, x113, x114, x115, x116, x117, x118, x119, x120, x121, x122, x123, x124, x125, x126, x127, x128, x129, x130, x131, x132, x133, x134, x135, x136, x137, x138, x139, x140, x141, x142, x143, x144, x145, x146, x147, x148, x149, x150, x151, x152, x153, x154, x155, x156, x157, x158, x159, x160, x161, x162, .int .i64 v, .bool true, .bool true, .int .i64 v, .int .i64 m, .int .i64 x, .slice (some ⟨g + 1, 0, none⟩) (L + 1) (L + 1), .int .i64 k, .pointer (some ⟨g + 1, k, none⟩), .slice (some ⟨r, 0, none⟩) (s + 1) cp, .int .i64 t, .pointer (some ⟨r, t, none⟩), .int .i64 tt, .bool (decide ((x : Int) = tt)), .bool (decide ((x : Int) = tt)), x178, x179, x180, x181, x182, x183, x184, x185, x186, x187, x188], defers := ds } Wc.drew) :
    r41_35.wpIn Fence.wide n Try.prog (Exit.then K Q) { tmps := #[x0, x1, x2, x3, x4, .pointer (some ⟨B, 0, none⟩), x6, x7, x8, x9, x10, .pointer (some ⟨g + 2, 0, none⟩), x12, x13, x14, x15, x16, x17, .int .i64 (k : Nat), x19, .int .i64 (m : Nat), .int .i64 v, x22, x23, x24, x25, x26, x27, x28, x29, x30, x31, x32, x33, x34, x35, x36, x37, x38, x39, x40, x41, x42, x43, x44, x45, x46, x47, x48, x49, x50, x51, x52, x53, x54, x55, x56, x57, x58, x59, x60, x61, x62, x63, x64, x65, x66, x67, x68, x69, x70, x71, x72, x73, x74, x75, x76, x77, x78, x79, x80, x81, x82, x83, x84, x85, x86, x87, x88, x89, x90, x91, x92, x93, x94, x95, x96, x97, x98, x99, x100, x101, x102, x103, x104, x105, x106, x107, x108, x109, x110, x111, x112, x113, x114, x115, x116, x117, x118, x119, x120, x121, x122, x123, x124, x125, x126, x127, x128, x129, x130, x131, x132, x133, x134, x135, x136, x137, x138, x139, x140, x141, x142, x143, x144, x145, x146, x147, x148, x149, x150, x151, x152, x153, x154, x155, x156, x157, x158, x159, x160, x161, x162, x163, x164, x165, x166, x167, x168, x169, x170, x171, x172, x173, x174, x175, x176, x177, x178, x179, x180, x181, x182, x183, x184, x185, x186, x187, x188], defers := ds } Wc := by
  refine wpIn_nrm (R := K) ?_ (fun _ _ h => h)
  unfold r41_35 c41
  simp only [cA, cB, bodyOf, Try.f41]
  gi_region
  all_goals exact hR
end
end Go.Proofs.Ytjgmfdgpgdaclaa
