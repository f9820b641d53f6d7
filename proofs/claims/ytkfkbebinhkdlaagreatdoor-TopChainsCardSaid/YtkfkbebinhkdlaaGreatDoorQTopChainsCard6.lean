/- Texts of this claim, joined: G30 to G64. -/
import Derived.BigRegion
import Derived.ChangeAlike
import Derived.Deep.RegionWith
import Derived.KernelRfl
import Derived.Lib.Hide
import Derived.LoopIn
import Derived.LoopNIn
import Derived.LoopTactic
import Derived.Outline
import Derived.OwnWalkIn
import Derived.RangeFuncBound
import Derived.RangeFuncBox
import Derived.RangeFuncCalls
import Derived.RangeFuncLeaves
import Derived.RangeFuncNested
import Derived.RegionTactic
import Derived.Shelf.Abstract
import Derived.StillTailTactics
import Derived.TacticsInMore
import Derived.Test.YtkfkbebinhkdlaaGreatDoorProg
import Derived.WalkKit
import Derived.Test.YtkfkbebinhkdlaaGreatDoorQTopChainsCard5
set_option linter.unusedVariables false
set_option linter.unusedSimpArgs false
set_option maxRecDepth 100000
namespace Go.Proofs.YtkfkbebinhkdlaaGreatDoor
open Go.Vi
abbrev R30 := List Int
noncomputable def c30 : Code := bodyOf Tryz.f30
noncomputable def an30 : Ann := (.s .l (.s .l (.s (.s .l (.j [5] (.j [0, 1, 5, 6] (.s (.s .l (.j [0, 1, 5, 6] .l .l)) (.s (.j [0, 1, 5, 6] (.s .l (.s (.s .l (.j [0, 1, 5, 6, 7] (.j [0, 1, 5, 6, 7, 17, 18, 19] (.s .l (.s (.j [0, 1, 5, 6, 7, 17, 18, 19] .l .l) (.j [] (.j [0, 1, 5, 6, 7, 17, 18, 19] (.s .l (.s .l (.j [0, 1, 5, 6, 7, 17, 18, 19] .l .l))) .l) .l))) .l) .l)) .l)) .l) .l)) .l) .l)) .l)))
def pk30 : List PK := [.c (.sl (.int .i64)), .c (.int .i64)]
def rk30 : List RK := [.own (.int .i64) 4]
noncomputable def rt30 (st : St) : Option R30 := rtG rk30 st
noncomputable def E30 (n : Nat × Nat) : Env := { T := tab, phi := noPhi, eff := fun _ => false, fuel := n.1, hold := n.2 }
noncomputable def kq30_1 (n : Nat × Nat) : St → Option R30 := run (E30 n) (cB (cB (cB c30))) (Ann.snd (Ann.snd (Ann.snd an30))) rt30 (fun _ _ => none) rt30
noncomputable def xb30_3 (n : Nat × Nat) : Nat → St → Option R30 := fun j s => bif Nat.beq j 0 then normC [5] s (kq30_1 n) else (fun _ _ => none) j s
noncomputable def F30_4 (n : Nat × Nat) : (St → Option R30) → St → Option R30 := fun K s => run (E30 n) (cA (cA (cB (cA (cB (cB c30)))))) (Ann.fst (Ann.fst (Ann.snd (Ann.fst (Ann.snd (Ann.snd an30)))))) (fun s => normC [0, 1, 5, 6] s K) (xb30_3 n) rt30 s
noncomputable def kq30_7 (n : Nat × Nat) (m1 : Nat) : St → Option R30 := run (E30 n) (cB (cB (cA (cA (cB (cA (cB (cB c30)))))))) (Ann.snd (Ann.snd (Ann.fst (Ann.fst (Ann.snd (Ann.fst (Ann.snd (Ann.snd an30)))))))) (fun s => normC [0, 1, 5, 6] s (loopN (F30_4 n) m1)) (xb30_3 n) rt30
noncomputable def kc30_8 (n : Nat × Nat) (m1 : Nat) : St → Option R30 := fun s => normC [0, 1, 5, 6] s (kq30_7 n m1)
noncomputable def xb30_9 (n : Nat × Nat) (m1 : Nat) : Nat → St → Option R30 := fun j s => bif Nat.beq j 1 then normC [0, 1, 5, 6] s (kq30_7 n m1) else (xb30_3 n) j s
noncomputable def kq30_10 (n : Nat × Nat) (m1 : Nat) : St → Option R30 := run (E30 n) (cB (cB (cA (cA (cB (cA (cA (cB (cA (cB (cB c30))))))))))) (Ann.snd (Ann.snd (Ann.fst (Ann.fst (Ann.snd (Ann.fst (Ann.fst (Ann.snd (Ann.fst (Ann.snd (Ann.snd an30))))))))))) (kc30_8 n m1) (xb30_9 n m1) rt30
noncomputable def xb30_12 (n : Nat × Nat) (m1 : Nat) : Nat → St → Option R30 := fun j s => bif Nat.beq j 2 then normC [0, 1, 5, 6, 7] s (kq30_10 n m1) else (xb30_9 n m1) j s
noncomputable def F30_13 (n : Nat × Nat) (m1 : Nat) : (St → Option R30) → St → Option R30 := fun K s => run (E30 n) (cA (cA (cB (cA (cB (cA (cA (cB (cA (cA (cB (cA (cB (cB c30)))))))))))))) (Ann.fst (Ann.fst (Ann.snd (Ann.fst (Ann.snd (Ann.fst (Ann.fst (Ann.snd (Ann.fst (Ann.fst (Ann.snd (Ann.fst (Ann.snd (Ann.snd an30)))))))))))))) (fun s => normC [0, 1, 5, 6, 7, 17, 18, 19] s K) (xb30_12 n m1) rt30 s
noncomputable def kq30_16 (n : Nat × Nat) (m1 m2 : Nat) : St → Option R30 := run (E30 n) (cB (cB (cB (cA (cA (cB (cA (cB (cA (cA (cB (cA (cA (cB (cA (cB (cB c30))))))))))))))))) (Ann.snd (Ann.snd (Ann.snd (Ann.fst (Ann.fst (Ann.snd (Ann.fst (Ann.snd (Ann.fst (Ann.fst (Ann.snd (Ann.fst (Ann.fst (Ann.snd (Ann.fst (Ann.snd (Ann.snd an30))))))))))))))))) (fun s => normC [0, 1, 5, 6, 7, 17, 18, 19] s (loopN (F30_13 n m1) m2)) (xb30_12 n m1) rt30
noncomputable def L30_1 (n : Nat × Nat) (m : Nat) (coins0 : List Int) (most1 : Int) (sum6 : Int) (out5 : List Int) : Option R30 := loopN (F30_4 n) m { tm := [.c (.sl (.int .i64) coins0 false), .c (.int .i64 most1), uu, uu, uu, .own 5 none false, .c (.int .i64 sum6), uu, uu, uu, uu, uu, uu, uu, uu, uu, uu, uu, uu, uu, uu, uu, uu, uu, uu, uu, uu, uu, uu, uu, uu, uu, uu, uu, uu, uu, uu, uu, uu, uu, uu], hp := (upd emp 5 (.arr (.int .i64) out5 false)) }
noncomputable def L30_2 (n : Nat × Nat) (m1 : Nat) (m : Nat) (coins0 : List Int) (most1 : Int) (sum6 : Int) (v7 : Int) (v17 : List Int) (v18 : Int) (v19 : Int) (out5 : List Int) : Option R30 := loopN (F30_13 n m1) m { tm := [.c (.sl (.int .i64) coins0 false), .c (.int .i64 most1), uu, uu, uu, .own 5 none false, .c (.int .i64 sum6), .c (.int .i64 v7), uu, uu, uu, uu, uu, uu, uu, uu, uu, .c (.sl (.int .i64) v17 false), .c (.int .i64 v18), .c (.int .i64 v19), uu, uu, uu, uu, uu, uu, uu, uu, uu, uu, uu, uu, uu, uu, uu, uu, uu, uu, uu, uu, uu], hp := (upd emp 5 (.arr (.int .i64) out5 false)) }
noncomputable def L30_3 (n : Nat × Nat) (m1 m2 : Nat) (coins0 : List Int) (most1 : Int) (sum6 : Int) (v7 : Int) (v17 : List Int) (v18 : Int) (v19 : Int) (out5 : List Int) : Option R30 := loopN (fun _ => (kq30_16 n m1 m2)) n.2 { tm := [.c (.sl (.int .i64) coins0 false), .c (.int .i64 most1), uu, uu, uu, .own 5 none false, .c (.int .i64 sum6), .c (.int .i64 v7), uu, uu, uu, uu, uu, uu, uu, uu, uu, .c (.sl (.int .i64) v17 false), .c (.int .i64 v18), .c (.int .i64 v19), uu, uu, uu, uu, uu, uu, uu, uu, uu, uu, uu, uu, uu, uu, uu, uu, uu, uu, uu, uu, uu], hp := (upd emp 5 (.arr (.int .i64) out5 false)) }
theorem L30_1_eq (n : Nat × Nat) (m1 : Nat) (coins0 : List Int) (most1 : Int) (sum6 : Int) (out5 : List Int) : L30_1 n (m1 + 1) coins0 most1 sum6 out5 =
 (bif decide (sum6 ≤ most1) then L30_2 n m1 n.1 coins0 most1 sum6 sum6 coins0 (coins0.length : Int) 0 out5
 else some out5) := by kernel_rfl
theorem L30_2_eq (n : Nat × Nat) (m1 m2 : Nat) (coins0 : List Int) (most1 : Int) (sum6 : Int) (v7 : Int) (v17 : List Int) (v18 : Int) (v19 : Int) (out5 : List Int) : L30_2 n m1 (m2 + 1) coins0 most1 sum6 v7 v17 v18 v19 out5 =
 (bif decide (v19 < v18) then (idx v17 v19).bind fun x1' =>
 (bif decide (x1' ≤ sum6) then (bif inB (wr .i64 (sum6 - x1')) out5.length then (idx out5 (wr .i64 (sum6 - x1'))).bind fun x2' =>
          L30_3 n m1 m2 coins0 most1 sum6 (if (wr .i64 (1 + x2')) < v7 then (wr .i64 (1 + x2')) else v7) v17 v18 v19 out5
 else none)
 else L30_3 n m1 m2 coins0 most1 sum6 v7 v17 v18 v19 out5)
 else (bif decide (out5.length + [v7].length ≤ lim) then L30_1 n m1 coins0 most1 (wr .i64 (sum6 + 1)) (out5 ++ [v7])
 else none)) := by kernel_rfl
theorem L30_3_raw (n : Nat × Nat) (m1 m2 : Nat) (coins0 : List Int) (most1 : Int) (sum6 : Int) (v7 : Int) (v17 : List Int) (v18 : Int) (v19 : Int) (out5 : List Int) : (kq30_16 n m1 m2) { tm := [.c (.sl (.int .i64) coins0 false), .c (.int .i64 most1), uu, uu, uu, .own 5 none false, .c (.int .i64 sum6), .c (.int .i64 v7), uu, uu, uu, uu, uu, uu, uu, uu, uu, .c (.sl (.int .i64) v17 false), .c (.int .i64 v18), .c (.int .i64 v19), uu, uu, uu, uu, uu, uu, uu, uu, uu, uu, uu, uu, uu, uu, uu, uu, uu, uu, uu, uu, uu], hp := (upd emp 5 (.arr (.int .i64) out5 false)) } =
    L30_2 n m1 m2 coins0 most1 sum6 v7 v17 v18 (wr .i64 (v19 + 1)) out5 := by kernel_rfl
noncomputable def S30 (n : Nat × Nat) (coins0 : List Int) (most1 : Int) : Option R30 := run (E30 n) c30 an30 rt30 (fun _ _ => none) rt30 { tm := [.c (.sl (.int .i64) coins0 false), .c (.int .i64 most1), uu, uu, uu, uu, uu, uu, uu, uu, uu, uu, uu, uu, uu, uu, uu, uu, uu, uu, uu, uu, uu, uu, uu, uu, uu, uu, uu, uu, uu, uu, uu, uu, uu, uu, uu, uu, uu, uu, uu], hp := emp }
theorem S30_eq (n : Nat × Nat) (coins0 : List Int) (most1 : Int) : S30 n coins0 most1 =
    L30_1 n n.1 coins0 most1 1 [0] := by kernel_rfl
theorem S30_run (n : Nat × Nat) (xs : pksDen pk30) : S30 n xs.1 xs.2.1 = runG (E30 n) noScope c30 an30 (rtG rk30) (fun _ _ => none) (rtG rk30) (st0 pk30 xs Tryz.f30.ntmps) := by kernel_rfl
noncomputable def P30 (n : Nat × Nat) := phiOf pk30 rk30 (fun xs => S30 n xs.1 xs.2.1)
theorem call30 : CallOK Tryz.prog 30 := callOK_of Tryz.func30 (by kernel_rfl) (by kernel_rfl)
theorem env30 (n : Nat × Nat) : EnvOK Tryz.prog (E30 n) := envOK0 noPhi_ok rfl rfl
theorem par30 (n : Nat × Nat) : EnvPar (E30 n) := envPar0 noPhi_par rfl
theorem FC30 (n : Nat × Nat) : FCs Tryz.prog 30 (P30 n) := phiOf_FCs fun xs r h vs hv => FC.of_runG tabOK eqsOK (env30 n) (par30 n) mixed (fun _ p _ => noScope_ok p.1 p.2) Tryz.func30 (c := c30) (an := an30) (pks := pk30) (rks := rk30) (by kernel_rfl) (by kernel_rfl) hv ((S30_run n xs).symm.trans h)
end Go.Proofs.YtkfkbebinhkdlaaGreatDoor
set_option linter.unusedVariables false
set_option linter.unusedSimpArgs false
set_option maxRecDepth 100000
namespace Go.Proofs.YtkfkbebinhkdlaaGreatDoor
open Go.RowKit Go.Shelf
attribute [local go_sem] Oper.semAt_some
/-- The numbers from one on, the last one first. -/
def bw (len m : Nat) : List (Fin len) := ((List.finRange len).drop m).reverse
theorem bw_top (len : Nat) : bw len len = [] := by simp [bw]
theorem bw_snoc (len m : Nat) (h : m < len) : bw len m = bw len (m + 1) ++ [⟨m, h⟩] := by
  unfold bw
  rw [List.drop_eq_getElem_cons (by simpa using h)]
  simp
theorem bw_length (len m : Nat) : (bw len m).length = len - m := by simp [bw]
/-- What a round keeps: what lay below n₀, and the box that holds the slice. -/
def KpB (n₀ Bs : Nat) (W W' : World) : Prop := Below n₀ W W' ∧ W'.heap[Bs]? = W.heap[Bs]?
theorem KpB.refl (n₀ Bs : Nat) (W : World) : KpB n₀ Bs W W := ⟨Below.refl _ _, rfl⟩
theorem KpB.trans {n₀ Bs : Nat} {A B C : World} (h : KpB n₀ Bs A B) (k : KpB n₀ Bs B C) : KpB n₀ Bs A C := ⟨h.1.trans k.1, k.2.trans h.2⟩
theorem KpB.b {w : World} {n₀ Bs : Nat} (hn : n₀ ≤ w.heap.size) (hb : Bs < w.heap.size) (W : World) (l : Nat) (o o' : Obj) (hl : w.heap.size ≤ l) (ho : W.heap[l]? = some o) (hc : o.isCells = false) (hw : o.isWalk = false) : KpB n₀ Bs W (W.putObj l o') :=
  ⟨belowK_b hn W l o o' hl ho hc hw, World.putObj_heap_other (by omega)⟩
set_option maxHeartbeats 2000000 in
/-- slices.Backward's closure, for every loop body that keeps what lay below n₀. -/
theorem back1_in (F : Fence) (n : Nat) (hC : F.fn 50) (hro : F.round = none) (hn : 1 ≤ n) (l Bs n₀ b off cap : Nat) (zs : List Int) (hreach : zs.length * 8 ≤ 140737488351232) (hb : b < n₀) (J Jx : List (Fin zs.length) → World → Prop)
    (hY : ∀ pre x W, J pre W → pre.length < zs.length → YieldAt F (n - 1) Tryz.prog l #[.int .i64 (x.val : Int), .int .i64 (zs[x.val]'x.isLt)] W fun e W' =>
      (e = .returned (.bool true) ∧ J (pre ++ [x]) W' ∧ KpB n₀ Bs W W') ∨ (e = .returned (.bool false) ∧ Jx (pre ++ [x]) W'))
    (W : World) (hBs : W.cell? ⟨Bs, 0, none⟩ = some (.slice (some ⟨b, off, none⟩) zs.length cap)) (hc : ∀ j (h : j < zs.length), W.cell? ⟨b, off + j, none⟩ = some (.int .i64 zs[j])) (h0 : J [] W) :
    CallsIn F n Tryz.prog 50 #[.func (.yield l) #[] #[], .pointer (some ⟨Bs, 0, none⟩)] W fun e W' => (∃ v, e = .returned v) ∧
      ((∃ ys, ys = bw zs.length 0 ∧ J ys W') ∨ (∃ pre, (∃ k, k < zs.length ∧ pre = bw zs.length k) ∧ Jx pre W')) := by
  refine callsIn_of_wp Tryz.func50 rfl hC ?_ hro
  simp only [Tryz.ntmps50, List.size_toArray, List.length_cons, List.length_nil, Nat.reduceAdd, Nat.reduceSub, Array.replicate_succ, Array.replicate_zero, List.push_toArray, List.append_toArray, List.nil_append, List.cons_append]
  gi_wp2
  gi_loopw [3] (fun i wr => (∃ k : Nat, k < zs.length ∧ i = .int .i64 k ∧ J (bw zs.length (k + 1)) wr ∧ KpB n₀ Bs W wr) ∨ (i = .int .i64 (-1) ∧ J (bw zs.length 0) wr ∧ KpB n₀ Bs W wr))
    (fun i _ => (intOf i + 1).toNat)
  case atStart =>
    rcases Nat.eq_zero_or_pos zs.length with h | h
    · exact .inr ⟨by simp [h], by rw [List.eq_nil_of_length_eq_zero ((bw_length zs.length 0).trans (by omega))]; exact h0, KpB.refl _ _ _⟩
    · exact .inl ⟨zs.length - 1, by omega, by congr 1; omega, by rw [show zs.length - 1 + 1 = zs.length by omega, bw_top]; exact h0, KpB.refl _ _ _⟩
  case round =>
    rcases hrel with ⟨k, hk, rfl, hJs, hnx⟩ | ⟨rfl, hJs, hnx⟩
    · have hcx := (hnx.1.cell (p := ⟨b, off + k, none⟩) hb).trans (hc k hk)
      have hBs' : wr.cell? ⟨Bs, 0, none⟩ = some (.slice (some ⟨b, off, none⟩) zs.length cap) := by rw [← hBs]; simp only [World.cell?, hnx.2]
      obtain ⟨fn, tmps, assign, body, hy, hR⟩ := hY _ ⟨k, hk⟩ wr hJs (by rw [bw_length]; omega)
      dsimp only at hy
      gi_wp2
      refine hR.mono ?_
      rintro e W3 (⟨rfl, hJ3, hk3⟩ | ⟨rfl, hJx3⟩)
      · rw [← bw_snoc _ _ hk] at hJ3
        gi_wp2
        go_roundw
        case rel =>
          cases k with
          | zero => exact .inr ⟨by simp, hJ3, hnx.trans hk3⟩
          | succ k => exact .inl ⟨k, by omega, by congr 1; omega, hJ3, hnx.trans hk3⟩
        case measure => simp [intOf]
      · rw [← bw_snoc _ _ hk] at hJx3
        gi_wp2
        refine bodyPost_ret (results_none rfl _ _ _) rfl ?_
        exact ⟨⟨_, rfl⟩, .inr ⟨_, ⟨k, hk, rfl⟩, hJx3⟩⟩
    · gi_wp2
      go_end0
      exact ⟨⟨_, rfl⟩, .inl ⟨_, rfl, hJs⟩⟩
set_option maxHeartbeats 1000000 in
/-- slices.Backward(s): the slice value is boxed; the function value captures the box. -/
theorem back_in (F : Fence) (n : Nat) (hB : F.fn 42) (hro : F.round = none) (a : Option Addr) (len cap : Nat) (w : World) :
    CallsIn F n Tryz.prog 42 #[.slice a len cap] w fun e w' => e = .returned (.func (.func 50) #[] #[.pointer (some ⟨w.heap.size, 0, none⟩)]) ∧ w' = w.alloc (.cells #[.slice a len cap] 23) := by
  refine callsIn_of_wp Tryz.func42 rfl hB ?_ hro
  simp only [Tryz.ntmps42, List.size_toArray, List.length_cons, List.length_nil, Nat.reduceAdd, Nat.reduceSub, Array.replicate_succ, Array.replicate_zero, List.push_toArray, List.append_toArray, List.nil_append, List.cons_append]
  gi_wp2
  go_ret
  exact ⟨rfl, rfl⟩
/-- slices.Backward(s) hands back a value that 'SeqStopsK'. -/
theorem back_stops (F : Fence) (n : Nat) (hC : F.fn 50) (hro : F.round = none) (hn : 1 ≤ n) (Bs n₀ b off cap : Nat) (zs : List Int) (hreach : zs.length * 8 ≤ 140737488351232) (w : World) (hBs : Bs < w.heap.size) (hn₀ : n₀ ≤ w.heap.size)
    (hc : w.cell? ⟨Bs, 0, none⟩ = some (.slice (some ⟨b, off, none⟩) zs.length cap)) (hb : b < n₀) (hcs : ∀ j (h : j < zs.length), w.cell? ⟨b, off + j, none⟩ = some (.int .i64 zs[j])) :
    SeqStopsK F n Tryz.prog 50 #[.pointer (some ⟨Bs, 0, none⟩)] (fun x : Fin zs.length => #[Value.int .i64 (x.val : Int), Value.int .i64 (zs[x.val]'x.isLt)]) (KpB n₀ Bs) (fun ys => ys = bw zs.length 0)
      (fun pre => ∃ k, k < zs.length ∧ pre = bw zs.length k) zs.length w := fun l J Jx W hW _ _ hY h0 => by
  have hc' := (hW.cell (p := ⟨Bs, 0, none⟩) hBs).trans hc
  exact back1_in F n hC hro hn l Bs n₀ b off cap zs hreach hb J Jx hY W hc' (fun j hj => (hW.cell (p := ⟨b, off + j, none⟩) (Nat.lt_of_lt_of_le hb hn₀)).trans (hcs j hj)) h0
end Go.Proofs.YtkfkbebinhkdlaaGreatDoor
/-
  What the walks by hand share: blocks of cells; numbers that are handed in; numbers that go out.
-/
set_option linter.unusedVariables false
set_option linter.unusedSimpArgs false
set_option maxRecDepth 100000
namespace Go.Proofs.YtkfkbebinhkdlaaGreatDoor
open Go.RowKit Go.Shelf
/-- A block of cells. -/
def Blk (W : World) (b : Nat) (cur : Array Value) (t : TypeId) : Prop := W.heap[b]? = some (.cells cur t (0, 0))
theorem Blk.cell {W : World} {b : Nat} {cur : Array Value} {t : TypeId} (h : Blk W b cur t) (j : Nat) {v : Value} (hv : cur[j]? = some v) : W.cell? ⟨b, j, none⟩ = some v := by simp [World.cell?, show W.heap[b]? = _ from h, hv]
theorem Blk.frozen {W : World} {b : Nat} {cur : Array Value} {t : TypeId} (h : Blk W b cur t) (j : Nat) : W.frozen? ⟨b, j, none⟩ = false := by simp [World.frozen?, show W.heap[b]? = _ from h]
theorem Blk.lt {W : World} {b : Nat} {cur : Array Value} {t : TypeId} (h : Blk W b cur t) : b < W.heap.size := (Array.getElem?_eq_some_iff.1 h).1
theorem Blk.kept {W W' : World} {row : Option Nat} {b : Nat} {cur : Array Value} {t : TypeId} (h : Blk W b cur t) (hg : W.grownBy W' row) (hne : some b ≠ row) : Blk W' b cur t := (hg.block b h.lt hne).trans h
theorem Blk.alloc {W : World} {b : Nat} {cur : Array Value} {t : TypeId} (h : Blk W b cur t) (o : Obj) : Blk (W.alloc o) b cur t := h.kept (World.grownBy_alloc W o none) (by simp)
theorem Blk.new (W : World) (cur : Array Value) (t : TypeId) : Blk (W.alloc (.cells cur t)) W.heap.size cur t := World.alloc_heap_new W _
theorem Blk.set {W : World} {b : Nat} {cur : Array Value} {t : TypeId} (h : Blk W b cur t) (j : Nat) (v : Value) : Blk (W.setCell ⟨b, j, none⟩ v) b (cur.setIfInBounds j v) t := heap_setCell_same W b j cur t v h
theorem Blk.other {W : World} {b : Nat} {cur : Array Value} {t : TypeId} (h : Blk W b cur t) {b' : Nat} (j : Nat) (v : Value) (hne : b ≠ b') : Blk (W.setCell ⟨b', j, none⟩ v) b cur t :=
  (heap_setCell_other W ⟨b', j, none⟩ b v (fun e => hne e)).trans h
theorem blk_own {β : Type} (b : Nat) (t : TypeId) (f : β → Array Value) : Own (fun s W => Blk W b (f s) t) := fun s X Y row hs hg hrow =>
  hs.kept hg (fun e' => by obtain ⟨o, ho, hc⟩ := hrow b e'.symm; rw [show X.heap[b]? = _ from hs] at ho; cases ho; cases hc)
theorem Own.and {β : Type} {I J : β → World → Prop} (h : Own I) (k : Own J) : Own (fun s W => I s W ∧ J s W) := fun s X Y row hs hg hr => ⟨h s X Y row hs.1 hg hr, k s X Y row hs.2 hg hr⟩
theorem own_pure {β : Type} (p : β → Prop) : Own (fun s (_ : World) => p s) := fun _ _ _ _ hs _ _ => hs
def rowI (l : List Int) : Array Value := (l.map (Value.int .i64)).toArray
theorem rowI_set (l : List Int) (i : Nat) (v : Int) : (rowI l).setIfInBounds i (.int .i64 v) = rowI (l.set i v) := by
  apply Array.toList_inj.1
  simp [rowI, List.map_set]
open Go.Vi
/-- A slice of numbers that was handed in. -/
theorem CR_ints {w : World} {A : Nat → Prop} {zs : List Int} {t : Bool} {v : Value} (h : CR w A (.sl (.int .i64) zs t) v) (h0 : 0 < zs.length) (hA : ∀ b, A b → b < w.heap.size) :
    ∃ b off cap, v = .slice (some ⟨b, off, none⟩) zs.length cap ∧ b < w.heap.size ∧ ∀ j (h : j < zs.length), w.cell? ⟨b, off + j, none⟩ = some (.int .i64 zs[j]) := by
  obtain ⟨a, cap, rfl, hcap, _, hr⟩ := h
  rcases hr with hr | ⟨b, o, cur, et, fz, rfl, hb, hc, hl, hx⟩
  · rw [hr] at h0; exact absurd h0 (by simp)
  · refine ⟨b, o, cap, rfl, hA b hb, fun j hj => ?_⟩
    have h1 := hx j zs[j] (by simp)
    have h2 : (cur.toList.drop (o + j * 1)).take 1 = [.int .i64 zs[j]] := h1
    have h3 : cur.toList[o + j]? = some (.int .i64 zs[j]) := by
      rw [Nat.mul_one] at h2
      have := congrArg (fun l => l[0]?) h2
      simpa [List.getElem?_take, List.getElem?_drop] using this
    have h4 : cur[o + j]? = some (.int .i64 zs[j]) := by rw [← Array.getElem?_toList]; exact h3
    show (match w.heap[b]? with | some (.cells c _ _) => c[o + j]? | _ => none) = _
    rw [hc]
    exact h4
/-- Numbers that go out in a new row. -/
theorem out_ints {w W' : World} {A1 : Nat → Prop} {b cap : Nat} {l : List Int} {cur : Array Value} {t : TypeId} (hblk : Blk W' b cur t) (hb : w.heap.size ≤ b) (hcap : l.length ≤ cap) (hsz : cap ≤ cur.size) (hc : ∀ (i : Nat) (x : Int), l[i]? = some x → cur[i]? = some (Value.int .i64 x)) :
    RetR1 w W' A1 (.fresh (.int .i64) l false) (.at b cap) (.slice (some ⟨b, 0, none⟩) l.length cap) := by
  have hlt := hblk.lt
  refine ⟨⟨fun h => (by cases h), hcap, _, _, hblk, ?_, ?_⟩, ⟨rfl, hcap, fun h => (by cases h)⟩, fun b' c' h => ?_⟩
  · show cap * 1 ≤ _
    omega
  · intro i x hi
    show ((cur.toList.drop (i * 1)).take 1) = [.int .i64 x]
    have h1 := hc i x hi
    rw [Nat.mul_one]
    have hlt := (Array.getElem?_eq_some_iff.1 h1).1
    rw [List.drop_eq_getElem_cons (by simpa using hlt)]
    simp [(Array.getElem?_eq_some_iff.1 h1).2]
  · cases h
    exact ⟨hb, hlt⟩
theorem rowI_get {l : List Int} {i : Nat} {x : Int} (h : l[i]? = some x) : (rowI l)[i]? = some (.int .i64 x) := by
  simp [rowI, h]
theorem rowI_size (l : List Int) : (rowI l).size = l.length := by simp [rowI]
end Go.Proofs.YtkfkbebinhkdlaaGreatDoor
/-
  The payment by greatest coins: the walk.
-/
set_option linter.unusedVariables false
set_option linter.unusedSimpArgs false
set_option maxRecDepth 100000
namespace Go.Proofs.YtkfkbebinhkdlaaGreatDoor
open Go.RowKit Go.Shelf
section
attribute [local go_sem] Oper.semAt_some
def grStep (c : Int) (p : List Int × Int × Int) : List Int × Int × Int := (p.2.2 / c :: p.1, p.2.1 + p.2.2 / c, p.2.2 - p.2.2 / c * c)
def gr (l : List Int) (s : Int) : List Int × Int × Int := l.foldr grStep ([], 0, s)
def HF32 (l : List Int) (s : Int) : Option (List Int × Int) :=
  bif (l.all fun c => decide (1 ≤ c) && decide (c ≤ 1073741824)) && (decide (0 ≤ s) && decide (s ≤ 1073741824)) && (decide (0 < l.length) && decide (l.length ≤ 1048576)) then some ((gr l s).1, (gr l s).2.1) else none
/-- One coin more. -/
def gf (zs : List Int) (p : List Int × Int × Int) (i : Fin zs.length) : List Int × Int × Int := (p.1.set i.val (p.2.2 / zs[i]), p.2.1 + p.2.2 / zs[i], p.2.2 - p.2.2 / zs[i] * zs[i])
def gfs (zs : List Int) (s : Int) (pre : List (Fin zs.length)) : List Int × Int × Int := pre.foldl (gf zs) (List.replicate zs.length 0, 0, s)
theorem gfs_snoc (zs : List Int) (s : Int) (pre : List (Fin zs.length)) (i : Fin zs.length) : gfs zs s (pre ++ [i]) = gf zs (gfs zs s pre) i := by simp [gfs]
theorem run_mk (w : World) (n : Nat) (hn : n ≤ 1048576) : (Instr.makeSlice 23 (.int .i64 n) (.int .i64 n)).run Tryz.prog w = .ok (.slice (some ⟨w.heap.size, 0, none⟩) n n) (w.alloc (.cells (rowI (List.replicate n 0)) 3)) := by
  obtain ⟨i0, hi, hz0, hz1, hz2⟩ := info_parts (show (Tryz.prog.info? 3).map (fun i => (i.zero, i.size, i.bytes)) = some (some (.int .i64 0), 1, 8) by kernel_rfl)
  have h := run_make (P := Tryz.prog) w 23 3 i0 (.int .i64 0) (by kernel_rfl) hi hz0 .i64 .i64 n n (by omega) (Int.le_refl _) (by rw [hz2]; omega) (by omega)
  simp only [Int.toNat_natCast, hz1, Nat.mul_one] at h
  rw [h]
  have : madeCells (Value.int .i64 0).cells n = rowI (List.replicate n 0) := by
    apply Array.toList_inj.1
    rw [show (Value.int .i64 0).cells = #[.int .i64 0] from rfl, toList_madeCells_one]
    simp [rowI]
  rw [this]
/-- What the numbers stay within. -/
def gok (zs : List Int) (s : Int) (pre : List (Fin zs.length)) : Prop :=
  (gfs zs s pre).1.length = zs.length ∧ 0 ≤ (gfs zs s pre).2.1 ∧ 0 ≤ (gfs zs s pre).2.2 ∧ (gfs zs s pre).2.1 + (gfs zs s pre).2.2 ≤ 1073741824
theorem gok_snoc {zs : List Int} {s : Int} {pre : List (Fin zs.length)} (i : Fin zs.length) (h : gok zs s pre) (hc : 1 ≤ zs[i]) : gok zs s (pre ++ [i]) := by
  obtain ⟨h1, h2, h3, h4⟩ := h
  unfold gok
  rw [gfs_snoc]
  simp only [gf]
  have hd : 0 ≤ (gfs zs s pre).2.2 / zs[i] := Int.ediv_nonneg h3 (by omega)
  have hm : (gfs zs s pre).2.2 / zs[i] * zs[i] ≤ (gfs zs s pre).2.2 := Int.ediv_mul_le _ (by omega)
  have hk : (gfs zs s pre).2.2 / zs[i] * 1 ≤ (gfs zs s pre).2.2 / zs[i] * zs[i] := Int.mul_le_mul_of_nonneg_left hc hd
  refine ⟨by simpa using h1, by omega, by omega, by omega⟩
set_option maxHeartbeats 4000000 in
theorem great_in (F : Fence) (n : Nat) (h53 : F.fn 32) (h85 : F.fn 42) (h114 : F.fn 50) (hro : F.round = none) (hn : 3 ≤ n) (b off cap : Nat) (zs : List Int) (s : Int) (hreach : zs.length ≤ 1048576) (h0 : 0 < zs.length) (w : World) (hb : b < w.heap.size)
    (hcs : ∀ j (h : j < zs.length), w.cell? ⟨b, off + j, none⟩ = some (.int .i64 zs[j])) (hc1 : ∀ c ∈ zs, 1 ≤ c ∧ c ≤ 1073741824) (hs0 : 0 ≤ s) (hs1 : s ≤ 1073741824) :
    CallsIn F n Tryz.prog 32 #[.slice (some ⟨b, off, none⟩) zs.length cap, .int .i64 s] w fun e W' => e = .returned (.tuple #[.slice (some ⟨w.heap.size + 1, 0, none⟩) zs.length zs.length, .int .i64 (gfs zs s (bw zs.length 0)).2.1]) ∧
      Blk W' (w.heap.size + 1) (rowI (gfs zs s (bw zs.length 0)).1) 3 ∧ Below w.heap.size w W' := by
  have h1 : 1 ≤ n := by omega
  have hmk := fun w => run_mk w zs.length hreach
  refine callsIn_of_wp_marks Tryz.func32 rfl h53 ?_ hro
  simp only [Tryz.ntmps32, List.size_toArray, List.length_cons, List.length_nil, Nat.reduceAdd, Nat.reduceSub, Array.replicate_succ, Array.replicate_zero, List.push_toArray, List.append_toArray, List.nil_append, List.cons_append]
  gi_wp2_with (gi_at_call 42; refine (back_in F (n - 1) h85 hro _ _ _ _).mono ?_; rintro e w' ⟨rfl, rfl⟩)
  clear hmk
  generalize hW0 : World.alloc (World.alloc (World.alloc (World.alloc (World.alloc w _) _) _) _) _ = W0
  have b0 : Blk W0 w.heap.size #[.int .i64 s] 3 := by rw [← hW0]; exact ((((Blk.new w _ _).alloc _).alloc _).alloc _).alloc _
  have b1 : Blk W0 (w.heap.size + 1) (rowI (List.replicate zs.length 0)) 3 := by
    rw [← hW0]
    have := Blk.new (w.alloc (.cells #[.int .i64 s] 3)) (rowI (List.replicate zs.length 0)) 3
    rw [World.size_alloc] at this
    exact ((this.alloc _).alloc _).alloc _
  have b2 : Blk W0 (w.heap.size + 2) #[.slice (some ⟨w.heap.size + 1, 0, none⟩) zs.length zs.length] 23 := by
    rw [← hW0]
    have := Blk.new ((w.alloc (.cells #[.int .i64 s] 3)).alloc (.cells (rowI (List.replicate zs.length 0)) 3)) #[.slice (some ⟨w.heap.size + 1, 0, none⟩) zs.length zs.length] 23
    simp only [World.size_alloc, Nat.add_assoc, Nat.reduceAdd] at this
    exact (this.alloc _).alloc _
  have b3 : Blk W0 (w.heap.size + 3) #[.int .i64 0] 3 := by
    rw [← hW0]
    have := Blk.new (((w.alloc (.cells #[.int .i64 s] 3)).alloc (.cells (rowI (List.replicate zs.length 0)) 3)).alloc (.cells #[.slice (some ⟨w.heap.size + 1, 0, none⟩) zs.length zs.length] 23)) #[.int .i64 0] 3
    simp only [World.size_alloc, Nat.add_assoc, Nat.reduceAdd] at this
    exact this.alloc _
  have b4 : Blk W0 (w.heap.size + 4) #[.slice (some ⟨b, off, none⟩) zs.length cap] 23 := by
    rw [← hW0]
    have := Blk.new ((((w.alloc (.cells #[.int .i64 s] 3)).alloc (.cells (rowI (List.replicate zs.length 0)) 3)).alloc (.cells #[.slice (some ⟨w.heap.size + 1, 0, none⟩) zs.length zs.length] 23)).alloc (.cells #[.int .i64 0] 3)) #[.slice (some ⟨b, off, none⟩) zs.length cap] 23
    simp only [World.size_alloc, Nat.add_assoc, Nat.reduceAdd] at this
    exact this
  have hsz : W0.heap.size = w.heap.size + 5 := by rw [← hW0]; simp
  have hB0 : Below w.heap.size w W0 := by
    rw [← hW0]
    exact ((((((Below.refl _ w).alloc (Nat.le_refl _) _).alloc (by simp) _).alloc (by simp; omega) _).alloc (by simp; omega) _).alloc (by simp; omega) _)
  simp only [Nat.add_assoc, Nat.reduceAdd]
  have hcs0 : ∀ j (h : j < zs.length), W0.cell? ⟨b, off + j, none⟩ = some (.int .i64 zs[j]) := fun j hj => (hB0.cell (p := ⟨b, off + j, none⟩) hb).trans (hcs j hj)
  have hmem : ∀ i : Fin zs.length, 1 ≤ zs[i.val] ∧ zs[i.val] ≤ 1073741824 := fun i => hc1 _ (List.getElem_mem _)
  refine wpIn_rangeFunc_ownG hro h1 (gf := 50) (lb := #[.pointer (some ⟨w.heap.size + 4, 0, none⟩)]) rfl h114 (enters_of Tryz.func50 (by kernel_rfl) rfl)
    (back_stops F (n - 1) h114 hro (by omega) (w.heap.size + 4) w.heap.size b off cap zs (by omega) W0 (by omega) (by omega) (b4.cell 0 rfl) hb hcs0) KpB.trans (KpB.b (by omega) (by omega)) (Below.refl _ _) (fun _ => rfl)
    (fun pre W => (Blk W w.heap.size #[.int .i64 (gfs zs s pre).2.2] 3 ∧ Blk W (w.heap.size + 1) (rowI (gfs zs s pre).1) 3 ∧ Blk W (w.heap.size + 2) #[.slice (some ⟨w.heap.size + 1, 0, none⟩) zs.length zs.length] 23 ∧
      Blk W (w.heap.size + 3) #[.int .i64 (gfs zs s pre).2.1] 3 ∧ gok zs s pre) ∧ Below w.heap.size w W)
    (fun _ _ _ => False)
    (OwnFrom.and (Own.from (Own.and (blk_own _ _ _) (Own.and (blk_own _ _ _) (Own.and (blk_own _ _ _) (Own.and (blk_own _ _ _) (own_pure _))))) _) (ownFrom_below (Nat.le_refl _) (by omega)))
    (fun _ _ _ _ _ hs _ _ => hs)
    ⟨⟨b0, b1, b2, b3, by simp [gok, gfs]; omega⟩, hB0⟩
    (fun x => { tmps := #[Value.slice (some ⟨b, off, none⟩) zs.length cap, .int .i64 s, undef, .pointer (some ⟨w.heap.size, 0, none⟩), .slice none 0 0, .int .i64 0, .pointer (some ⟨w.heap.size + 2, 0, none⟩), .pointer (some ⟨w.heap.size + 3, 0, none⟩), .int .i64 (x.val : Int), .int .i64 zs[x.val], .slice (some ⟨b, off, none⟩) zs.length cap, .int .i64 zs.length, .slice (some ⟨w.heap.size + 1, 0, none⟩) zs.length zs.length, .slice (some ⟨b, off, none⟩) zs.length cap, .func (.func 50) #[] #[.pointer (some ⟨w.heap.size + 4, 0, none⟩)], .int .i64 (x.val : Int), .int .i64 zs[x.val], undef, undef, undef, undef, undef, undef, undef, undef, undef, undef, undef, undef, undef, undef, undef, undef, undef, undef, undef, undef, undef, undef], defers := [] }) ?assign ?body ?done ?stop
  case assign =>
    intro l x W K hK
    gi_wp2
    exact hK
  case body =>
    rintro l pre x W ⟨⟨c0, c1, c2, c3, hok⟩, hB⟩ hlen
    have hsx : ∀ y : Int, (rowI (gfs zs s pre).1)[x.val]? = some (.int .i64 ((gfs zs s pre).1[x.val]?.getD 0)) := fun _ => by
      have := hok.1
      have hx := x.isLt
      simp [rowI, List.getElem?_map]
      rw [List.getElem?_eq_getElem (by omega)]
      simp
    have e0 := c0.cell 0 rfl
    have f0 := c0.frozen 0
    have e1 := c1.cell x.val (hsx 0)
    have f1 := c1.frozen x.val
    have e2 := c2.cell 0 rfl
    have e3 := c3.cell 0 rfl
    have f3 := c3.frozen 0
    obtain ⟨hx1, hx2⟩ := hmem x
    have hxl := x.isLt
    obtain ⟨k1, k2, k3, k4⟩ := hok
    have hgf := gfs_snoc zs s pre x
    have hok' := gok_snoc x ⟨k1, k2, k3, k4⟩ hx1
    simp only [gf, Fin.getElem_fin] at hgf
    generalize hgc : zs[x.val] = c at hx1 hx2 hgf ⊢
    generalize hs0' : (gfs zs s pre).2.2 = s0 at *
    generalize hn0' : (gfs zs s pre).2.1 = n0 at *
    have hd : 0 ≤ s0 / c := Int.ediv_nonneg k3 (by omega)
    have hm : s0 / c * c ≤ s0 := Int.ediv_mul_le _ (by omega)
    have hm0 : 0 ≤ s0 / c * c := Int.mul_nonneg hd (by omega)
    have hk : s0 / c * 1 ≤ s0 / c * c := Int.mul_le_mul_of_nonneg_left hx1 hd
    have hdd : s0 / c ≤ 1073741824 := by omega
    have hw1 : IntKind.i64.wrap (s0 / c * c) = s0 / c * c := by rw [IntKind.wrap_i64]; omega
    have hw2 : IntKind.i64.wrap (s0 - s0 / c * c) = s0 - s0 / c * c := by rw [IntKind.wrap_i64]; omega
    have hw3 : IntKind.i64.wrap (n0 + s0 / c) = n0 + s0 / c := by rw [IntKind.wrap_i64]; omega
    gi_wp2
    refine wpIn_mono (Q := fun e a w2 => e = Exit.normal ∧ a = { tmps := #[Value.slice (some ⟨b, off, none⟩) zs.length cap, .int .i64 s, undef, .pointer (some ⟨w.heap.size, 0, none⟩), .slice none 0 0, .int .i64 0, .pointer (some ⟨w.heap.size + 2, 0, none⟩), .pointer (some ⟨w.heap.size + 3, 0, none⟩), .int .i64 (x.val : Int), .int .i64 c, .slice (some ⟨b, off, none⟩) zs.length cap, .int .i64 zs.length, .slice (some ⟨w.heap.size + 1, 0, none⟩) zs.length zs.length, .slice (some ⟨b, off, none⟩) zs.length cap, .func (.func 50) #[] #[.pointer (some ⟨w.heap.size + 4, 0, none⟩)], .int .i64 (x.val : Int), .int .i64 c, .slice (some ⟨w.heap.size + 1, 0, none⟩) zs.length zs.length, .int .i64 (x.val : Int), .int .i64 s0, .int .i64 c, .int .i64 (s0 / c), .pointer (some ⟨w.heap.size + 1, x.val, none⟩), undef, undef, undef, undef, undef, undef, undef, undef, undef, undef, undef, undef, undef, undef, undef, undef], defers := [] } ∧ w2 = ((W.setCell ⟨w.heap.size + 1, x.val, none⟩ (.int .i64 (s0 / c))).drew)) ?_ ?_
    · gi_region
      all_goals (refine ⟨rfl, ?_, ?_⟩ <;> first | with_reducible rfl | simp only [hw1, hw2, hw3])
    rintro _ _ _ ⟨rfl, rfl, rfl⟩
    dsimp only [Exit.then]
    go_at_K
    generalize hW1 : ((W.setCell ⟨w.heap.size + 1, x.val, none⟩ (.int .i64 (s0 / c))).drew) = W1
    have d0 : Blk W1 w.heap.size #[.int .i64 s0] 3 := by rw [← hW1]; exact c0.other _ _ (by omega)
    have d1 : Blk W1 (w.heap.size + 1) ((rowI (gfs zs s pre).1).setIfInBounds x.val (.int .i64 (s0 / c))) 3 := by rw [← hW1]; exact c1.set _ _
    have d2 : Blk W1 (w.heap.size + 2) #[.slice (some ⟨w.heap.size + 1, 0, none⟩) zs.length zs.length] 23 := by rw [← hW1]; exact c2.other _ _ (by omega)
    have d3 : Blk W1 (w.heap.size + 3) #[.int .i64 n0] 3 := by rw [← hW1]; exact c3.other _ _ (by omega)
    have hrl : x.val < (rowI (gfs zs s pre).1).size := by simp [rowI]; omega
    have hKF1 : KeepsFrom W0.heap.size W W1 := by rw [← hW1]; exact ((KeepsOthers.setCell _ _ _).trans (KeepsOthers.drew _)).from _
    have hq1 : W1.heap[w.heap.size + 4]? = W.heap[w.heap.size + 4]? := by rw [← hW1]; exact heap_setCell_other W ⟨w.heap.size + 1, x.val, none⟩ (w.heap.size + 4) _ (by simp only []; omega)
    have hBW1 : Below w.heap.size W W1 := by rw [← hW1]; exact ((Below.refl _ W).setCell (p := ⟨w.heap.size + 1, x.val, none⟩) (Nat.le_succ _) _).drew
    clear e0 f0 e1 f1 e2 e3 f3 hsx
    have e0 := d0.cell 0 rfl
    have f0 := d0.frozen 0
    have e1 : W1.cell? ⟨w.heap.size + 1, x.val, none⟩ = some (.int .i64 (s0 / c)) := d1.cell x.val (by rw [Array.getElem?_setIfInBounds_self_of_lt hrl])
    have e2 := d2.cell 0 rfl
    have e3 := d3.cell 0 rfl
    have f3 := d3.frozen 0
    clear hW1
    gi_wp2
    refine wpIn_mono (Q := fun e a w2 => e = Exit.normal ∧ a = { tmps := #[Value.slice (some ⟨b, off, none⟩) zs.length cap, .int .i64 s, undef, .pointer (some ⟨w.heap.size, 0, none⟩), .slice none 0 0, .int .i64 0, .pointer (some ⟨w.heap.size + 2, 0, none⟩), .pointer (some ⟨w.heap.size + 3, 0, none⟩), .int .i64 (x.val : Int), .int .i64 c, .slice (some ⟨b, off, none⟩) zs.length cap, .int .i64 zs.length, .slice (some ⟨w.heap.size + 1, 0, none⟩) zs.length zs.length, .slice (some ⟨b, off, none⟩) zs.length cap, .func (.func 50) #[] #[.pointer (some ⟨w.heap.size + 4, 0, none⟩)], .int .i64 (x.val : Int), .int .i64 c, .slice (some ⟨w.heap.size + 1, 0, none⟩) zs.length zs.length, .int .i64 (x.val : Int), .int .i64 s0, .int .i64 c, .int .i64 (s0 / c), .pointer (some ⟨w.heap.size + 1, x.val, none⟩), .int .i64 s0, .slice (some ⟨w.heap.size + 1, 0, none⟩) zs.length zs.length, .int .i64 (x.val : Int), .pointer (some ⟨w.heap.size + 1, x.val, none⟩), .int .i64 (s0 / c), .int .i64 c, .int .i64 (s0 / c * c), .int .i64 (s0 - s0 / c * c), undef, undef, undef, undef, undef, undef, undef, undef], defers := [] } ∧ w2 = ((W1.setCell ⟨w.heap.size, 0, none⟩ (.int .i64 (s0 - s0 / c * c))).drew)) ?_ ?_
    · gi_region
      all_goals (refine ⟨rfl, ?_, ?_⟩ <;> first | with_reducible rfl | simp only [hw1, hw2, hw3])
    rintro _ _ _ ⟨rfl, rfl, rfl⟩
    dsimp only [Exit.then]
    go_at_K
    generalize hW2 : ((W1.setCell ⟨w.heap.size, 0, none⟩ (.int .i64 (s0 - s0 / c * c))).drew) = W2
    have g0 : Blk W2 w.heap.size #[.int .i64 (s0 - s0 / c * c)] 3 := by rw [← hW2]; exact d0.set _ _
    have g1 : Blk W2 (w.heap.size + 1) ((rowI (gfs zs s pre).1).setIfInBounds x.val (.int .i64 (s0 / c))) 3 := by rw [← hW2]; exact d1.other _ _ (by omega)
    have g2 : Blk W2 (w.heap.size + 2) #[.slice (some ⟨w.heap.size + 1, 0, none⟩) zs.length zs.length] 23 := by rw [← hW2]; exact d2.other _ _ (by omega)
    have g3 : Blk W2 (w.heap.size + 3) #[.int .i64 n0] 3 := by rw [← hW2]; exact d3.other _ _ (by omega)
    have hKF2 : KeepsFrom W0.heap.size W W2 := by rw [← hW2]; exact hKF1.trans (((KeepsOthers.setCell _ _ _).trans (KeepsOthers.drew _)).from _)
    have hq2 : W2.heap[w.heap.size + 4]? = W.heap[w.heap.size + 4]? := by rw [← hq1, ← hW2]; exact heap_setCell_other W1 ⟨w.heap.size, 0, none⟩ (w.heap.size + 4) _ (by simp only []; omega)
    have hBW2 : Below w.heap.size W W2 := by rw [← hW2]; exact (hBW1.setCell (p := ⟨w.heap.size, 0, none⟩) (Nat.le_refl _) _).drew
    clear e0 f0 e1 e2 e3 f3
    have e0 := g0.cell 0 rfl
    have e1 : W2.cell? ⟨w.heap.size + 1, x.val, none⟩ = some (.int .i64 (s0 / c)) := g1.cell x.val (by rw [Array.getElem?_setIfInBounds_self_of_lt hrl])
    have e2 := g2.cell 0 rfl
    have e3 := g3.cell 0 rfl
    have f3 := g3.frozen 0
    clear hW2
    gi_wp2
    refine wpIn_mono (Q := fun e a w2 => e = Exit.normal ∧ a = { tmps := #[Value.slice (some ⟨b, off, none⟩) zs.length cap, .int .i64 s, undef, .pointer (some ⟨w.heap.size, 0, none⟩), .slice none 0 0, .int .i64 0, .pointer (some ⟨w.heap.size + 2, 0, none⟩), .pointer (some ⟨w.heap.size + 3, 0, none⟩), .int .i64 (x.val : Int), .int .i64 c, .slice (some ⟨b, off, none⟩) zs.length cap, .int .i64 zs.length, .slice (some ⟨w.heap.size + 1, 0, none⟩) zs.length zs.length, .slice (some ⟨b, off, none⟩) zs.length cap, .func (.func 50) #[] #[.pointer (some ⟨w.heap.size + 4, 0, none⟩)], .int .i64 (x.val : Int), .int .i64 c, .slice (some ⟨w.heap.size + 1, 0, none⟩) zs.length zs.length, .int .i64 (x.val : Int), .int .i64 s0, .int .i64 c, .int .i64 (s0 / c), .pointer (some ⟨w.heap.size + 1, x.val, none⟩), .int .i64 s0, .slice (some ⟨w.heap.size + 1, 0, none⟩) zs.length zs.length, .int .i64 (x.val : Int), .pointer (some ⟨w.heap.size + 1, x.val, none⟩), .int .i64 (s0 / c), .int .i64 c, .int .i64 (s0 / c * c), .int .i64 (s0 - s0 / c * c), .int .i64 n0, .slice (some ⟨w.heap.size + 1, 0, none⟩) zs.length zs.length, .int .i64 (x.val : Int), .pointer (some ⟨w.heap.size + 1, x.val, none⟩), .int .i64 (s0 / c), .int .i64 (n0 + s0 / c), undef, undef], defers := [] } ∧ w2 = ((W2.setCell ⟨w.heap.size + 3, 0, none⟩ (.int .i64 (n0 + s0 / c))).drew)) ?_ ?_
    · gi_region
      all_goals (refine ⟨rfl, ?_, ?_⟩ <;> first | with_reducible rfl | simp only [hw1, hw2, hw3])
    rintro _ _ _ ⟨rfl, rfl, rfl⟩
    generalize hW3 : ((W2.setCell ⟨w.heap.size + 3, 0, none⟩ (.int .i64 (n0 + s0 / c))).drew) = W3
    have p0 : Blk W3 w.heap.size #[.int .i64 (s0 - s0 / c * c)] 3 := by rw [← hW3]; exact g0.other _ _ (by omega)
    have p1 : Blk W3 (w.heap.size + 1) ((rowI (gfs zs s pre).1).setIfInBounds x.val (.int .i64 (s0 / c))) 3 := by rw [← hW3]; exact g1.other _ _ (by omega)
    have p2 : Blk W3 (w.heap.size + 2) #[.slice (some ⟨w.heap.size + 1, 0, none⟩) zs.length zs.length] 23 := by rw [← hW3]; exact g2.other _ _ (by omega)
    have p3 : Blk W3 (w.heap.size + 3) #[.int .i64 (n0 + s0 / c)] 3 := by rw [← hW3]; exact g3.set _ _
    have hKF3 : KeepsFrom W0.heap.size W W3 := by rw [← hW3]; exact hKF2.trans (((KeepsOthers.setCell _ _ _).trans (KeepsOthers.drew _)).from _)
    have hBW3 : Below w.heap.size W W3 := by rw [← hW3]; exact (hBW2.setCell (p := ⟨w.heap.size + 3, 0, none⟩) (Nat.le_add_right _ _) _).drew
    have hS3 : W3.heap[w.heap.size + 4]? = W.heap[w.heap.size + 4]? := by rw [← hq2, ← hW3]; exact heap_setCell_other W2 ⟨w.heap.size + 3, 0, none⟩ (w.heap.size + 4) _ (by simp only []; omega)
    rw [rowI_set] at p1
    refine ⟨hKF3, ⟨hBW3, hS3⟩, ⟨?_, ?_, p2, ?_, hok'⟩, hB.trans hBW3⟩
    · rw [hgf]; exact p0
    · rw [hgf]; exact p1
    · rw [hgf]; exact p3
  case done =>
    rintro D ys W hD rfl ⟨⟨c0, c1, c2, c3, hok⟩, hB⟩ hK
    have e2 := c2.cell 0 rfl
    have e3 := c3.cell 0 rfl
    gi_wp2
    refine wpIn_mono (Q := fun e a w2 => e = Exit.normal ∧ a = { tmps := #[Value.slice (some ⟨b, off, none⟩) zs.length cap, .int .i64 s, undef, .pointer (some ⟨w.heap.size, 0, none⟩), .slice (some ⟨w.heap.size + 1, 0, none⟩) zs.length zs.length, .int .i64 (gfs zs s (bw zs.length 0)).2.1, .pointer (some ⟨w.heap.size + 2, 0, none⟩), .pointer (some ⟨w.heap.size + 3, 0, none⟩), undef, undef, .slice (some ⟨b, off, none⟩) zs.length cap, .int .i64 zs.length, .slice (some ⟨w.heap.size + 1, 0, none⟩) zs.length zs.length, .slice (some ⟨b, off, none⟩) zs.length cap, .func (.func 50) #[] #[.pointer (some ⟨w.heap.size + 4, 0, none⟩)], undef, undef, undef, undef, undef, undef, undef, undef, undef, undef, undef, undef, undef, undef, undef, undef, undef, undef, undef, undef, undef, undef, .slice (some ⟨w.heap.size + 1, 0, none⟩) zs.length zs.length, .int .i64 (gfs zs s (bw zs.length 0)).2.1], defers := [{ target := Target.collected D, args := #[] }] } ∧ w2 = W.drew) ?_ ?_
    · gi_region
      all_goals (refine ⟨rfl, ?_, ?_⟩ <;> with_reducible rfl)
    rintro _ _ _ ⟨rfl, rfl, rfl⟩
    dsimp only [Exit.then]
    go_at_K
    gi_wp2
    refine ⟨by simp, .inl ⟨_, _, rfl, run_takeDeferred hK, ?_⟩⟩
    have hB2 := hB.trans (belowK_b (w := w) (Nat.le_refl _) W D _ (.deferred none) (by omega) hK rfl rfl)
    refine ⟨_, results_tmp2 rfl _ _ _, rfl, ?_, hB2.drew⟩
    have c1' : Blk W.drew (w.heap.size + 1) (rowI (gfs zs s (bw zs.length 0)).1) 3 := c1
    exact c1'.kept (grownBy_putObj' _ D (.deferred none)) (fun e => by cases e; omega)
  case stop =>
    rintro D c pre W hD _ h _
    exact h.elim
/-- Coin by coin, the last one first, is what 'gr' says. -/
theorem gfs_gr (zs : List Int) (s : Int) : ∀ (k : Nat) (hk : k ≤ zs.length), gfs zs s (bw zs.length (zs.length - k)) =
    (List.replicate (zs.length - k) 0 ++ (gr (zs.drop (zs.length - k)) s).1, (gr (zs.drop (zs.length - k)) s).2.1, (gr (zs.drop (zs.length - k)) s).2.2) := by
  intro k
  induction k with
  | zero => intro _; simp [bw_top, gfs, gr]
  | succ k ih =>
    intro hk
    have hlt : zs.length - (k + 1) < zs.length := by omega
    rw [bw_snoc _ _ hlt, show zs.length - (k + 1) + 1 = zs.length - k by omega, gfs_snoc, ih (by omega)]
    rw [List.drop_eq_getElem_cons hlt, show zs.length - (k + 1) + 1 = zs.length - k by omega]
    simp only [gf, gr, List.foldr_cons, grStep, Fin.getElem_fin]
    refine Prod.ext ?_ rfl
    simp only
    generalize zs[zs.length - (k + 1)] = c
    generalize List.foldr grStep ([], 0, s) (List.drop (zs.length - k) zs) = p
    obtain ⟨m, hm⟩ : ∃ m, m = zs.length - (k + 1) := ⟨_, rfl⟩
    rw [← hm, show zs.length - k = m + 1 by omega, List.replicate_succ', List.append_assoc, List.set_append_right _ _ (by simp)]
    simp
theorem gfs_all (zs : List Int) (s : Int) : gfs zs s (bw zs.length 0) = gr zs s := by
  have h := gfs_gr zs s zs.length (Nat.le_refl _)
  rw [Nat.sub_self] at h
  rw [h]
  simp
theorem gr_len (zs : List Int) (s : Int) : (gr zs s).1.length = zs.length := by
  induction zs with
  | nil => rfl
  | cons c zs ih => simp only [gr, List.foldr_cons, grStep, List.length_cons] at ih ⊢; rw [ih]
end
open Go.Vi
theorem HC32 (_ : Nat × Nat) (xs : pksDen [.c (.sl (.int .i64)), .c (.int .i64)]) (r : rksDen [.own (.int .i64) 0, .c (.int .i64) 0]) (h : HF32 xs.1 xs.2.1 = some r) (vs : List V) (hv : pksArg [.c (.sl (.int .i64)), .c (.int .i64)] vs = some xs) :
    FC Tryz.prog 32 vs (rets [.own (.int .i64) 0, .c (.int .i64) 0] r) := by
  obtain ⟨zs, s, ⟨⟩⟩ := xs
  unfold HF32 at h
  obtain ⟨hd, h⟩ := cond_some h rfl
  simp only [Bool.and_eq_true, decide_eq_true_eq, List.all_eq_true] at hd h
  obtain ⟨⟨hc, hs0, hs1⟩, hl0, hl1⟩ := hd
  cases h
  intro w A0 args hA hargs hgl
  have hv2 := pksArg_VR _ _ _ _ hv hargs
  match args, hv2 with
  | [v0, v1], ⟨g0, g1, _⟩ =>
    obtain ⟨b, off, cap, rfl, hb, hcs⟩ := CR_ints (zs := zs) (t := false) g0 hl0 hA
    have g1 : v1 = .int .i64 s := g1
    subst g1
    refine ((callsIn_wide (n := 3)).1 (great_in Fence.wide 3 trivial trivial trivial rfl (by omega) b off cap zs s hl1 hl0 w hb hcs hc hs0 hs1)).mono ?_
    rintro e W' ⟨rfl, hblk, hB⟩
    rw [gfs_all] at hblk ⊢
    have hlt := hblk.lt
    have hgl := gr_len zs s
    refine ⟨Grows.of_below hB, [.at (w.heap.size + 1) zs.length, .emp], [_, _], rfl, ?_, ?_, ?_⟩
    · have := out_ints (w := w) (A1 := newA w W' A0 [.at (w.heap.size + 1) zs.length, .emp]) (l := (gr zs s).1) hblk (Nat.le_succ _) (Nat.le_of_eq hgl) (by rw [rowI_size, hgl]; exact Nat.le_refl _) (fun i x => rowI_get)
      rw [hgl] at this
      exact this
    · intro b' c' h j hj
      simp at hj
      subst hj
      intro c'' e
      cases e
    · exact ⟨rfl, fun b c h => (by cases h), trivial⟩
end Go.Proofs.YtkfkbebinhkdlaaGreatDoor
set_option linter.unusedVariables false
set_option linter.unusedSimpArgs false
set_option maxRecDepth 100000
namespace Go.Proofs.YtkfkbebinhkdlaaGreatDoor
open Go.Vi
abbrev R32 := List Int × Int
def pk32 : List PK := [.c (.sl (.int .i64)), .c (.int .i64)]
def rk32 : List RK := [.own (.int .i64) 0, .c (.int .i64) 0]
noncomputable def S32 (n : Nat × Nat) (coins0 : List Int) (sum1 : Int) : Option R32 := HF32 coins0 sum1
noncomputable def P32 (n : Nat × Nat) := phiOf pk32 rk32 (fun xs => S32 n xs.1 xs.2.1)
theorem call32 : CallOK Tryz.prog 32 := callOK_of Tryz.func32 (by kernel_rfl) (by kernel_rfl)
theorem FC32 (n : Nat × Nat) : FCs Tryz.prog 32 (P32 n) := phiOf_FCs fun xs r h vs hv => HC32 n xs r h vs hv
abbrev R28 := Int
noncomputable def c28 : Code := bodyOf Tryz.f28
noncomputable def an28 : Ann := (.s .l (.s .l (.s (.s .l (.j [] (.j [0, 17, 18, 19] (.s .l (.s (.j [0, 17, 18, 19] .l .l) (.s (.j [0, 17, 18, 19] (.s .l (.s .l (.s .l (.j [0, 17, 18, 19] .l .l)))) .l) .l))) .l) .l)) .l)))
def pk28 : List PK := [.c (.sl (.int .i64))]
def rk28 : List RK := [.c (.int .i64) 2]
noncomputable def rt28 (st : St) : Option R28 := rtG rk28 st
noncomputable def E28 (n : Nat × Nat) : Env := { T := tab, phi := (consPhi 30 (fun _ => true) (P30 n) (consPhi 32 (fun _ => true) (P32 n) noPhi)), eff := fun _ => false, fuel := n.1, hold := n.2 }
noncomputable def kq28_1 (n : Nat × Nat) : St → Option R28 := run (E28 n) (cB (cB (cB c28))) (Ann.snd (Ann.snd (Ann.snd an28))) rt28 (fun _ _ => none) rt28
noncomputable def xb28_3 (n : Nat × Nat) : Nat → St → Option R28 := fun j s => bif Nat.beq j 0 then normC [] s (kq28_1 n) else (fun _ _ => none) j s
noncomputable def F28_4 (n : Nat × Nat) : (St → Option R28) → St → Option R28 := fun K s => run (E28 n) (cA (cA (cB (cA (cB (cB c28)))))) (Ann.fst (Ann.fst (Ann.snd (Ann.fst (Ann.snd (Ann.snd an28)))))) (fun s => normC [0, 17, 18, 19] s K) (xb28_3 n) rt28 s
noncomputable def L28_1 (n : Nat × Nat) (m : Nat) (coins0 : List Int) (v18 : Int) (v19 : Int) (v17 : List Int) : Option R28 := loopN (F28_4 n) m { tm := [.c (.sl (.int .i64) coins0 false), uu, uu, uu, uu, uu, uu, uu, uu, uu, uu, uu, uu, uu, uu, uu, uu, .own 17 none false, .c (.int .i64 v18), .c (.int .i64 v19), uu, uu, uu, uu, uu, uu, uu, uu, uu, uu, uu, uu, uu, uu, uu], hp := (upd emp 17 (.arr (.int .i64) v17 false)) }
theorem L28_1_eq (n : Nat × Nat) (m1 : Nat) (coins0 : List Int) (v18 : Int) (v19 : Int) (v17 : List Int) : L28_1 n (m1 + 1) coins0 v18 v19 v17 =
 (bif decide (v19 < v18) then (bif inB v19 v17.length then (idx v17 v19).bind fun x3' =>
 (S32 n coins0 v19).bind fun r4' =>
 (bif decide (r4'.2 > x3') then some v19
 else L28_1 n m1 coins0 v18 (wr .i64 (v19 + 1)) v17)
 else none)
 else some 0) := by kernel_rfl
noncomputable def S28 (n : Nat × Nat) (coins0 : List Int) : Option R28 := run (E28 n) c28 an28 rt28 (fun _ _ => none) rt28 { tm := [.c (.sl (.int .i64) coins0 false), uu, uu, uu, uu, uu, uu, uu, uu, uu, uu, uu, uu, uu, uu, uu, uu, uu, uu, uu, uu, uu, uu, uu, uu, uu, uu, uu, uu, uu, uu, uu, uu, uu, uu], hp := emp }
theorem S28_eq (n : Nat × Nat) (coins0 : List Int) : S28 n coins0 =
 (idx coins0 (wr .i64 ((coins0.length : Int) - 1))).bind fun x1' =>
 (S30 n coins0 (wr .i64 (2 * x1'))).bind fun r2' =>
    L28_1 n n.1 coins0 (r2'.length : Int) 0 r2' := by kernel_rfl
theorem S28_run (n : Nat × Nat) (xs : pksDen pk28) : S28 n xs.1 = runG (E28 n) noScope c28 an28 (rtG rk28) (fun _ _ => none) (rtG rk28) (st0 pk28 xs Tryz.f28.ntmps) := by kernel_rfl
noncomputable def P28 (n : Nat × Nat) := phiOf pk28 rk28 (fun xs => S28 n xs.1)
theorem call28 : CallOK Tryz.prog 28 := callOK_of Tryz.func28 (by kernel_rfl) (by kernel_rfl)
theorem env28 (n : Nat × Nat) : EnvOK Tryz.prog (E28 n) := envOK0 (consPhi_ok (FC30 n) call30 (consPhi_ok (FC32 n) call32 noPhi_ok)) rfl rfl
theorem par28 (n : Nat × Nat) : EnvPar (E28 n) := envPar0 (consPhi_par phiOf_Par1 (consPhi_par phiOf_Par1 noPhi_par)) rfl
theorem FC28 (n : Nat × Nat) : FCs Tryz.prog 28 (P28 n) := phiOf_FCs fun xs r h vs hv => FC.of_runG tabOK eqsOK (env28 n) (par28 n) mixed (fun _ p _ => noScope_ok p.1 p.2) Tryz.func28 (c := c28) (an := an28) (pks := pk28) (rks := rk28) (by kernel_rfl) (by kernel_rfl) hv ((S28_run n xs).symm.trans h)
abbrev R12 := Bool × Int
noncomputable def c12 : Code := bodyOf Tryz.f12
noncomputable def an12 : Ann := (.s .l (.s (.s .l (.s .l (.j [0] .l .l))) .l))
def pk12 : List PK := [.c (.sl (.int .i64))]
def rk12 : List RK := [.c .bool 2, .c (.int .i64) 3]
noncomputable def rt12 (st : St) : Option R12 := rtG rk12 st
noncomputable def E12 (n : Nat × Nat) : Env := { T := tab, phi := (consPhi 27 (fun _ => true) (P27 n) (consPhi 28 (fun _ => true) (P28 n) noPhi)), eff := fun _ => false, fuel := n.1, hold := n.2 }
noncomputable def S12 (n : Nat × Nat) (coins0 : List Int) : Option R12 := run (E12 n) c12 an12 rt12 (fun _ _ => none) rt12 { tm := [.c (.sl (.int .i64) coins0 false), uu, uu, uu, uu, uu, uu, uu, uu, uu, uu, uu, uu], hp := emp }
theorem S12_eq (n : Nat × Nat) (coins0 : List Int) : S12 n coins0 =
 (S27 n coins0).bind fun r1' =>
 (bif (r1' != 0) then some (false, r1')
 else (S28 n coins0).bind fun r2' =>
 some ((r2' == 0), 0)) := by kernel_rfl
theorem S12_run (n : Nat × Nat) (xs : pksDen pk12) : S12 n xs.1 = runG (E12 n) noScope c12 an12 (rtG rk12) (fun _ _ => none) (rtG rk12) (st0 pk12 xs Tryz.f12.ntmps) := by kernel_rfl
noncomputable def P12 (n : Nat × Nat) := phiOf pk12 rk12 (fun xs => S12 n xs.1)
theorem call12 : CallOK Tryz.prog 12 := callOK_of Tryz.func12 (by kernel_rfl) (by kernel_rfl)
theorem env12 (n : Nat × Nat) : EnvOK Tryz.prog (E12 n) := envOK0 (consPhi_ok (FC27 n) call27 (consPhi_ok (FC28 n) call28 noPhi_ok)) rfl rfl
theorem par12 (n : Nat × Nat) : EnvPar (E12 n) := envPar0 (consPhi_par phiOf_Par1 (consPhi_par phiOf_Par1 noPhi_par)) rfl
theorem FC12 (n : Nat × Nat) : FCs Tryz.prog 12 (P12 n) := phiOf_FCs fun xs r h vs hv => FC.of_runG tabOK eqsOK (env12 n) (par12 n) mixed (fun _ p _ => noScope_ok p.1 p.2) Tryz.func12 (c := c12) (an := an12) (pks := pk12) (rks := rk12) (by kernel_rfl) (by kernel_rfl) hv ((S12_run n xs).symm.trans h)
abbrev R29 := Int
noncomputable def c29 : Code := bodyOf Tryz.f29
noncomputable def an29 : Ann := (.s .l (.s .l (.s (.s .l (.j [5] .l .l)) .l)))
def pk29 : List PK := [.c (.sl (.int .i64)), .c (.int .i64)]
def rk29 : List RK := [.c (.int .i64) 4]
noncomputable def rt29 (st : St) : Option R29 := rtG rk29 st
noncomputable def E29 (n : Nat × Nat) : Env := { T := tab, phi := (consPhi 27 (fun _ => true) (P27 n) noPhi), eff := fun _ => false, fuel := n.1, hold := n.2 }
noncomputable def S29 (n : Nat × Nat) (coins0 : List Int) (sum1 : Int) : Option R29 := run (E29 n) c29 an29 rt29 (fun _ _ => none) rt29 { tm := [.c (.sl (.int .i64) coins0 false), .c (.int .i64 sum1), uu, uu, uu, uu, uu, uu, uu, uu, uu, uu, uu, uu, uu, uu, uu, uu, uu], hp := emp }
theorem S29_eq (n : Nat × Nat) (coins0 : List Int) (sum1 : Int) : S29 n coins0 sum1 =
 (S27 n coins0).bind fun r1' =>
 ((bif ((r1' == 0) == true) then ((bif (decide (sum1 < 0) == false) then some (decide (sum1 > 200))
 else some true)).bind fun b2' =>
 some b2'
 else some false)).bind fun b3' =>
 (bif b3' then some 1
 else some r1') := by kernel_rfl
theorem S29_run (n : Nat × Nat) (xs : pksDen pk29) : S29 n xs.1 xs.2.1 = runG (E29 n) noScope c29 an29 (rtG rk29) (fun _ _ => none) (rtG rk29) (st0 pk29 xs Tryz.f29.ntmps) := by kernel_rfl
noncomputable def P29 (n : Nat × Nat) := phiOf pk29 rk29 (fun xs => S29 n xs.1 xs.2.1)
theorem call29 : CallOK Tryz.prog 29 := callOK_of Tryz.func29 (by kernel_rfl) (by kernel_rfl)
theorem env29 (n : Nat × Nat) : EnvOK Tryz.prog (E29 n) := envOK0 (consPhi_ok (FC27 n) call27 noPhi_ok) rfl rfl
theorem par29 (n : Nat × Nat) : EnvPar (E29 n) := envPar0 (consPhi_par phiOf_Par1 noPhi_par) rfl
theorem FC29 (n : Nat × Nat) : FCs Tryz.prog 29 (P29 n) := phiOf_FCs fun xs r h vs hv => FC.of_runG tabOK eqsOK (env29 n) (par29 n) mixed (fun _ p _ => noScope_ok p.1 p.2) Tryz.func29 (c := c29) (an := an29) (pks := pk29) (rks := rk29) (by kernel_rfl) (by kernel_rfl) hv ((S29_run n xs).symm.trans h)
abbrev R31 := Bool
noncomputable def c31 : Code := bodyOf Tryz.f31
noncomputable def an31 : Ann := (.s .l (.s (.s .l (.j [0, 1, 2, 25, 26, 27, 28, 29, 30, 31, 32] .l .l)) (.s .l (.s (.s .l (.j [] (.j [0, 1, 2, 7, 8, 25, 26, 27, 28, 29, 30, 31, 32] (.s (.s .l (.j [0, 1, 2, 7, 8, 25, 26, 27, 28, 29, 30, 31, 32] .l .l)) (.s (.j [0, 1, 2, 7, 8, 25, 26, 27, 28, 29, 30, 31, 32] (.s .l (.j [0, 1, 2, 7, 8, 25, 26, 27, 28, 29, 30, 31, 32] .l .l)) .l) .l)) .l) .l)) .l))))
def pk31 : List PK := [.c (.sl (.int .i64)), .c (.int .i64), .c (.int .i64)]
def rk31 : List RK := [.c .bool 6]
noncomputable def rt31 (st : St) : Option R31 := rtG rk31 st
noncomputable def E31 (n : Nat × Nat) (SS : List Int → Int → Int → Option R31) : Env := { T := tab, phi := (consPhi 31 (fun _ => true) (phiOf pk31 rk31 (fun xs => SS xs.1 xs.2.1 xs.2.2.1)) noPhi), eff := fun _ => false, fuel := n.1, hold := n.2 }
noncomputable def kq31_3 (n : Nat × Nat) (SS : List Int → Int → Int → Option R31) : St → Option R31 := run (E31 n SS) (cB (cB (cB (cB c31)))) (Ann.snd (Ann.snd (Ann.snd (Ann.snd an31)))) rt31 (fun _ _ => none) rt31
noncomputable def xb31_5 (n : Nat × Nat) (SS : List Int → Int → Int → Option R31) : Nat → St → Option R31 := fun j s => bif Nat.beq j 0 then normC [] s (kq31_3 n SS) else (fun _ _ => none) j s
noncomputable def F31_6 (n : Nat × Nat) (SS : List Int → Int → Int → Option R31) : (St → Option R31) → St → Option R31 := fun K s => run (E31 n SS) (cA (cA (cB (cA (cB (cB (cB c31))))))) (Ann.fst (Ann.fst (Ann.snd (Ann.fst (Ann.snd (Ann.snd (Ann.snd an31))))))) (fun s => normC [0, 1, 2, 7, 8, 25, 26, 27, 28, 29, 30, 31, 32] s K) (xb31_5 n SS) rt31 s
noncomputable def L31_1 (n : Nat × Nat) (SS : List Int → Int → Int → Option R31) (m : Nat) (coins0 : List Int) (sum1 : Int) (many2 : Int) (v7 : Int) (v8 : Int) : Option R31 := loopN (F31_6 n SS) m { tm := [.c (.sl (.int .i64) coins0 false), .c (.int .i64 sum1), .c (.int .i64 many2), uu, uu, uu, uu, .c (.int .i64 v7), .c (.int .i64 v8), uu, uu, uu, uu, uu, uu, uu, uu, uu, uu, uu, uu, uu, uu, uu, uu, uu, uu, uu, uu, uu, uu, uu, uu, uu, uu, uu, uu, uu, uu, uu, uu, uu, uu, uu, uu, uu, uu, uu, uu, uu, uu], hp := emp }
theorem L31_1_eq (n : Nat × Nat) (SS : List Int → Int → Int → Option R31) (m1 : Nat) (coins0 : List Int) (sum1 : Int) (many2 : Int) (v7 : Int) (v8 : Int) : L31_1 n SS (m1 + 1) coins0 sum1 many2 v7 v8 =
 ((bif (decide (v8 ≤ many2) == true) then (idx coins0 v7).bind fun x2' =>
 some (decide (wr .i64 (v8 * x2') ≤ sum1))
 else some false)).bind fun b3' =>
 (bif b3' then (bif bounds none (some v7) none coins0.length then (idx coins0 v7).bind fun x4' =>
 (SS (coins0.take (Int.toNat v7)) (wr .i64 (sum1 - (wr .i64 (v8 * x4')))) (wr .i64 (many2 - v8))).bind fun r5' =>
 (bif r5' then some true
 else L31_1 n SS m1 coins0 sum1 many2 v7 (wr .i64 (v8 + 1)))
 else none)
 else some false) := by kernel_rfl
noncomputable def B31 (n : Nat × Nat) (SS : List Int → Int → Int → Option R31) (coins0 : List Int) (sum1 : Int) (many2 : Int) : Option R31 := run (E31 n SS) c31 an31 rt31 (fun _ _ => none) rt31 { tm := [.c (.sl (.int .i64) coins0 false), .c (.int .i64 sum1), .c (.int .i64 many2), uu, uu, uu, uu, uu, uu, uu, uu, uu, uu, uu, uu, uu, uu, uu, uu, uu, uu, uu, uu, uu, uu, uu, uu, uu, uu, uu, uu, uu, uu, uu, uu, uu, uu, uu, uu, uu, uu, uu, uu, uu, uu, uu, uu, uu, uu, uu, uu], hp := emp }
theorem B31_eq (n : Nat × Nat) (SS : List Int → Int → Int → Option R31) (coins0 : List Int) (sum1 : Int) (many2 : Int) : B31 n SS coins0 sum1 many2 =
 (bif ((coins0.length : Int) == 0) then ((bif ((sum1 == 0) == true) then some (many2 == 0)
 else some false)).bind fun b1' =>
 some b1'
 else L31_1 n SS n.1 coins0 sum1 many2 (wr .i64 ((coins0.length : Int) - 1)) 0) := by kernel_rfl
noncomputable def T31 (n : Nat × Nat) : Nat → List Int → Int → Int → Option R31
  | 0 => fun _ _ _ => none
  | d + 1 => B31 n (T31 n d)
theorem T31_eq (n : Nat × Nat) (d : Nat) (coins0 : List Int) (sum1 : Int) (many2 : Int) : T31 n (d + 1) coins0 sum1 many2 = B31 n (T31 n d) coins0 sum1 many2 := rfl
noncomputable def S31 (n : Nat × Nat) (coins0 : List Int) (sum1 : Int) (many2 : Int) : Option R31 := T31 n n.1 coins0 sum1 many2
theorem B31_run (n : Nat × Nat) (SS : List Int → Int → Int → Option R31) (xs : pksDen pk31) : B31 n SS xs.1 xs.2.1 xs.2.2.1 = runG (E31 n SS) noScope c31 an31 (rtG rk31) (fun _ _ => none) (rtG rk31) (st0 pk31 xs Tryz.f31.ntmps) := by kernel_rfl
noncomputable def P31 (n : Nat × Nat) := phiOf pk31 rk31 (fun xs => S31 n xs.1 xs.2.1 xs.2.2.1)
theorem call31 : CallOK Tryz.prog 31 := callOK_of Tryz.func31 (by kernel_rfl) (by kernel_rfl)
theorem env31 (n : Nat × Nat) (SS : List Int → Int → Int → Option R31) (hSS : FCs Tryz.prog 31 (phiOf pk31 rk31 (fun xs => SS xs.1 xs.2.1 xs.2.2.1))) : EnvOK Tryz.prog (E31 n SS) := envOK0 (consPhi_ok hSS call31 noPhi_ok) rfl rfl
theorem par31 (n : Nat × Nat) (SS : List Int → Int → Int → Option R31) : EnvPar (E31 n SS) := envPar0 (consPhi_par phiOf_Par1 noPhi_par) rfl
theorem FCT31 (n : Nat × Nat) : ∀ d : Nat, FCs Tryz.prog 31 (phiOf pk31 rk31 (fun xs => T31 n d xs.1 xs.2.1 xs.2.2.1))
  | 0 => phiOf_FCs fun xs r h => by cases h
  | d + 1 => phiOf_FCs fun xs r h vs hv => FC.of_runG tabOK eqsOK (env31 n (T31 n d) (FCT31 n d)) (par31 n (T31 n d)) mixed (fun _ p _ => noScope_ok p.1 p.2) Tryz.func31 (c := c31) (an := an31) (pks := pk31) (rks := rk31) (by kernel_rfl) (by kernel_rfl) hv ((B31_run n (T31 n d) xs).symm.trans h)
theorem FC31 (n : Nat × Nat) : FCs Tryz.prog 31 (P31 n) := FCT31 n n.1
abbrev R13 := List Int × Int
noncomputable def c13 : Code := bodyOf Tryz.f13
noncomputable def an13 : Ann := (.s .l (.s (.s .l (.s .l (.j [0, 1, 40, 41, 42, 43, 44, 45, 46, 47, 48, 49, 50] .l .l))) (.s .l (.s .l (.s (.s .l (.j [8] (.j [0, 1, 7, 8, 25, 26, 27, 40, 41, 42, 43, 44, 45, 46, 47, 48, 49, 50] (.s .l (.s (.j [0, 1, 7, 8, 25, 26, 27, 40, 41, 42, 43, 44, 45, 46, 47, 48, 49, 50] .l .l) (.s (.j [0, 1, 7, 8, 25, 26, 27, 40, 41, 42, 43, 44, 45, 46, 47, 48, 49, 50] (.s .l (.s .l (.s .l (.s (.j [0, 1, 7, 8, 10, 12, 25, 26, 27, 40, 41, 42, 43, 44, 45, 46, 47, 48, 49, 50] (.j [0, 1, 7, 8, 10, 11, 12, 25, 26, 27, 40, 41, 42, 43, 44, 45, 46, 47, 48, 49, 50] (.s (.s .l (.j [0, 1, 7, 8, 10, 11, 12, 25, 26, 27, 40, 41, 42, 43, 44, 45, 46, 47, 48, 49, 50] .l .l)) (.j [0, 1, 7, 8, 10, 11, 12, 25, 26, 27, 40, 41, 42, 43, 44, 45, 46, 47, 48, 49, 50] .l .l)) .l) .l) .l)))) .l) .l))) .l) .l)) .l)))))
def pk13 : List PK := [.c (.sl (.int .i64)), .c (.int .i64)]
def rk13 : List RK := [.own (.int .i64) 4, .c (.int .i64) 5]
noncomputable def rt13 (st : St) : Option R13 := rtG rk13 st
noncomputable def E13 (n : Nat × Nat) : Env := { T := tab, phi := (consPhi 29 (fun _ => true) (P29 n) (consPhi 30 (fun _ => true) (P30 n) (consPhi 31 (fun _ => true) (P31 n) noPhi))), eff := fun _ => false, fuel := n.1, hold := n.2 }
noncomputable def kq13_3 (n : Nat × Nat) : St → Option R13 := run (E13 n) (cB (cB (cB (cB (cB c13))))) (Ann.snd (Ann.snd (Ann.snd (Ann.snd (Ann.snd an13))))) rt13 (fun _ _ => none) rt13
noncomputable def xb13_5 (n : Nat × Nat) : Nat → St → Option R13 := fun j s => bif Nat.beq j 0 then normC [8] s (kq13_3 n) else (fun _ _ => none) j s
noncomputable def F13_6 (n : Nat × Nat) : (St → Option R13) → St → Option R13 := fun K s => run (E13 n) (cA (cA (cB (cA (cB (cB (cB (cB c13)))))))) (Ann.fst (Ann.fst (Ann.snd (Ann.fst (Ann.snd (Ann.snd (Ann.snd (Ann.snd an13)))))))) (fun s => normC [0, 1, 7, 8, 25, 26, 27, 40, 41, 42, 43, 44, 45, 46, 47, 48, 49, 50] s K) (xb13_5 n) rt13 s
noncomputable def kq13_9 (n : Nat × Nat) (m1 : Nat) : St → Option R13 := run (E13 n) (cB (cB (cB (cA (cA (cB (cA (cB (cB (cB (cB c13))))))))))) (Ann.snd (Ann.snd (Ann.snd (Ann.fst (Ann.fst (Ann.snd (Ann.fst (Ann.snd (Ann.snd (Ann.snd (Ann.snd an13))))))))))) (fun s => normC [0, 1, 7, 8, 25, 26, 27, 40, 41, 42, 43, 44, 45, 46, 47, 48, 49, 50] s (loopN (F13_6 n) m1)) (xb13_5 n) rt13
noncomputable def kc13_10 (n : Nat × Nat) (m1 : Nat) : St → Option R13 := fun s => normC [0, 1, 7, 8, 25, 26, 27, 40, 41, 42, 43, 44, 45, 46, 47, 48, 49, 50] s (kq13_9 n m1)
noncomputable def xb13_11 (n : Nat × Nat) (m1 : Nat) : Nat → St → Option R13 := fun j s => bif Nat.beq j 1 then normC [0, 1, 7, 8, 25, 26, 27, 40, 41, 42, 43, 44, 45, 46, 47, 48, 49, 50] s (kq13_9 n m1) else (xb13_5 n) j s
noncomputable def kq13_12 (n : Nat × Nat) (m1 : Nat) : St → Option R13 := run (E13 n) (cB (cB (cB (cB (cA (cA (cB (cB (cA (cA (cB (cA (cB (cB (cB (cB c13)))))))))))))))) (Ann.snd (Ann.snd (Ann.snd (Ann.snd (Ann.fst (Ann.fst (Ann.snd (Ann.snd (Ann.fst (Ann.fst (Ann.snd (Ann.fst (Ann.snd (Ann.snd (Ann.snd (Ann.snd an13)))))))))))))))) (kc13_10 n m1) (xb13_11 n m1) rt13
noncomputable def xb13_14 (n : Nat × Nat) (m1 : Nat) : Nat → St → Option R13 := fun j s => bif Nat.beq j 2 then normC [0, 1, 7, 8, 10, 12, 25, 26, 27, 40, 41, 42, 43, 44, 45, 46, 47, 48, 49, 50] s (kq13_12 n m1) else (xb13_11 n m1) j s
noncomputable def F13_15 (n : Nat × Nat) (m1 : Nat) : (St → Option R13) → St → Option R13 := fun K s => run (E13 n) (cA (cA (cA (cB (cB (cB (cA (cA (cB (cB (cA (cA (cB (cA (cB (cB (cB (cB c13)))))))))))))))))) (Ann.fst (Ann.fst (Ann.fst (Ann.snd (Ann.snd (Ann.snd (Ann.fst (Ann.fst (Ann.snd (Ann.snd (Ann.fst (Ann.fst (Ann.snd (Ann.fst (Ann.snd (Ann.snd (Ann.snd (Ann.snd an13)))))))))))))))))) (fun s => normC [0, 1, 7, 8, 10, 11, 12, 25, 26, 27, 40, 41, 42, 43, 44, 45, 46, 47, 48, 49, 50] s K) (xb13_14 n m1) rt13 s
noncomputable def L13_1 (n : Nat × Nat) (m : Nat) (coins0 : List Int) (sum1 : Int) (left7 : Int) (v25 : List Int) (v26 : Int) (v27 : Int) (out8 : List Int) : Option R13 := loopN (F13_6 n) m { tm := [.c (.sl (.int .i64) coins0 false), .c (.int .i64 sum1), uu, uu, uu, uu, uu, .c (.int .i64 left7), .own 8 none false, uu, uu, uu, uu, uu, uu, uu, uu, uu, uu, uu, uu, uu, uu, uu, uu, .c (.sl (.int .i64) v25 false), .c (.int .i64 v26), .c (.int .i64 v27), uu, uu, uu, uu, uu, uu, uu, uu, uu, uu, uu, uu, uu, uu, uu, uu, uu, uu, uu, uu, uu, uu, uu, uu, uu, uu, uu, uu, uu, uu, uu, uu, uu, uu, uu, uu, uu, uu, uu, uu], hp := (upd emp 8 (.arr (.int .i64) out8 false)) }
noncomputable def L13_2 (n : Nat × Nat) (m1 : Nat) (m : Nat) (coins0 : List Int) (sum1 : Int) (left7 : Int) (c10 : Int) (v11 : List Int) (v12 : Int) (v25 : List Int) (v26 : Int) (v27 : Int) (out8 : List Int) : Option R13 := loopN (F13_15 n m1) m { tm := [.c (.sl (.int .i64) coins0 false), .c (.int .i64 sum1), uu, uu, uu, uu, uu, .c (.int .i64 left7), .own 8 none false, uu, .c (.int .i64 c10), .c (.sl (.int .i64) v11 false), .c (.int .i64 v12), uu, uu, uu, uu, uu, uu, uu, uu, uu, uu, uu, uu, .c (.sl (.int .i64) v25 false), .c (.int .i64 v26), .c (.int .i64 v27), uu, uu, uu, uu, uu, uu, uu, uu, uu, uu, uu, uu, uu, uu, uu, uu, uu, uu, uu, uu, uu, uu, uu, uu, uu, uu, uu, uu, uu, uu, uu, uu, uu, uu, uu, uu, uu, uu, uu, uu], hp := (upd emp 8 (.arr (.int .i64) out8 false)) }
theorem L13_1_eq (n : Nat × Nat) (m1 : Nat) (coins0 : List Int) (sum1 : Int) (left7 : Int) (v25 : List Int) (v26 : Int) (v27 : Int) (out8 : List Int) : L13_1 n (m1 + 1) coins0 sum1 left7 v25 v26 v27 out8 =
 (bif decide (v27 < v26) then (idx v25 v27).bind fun x4' =>
 (bif bounds (some (wr .i64 (v27 + 1))) none none coins0.length then L13_2 n m1 n.1 coins0 sum1 left7 x4' (coins0.drop (Int.toNat (wr .i64 (v27 + 1)))) 0 v25 v26 v27 out8
 else none)
 else some (out8, 0)) := by kernel_rfl
theorem L13_2_eq (n : Nat × Nat) (m1 m2 : Nat) (coins0 : List Int) (sum1 : Int) (left7 : Int) (c10 : Int) (v11 : List Int) (v12 : Int) (v25 : List Int) (v26 : Int) (v27 : Int) (out8 : List Int) : L13_2 n m1 (m2 + 1) coins0 sum1 left7 c10 v11 v12 v25 v26 v27 out8 =
 ((bif (decide (v12 < left7) == true) then (S31 n v11 (wr .i64 (sum1 - (wr .i64 (v12 * c10)))) (wr .i64 (left7 - v12))).bind fun r5' =>
 some (!r5')
 else some false)).bind fun b6' =>
 (bif b6' then L13_2 n m1 m2 coins0 sum1 left7 c10 v11 (wr .i64 (v12 + 1)) v25 v26 v27 out8
 else (bif decide (out8.length + [v12].length ≤ lim) then L13_1 n m1 coins0 (wr .i64 (sum1 - (wr .i64 (v12 * c10)))) (wr .i64 (left7 - v12)) v25 v26 (wr .i64 (v27 + 1)) (out8 ++ [v12])
 else none)) := by kernel_rfl
noncomputable def S13 (n : Nat × Nat) (coins0 : List Int) (sum1 : Int) : Option R13 := run (E13 n) c13 an13 rt13 (fun _ _ => none) rt13 { tm := [.c (.sl (.int .i64) coins0 false), .c (.int .i64 sum1), uu, uu, uu, uu, uu, uu, uu, uu, uu, uu, uu, uu, uu, uu, uu, uu, uu, uu, uu, uu, uu, uu, uu, uu, uu, uu, uu, uu, uu, uu, uu, uu, uu, uu, uu, uu, uu, uu, uu, uu, uu, uu, uu, uu, uu, uu, uu, uu, uu, uu, uu, uu, uu, uu, uu, uu, uu, uu, uu, uu, uu, uu, uu, uu, uu, uu], hp := emp }
theorem S13_eq (n : Nat × Nat) (coins0 : List Int) (sum1 : Int) : S13 n coins0 sum1 =
 (S29 n coins0 sum1).bind fun r1' =>
 (bif (r1' != 0) then some ([], r1')
 else (S30 n coins0 sum1).bind fun r2' =>
 (bif inB sum1 r2'.length then (idx r2' sum1).bind fun x3' =>
        L13_1 n n.1 coins0 sum1 x3' coins0 (coins0.length : Int) 0 []
 else none)) := by kernel_rfl
theorem S13_run (n : Nat × Nat) (xs : pksDen pk13) : S13 n xs.1 xs.2.1 = runG (E13 n) noScope c13 an13 (rtG rk13) (fun _ _ => none) (rtG rk13) (st0 pk13 xs Tryz.f13.ntmps) := by kernel_rfl
noncomputable def P13 (n : Nat × Nat) := phiOf pk13 rk13 (fun xs => S13 n xs.1 xs.2.1)
theorem call13 : CallOK Tryz.prog 13 := callOK_of Tryz.func13 (by kernel_rfl) (by kernel_rfl)
theorem env13 (n : Nat × Nat) : EnvOK Tryz.prog (E13 n) := envOK0 (consPhi_ok (FC29 n) call29 (consPhi_ok (FC30 n) call30 (consPhi_ok (FC31 n) call31 noPhi_ok))) rfl rfl
theorem par13 (n : Nat × Nat) : EnvPar (E13 n) := envPar0 (consPhi_par phiOf_Par1 (consPhi_par phiOf_Par1 (consPhi_par phiOf_Par1 noPhi_par))) rfl
theorem FC13 (n : Nat × Nat) : FCs Tryz.prog 13 (P13 n) := phiOf_FCs fun xs r h vs hv => FC.of_runG tabOK eqsOK (env13 n) (par13 n) mixed (fun _ p _ => noScope_ok p.1 p.2) Tryz.func13 (c := c13) (an := an13) (pks := pk13) (rks := rk13) (by kernel_rfl) (by kernel_rfl) hv ((S13_run n xs).symm.trans h)
abbrev R14 := List Int × Int
noncomputable def c14 : Code := bodyOf Tryz.f14
noncomputable def an14 : Ann := (.s .l (.s (.s .l (.s .l (.j [0, 1] .l .l))) .l))
def pk14 : List PK := [.c (.sl (.int .i64)), .c (.int .i64)]
def rk14 : List RK := [.own (.int .i64) 4, .c (.int .i64) 5]
noncomputable def rt14 (st : St) : Option R14 := rtG rk14 st
noncomputable def E14 (n : Nat × Nat) : Env := { T := tab, phi := (consPhi 29 (fun _ => true) (P29 n) (consPhi 32 (fun _ => true) (P32 n) noPhi)), eff := fun _ => false, fuel := n.1, hold := n.2 }
noncomputable def S14 (n : Nat × Nat) (coins0 : List Int) (sum1 : Int) : Option R14 := run (E14 n) c14 an14 rt14 (fun _ _ => none) rt14 { tm := [.c (.sl (.int .i64) coins0 false), .c (.int .i64 sum1), uu, uu, uu, uu, uu, uu, uu, uu, uu, uu, uu, uu, uu, uu, uu, uu, uu, uu, uu, uu], hp := emp }
theorem S14_eq (n : Nat × Nat) (coins0 : List Int) (sum1 : Int) : S14 n coins0 sum1 =
 (S29 n coins0 sum1).bind fun r1' =>
 (bif (r1' != 0) then some ([], r1')
 else (S32 n coins0 sum1).bind fun r2' =>
 some (r2'.1, 0)) := by kernel_rfl
theorem S14_run (n : Nat × Nat) (xs : pksDen pk14) : S14 n xs.1 xs.2.1 = runG (E14 n) noScope c14 an14 (rtG rk14) (fun _ _ => none) (rtG rk14) (st0 pk14 xs Tryz.f14.ntmps) := by kernel_rfl
noncomputable def P14 (n : Nat × Nat) := phiOf pk14 rk14 (fun xs => S14 n xs.1 xs.2.1)
theorem call14 : CallOK Tryz.prog 14 := callOK_of Tryz.func14 (by kernel_rfl) (by kernel_rfl)
theorem env14 (n : Nat × Nat) : EnvOK Tryz.prog (E14 n) := envOK0 (consPhi_ok (FC29 n) call29 (consPhi_ok (FC32 n) call32 noPhi_ok)) rfl rfl
theorem par14 (n : Nat × Nat) : EnvPar (E14 n) := envPar0 (consPhi_par phiOf_Par1 (consPhi_par phiOf_Par1 noPhi_par)) rfl
theorem FC14 (n : Nat × Nat) : FCs Tryz.prog 14 (P14 n) := phiOf_FCs fun xs r h vs hv => FC.of_runG tabOK eqsOK (env14 n) (par14 n) mixed (fun _ p _ => noScope_ok p.1 p.2) Tryz.func14 (c := c14) (an := an14) (pks := pk14) (rks := rk14) (by kernel_rfl) (by kernel_rfl) hv ((S14_run n xs).symm.trans h)
abbrev R15 := Int × Int
noncomputable def c15 : Code := bodyOf Tryz.f15
noncomputable def an15 : Ann := (.s .l (.s (.s .l (.s .l (.j [0, 1] .l .l))) .l))
def pk15 : List PK := [.c (.sl (.int .i64)), .c (.int .i64)]
def rk15 : List RK := [.c (.int .i64) 4, .c (.int .i64) 5]
noncomputable def rt15 (st : St) : Option R15 := rtG rk15 st
noncomputable def E15 (n : Nat × Nat) : Env := { T := tab, phi := (consPhi 29 (fun _ => true) (P29 n) (consPhi 30 (fun _ => true) (P30 n) noPhi)), eff := fun _ => false, fuel := n.1, hold := n.2 }
noncomputable def S15 (n : Nat × Nat) (coins0 : List Int) (sum1 : Int) : Option R15 := run (E15 n) c15 an15 rt15 (fun _ _ => none) rt15 { tm := [.c (.sl (.int .i64) coins0 false), .c (.int .i64 sum1), uu, uu, uu, uu, uu, uu, uu, uu, uu, uu, uu, uu, uu, uu, uu, uu, uu], hp := emp }
theorem S15_eq (n : Nat × Nat) (coins0 : List Int) (sum1 : Int) : S15 n coins0 sum1 =
 (S29 n coins0 sum1).bind fun r1' =>
 (bif (r1' != 0) then some (0, r1')
 else (S30 n coins0 sum1).bind fun r2' =>
 (bif inB sum1 r2'.length then (idx r2' sum1).bind fun x3' =>
 some (x3', 0)
 else none)) := by kernel_rfl
theorem S15_run (n : Nat × Nat) (xs : pksDen pk15) : S15 n xs.1 xs.2.1 = runG (E15 n) noScope c15 an15 (rtG rk15) (fun _ _ => none) (rtG rk15) (st0 pk15 xs Tryz.f15.ntmps) := by kernel_rfl
noncomputable def P15 (n : Nat × Nat) := phiOf pk15 rk15 (fun xs => S15 n xs.1 xs.2.1)
theorem call15 : CallOK Tryz.prog 15 := callOK_of Tryz.func15 (by kernel_rfl) (by kernel_rfl)
theorem env15 (n : Nat × Nat) : EnvOK Tryz.prog (E15 n) := envOK0 (consPhi_ok (FC29 n) call29 (consPhi_ok (FC30 n) call30 noPhi_ok)) rfl rfl
theorem par15 (n : Nat × Nat) : EnvPar (E15 n) := envPar0 (consPhi_par phiOf_Par1 (consPhi_par phiOf_Par1 noPhi_par)) rfl
theorem FC15 (n : Nat × Nat) : FCs Tryz.prog 15 (P15 n) := phiOf_FCs fun xs r h vs hv => FC.of_runG tabOK eqsOK (env15 n) (par15 n) mixed (fun _ p _ => noScope_ok p.1 p.2) Tryz.func15 (c := c15) (an := an15) (pks := pk15) (rks := rk15) (by kernel_rfl) (by kernel_rfl) hv ((S15_run n xs).symm.trans h)
abbrev R18 := Int
noncomputable def c18 : Code := bodyOf Tryz.f18
noncomputable def an18 : Ann := (.s .l (.s (.j [1, 30, 31, 32, 33, 34, 35, 48, 49, 50, 53, 54, 55, 58, 59, 60, 61, 62] (.s .l (.j [1, 30, 31, 32, 33, 34, 35, 48, 49, 50, 53, 54, 55, 58, 59, 60, 61, 62] .l (.s .l (.j [1, 30, 31, 32, 33, 34, 35, 48, 49, 50, 53, 54, 55, 58, 59, 60, 61, 62] .l .l)))) .l) (.s (.s .l (.j [1, 48, 49, 50, 53, 54, 55, 58, 59, 60, 61, 62] (.j [1, 16, 17, 18, 30, 31, 32, 33, 34, 35, 48, 49, 50, 53, 54, 55, 58, 59, 60, 61, 62] (.s .l (.s (.j [1, 16, 17, 18, 30, 31, 32, 33, 34, 35, 48, 49, 50, 53, 54, 55, 58, 59, 60, 61, 62] .l .l) (.s (.j [1, 16, 17, 18, 30, 31, 32, 33, 34, 35, 48, 49, 50, 53, 54, 55, 58, 59, 60, 61, 62] (.s .l (.j [1, 16, 17, 18, 30, 31, 32, 33, 34, 35, 48, 49, 50, 53, 54, 55, 58, 59, 60, 61, 62] (.s .l (.j [1, 16, 17, 18, 30, 31, 32, 33, 34, 35, 48, 49, 50, 53, 54, 55, 58, 59, 60, 61, 62] .l (.s .l (.j [1, 16, 17, 18, 30, 31, 32, 33, 34, 35, 48, 49, 50, 53, 54, 55, 58, 59, 60, 61, 62] .l .l)))) .l)) .l) .l))) .l) .l)) (.s (.s .l (.j [] .l .l)) .l))))
def pk18 : List PK := [.c (.pair (.sl (.pair (.int .i64) (.int .i64))) (.pair (.int .i64) (.int .i64)))]
def rk18 : List RK := [.c (.int .i64) 2]
noncomputable def rt18 (st : St) : Option R18 := rtG rk18 st
noncomputable def E18 (n : Nat × Nat) : Env := { T := tab, phi := noPhi, eff := fun _ => false, fuel := n.1, hold := n.2 }
noncomputable def kq18_6 (n : Nat × Nat) : St → Option R18 := run (E18 n) (cB (cB (cB c18))) (Ann.snd (Ann.snd (Ann.snd an18))) rt18 (fun _ _ => none) rt18
noncomputable def xb18_8 (n : Nat × Nat) : Nat → St → Option R18 := fun j s => bif Nat.beq j 1 then normC [1, 48, 49, 50, 53, 54, 55, 58, 59, 60, 61, 62] s (kq18_6 n) else (fun _ _ => none) j s
noncomputable def F18_9 (n : Nat × Nat) : (St → Option R18) → St → Option R18 := fun K s => run (E18 n) (cA (cA (cB (cA (cB (cB c18)))))) (Ann.fst (Ann.fst (Ann.snd (Ann.fst (Ann.snd (Ann.snd an18)))))) (fun s => normC [1, 16, 17, 18, 30, 31, 32, 33, 34, 35, 48, 49, 50, 53, 54, 55, 58, 59, 60, 61, 62] s K) (xb18_8 n) rt18 s
noncomputable def L18_1 (n : Nat × Nat) (m : Nat) (v16 : List (Int × Int)) (v17 : Int) (v18 : Int) (b1_0 : List (Int × Int)) (b1_1 : Int) (b1_2 : Int) : Option R18 := loopN (F18_9 n) m { tm := [uu, .ptr 1 0, uu, uu, uu, uu, uu, uu, uu, uu, uu, uu, uu, uu, uu, uu, .c (.sl (.pair (.int .i64) (.int .i64)) v16 false), .c (.int .i64 v17), .c (.int .i64 v18), uu, uu, uu, uu, uu, uu, uu, uu, uu, uu, uu, uu, uu, uu, uu, uu, uu, uu, uu, uu, uu, uu, uu, uu, uu, uu, uu, uu, uu, uu, uu, uu, uu, uu, uu, uu, uu, uu, uu, uu, uu, uu, uu, uu, uu], hp := (upd emp 1 (.box [.sl (.pair (.int .i64) (.int .i64)) b1_0 false, .int .i64 b1_1, .int .i64 b1_2])) }
theorem L18_1_eq (n : Nat × Nat) (m1 : Nat) (v16 : List (Int × Int)) (v17 : Int) (v18 : Int) (b1_0 : List (Int × Int)) (b1_1 : Int) (b1_2 : Int) : L18_1 n (m1 + 1) v16 v17 v18 b1_0 b1_1 b1_2 =
 (bif decide (v18 < v17) then (idx v16 v18).bind fun x1' =>
 ((bif (decide ((if x1'.2 < x1'.1 then x1'.2 else x1'.1) < 1) == false) then some (decide ((if x1'.2 > x1'.1 then x1'.2 else x1'.1) > 30))
 else some true)).bind fun b2' =>
 (bif b2' then some 1
 else (bif decide (x1'.1 > x1'.2) then some 7
 else L18_1 n m1 v16 v17 (wr .i64 (v18 + 1)) b1_0 b1_1 b1_2))
 else ((bif (decide (b1_1 < 1) == false) then some (decide (b1_1 > 100))
 else some true)).bind fun b3' =>
 ((bif (b3' == false) then some (decide (b1_2 < 0))
 else some true)).bind fun b4' =>
 ((bif (b4' == false) then some (decide (b1_2 > b1_1))
 else some true)).bind fun b5' =>
 (bif b5' then some 1
 else some 0)) := by kernel_rfl
noncomputable def S18 (n : Nat × Nat) (b0 : (List (Int × Int)) × Int × Int) : Option R18 := run (E18 n) c18 an18 rt18 (fun _ _ => none) rt18 { tm := [.agg [.sl (.pair (.int .i64) (.int .i64)) b0.1 false, .int .i64 b0.2.1, .int .i64 b0.2.2], uu, uu, uu, uu, uu, uu, uu, uu, uu, uu, uu, uu, uu, uu, uu, uu, uu, uu, uu, uu, uu, uu, uu, uu, uu, uu, uu, uu, uu, uu, uu, uu, uu, uu, uu, uu, uu, uu, uu, uu, uu, uu, uu, uu, uu, uu, uu, uu, uu, uu, uu, uu, uu, uu, uu, uu, uu, uu, uu, uu, uu, uu, uu], hp := emp }
theorem S18_eq (n : Nat × Nat) (b0 : (List (Int × Int)) × Int × Int) : S18 n b0 =
 (bif ((b0.1.length : Int) == 0) then some 4
 else (bif decide ((b0.1.length : Int) > 12) then some 3
 else L18_1 n n.1 b0.1 (b0.1.length : Int) 0 b0.1 b0.2.1 b0.2.2)) := by kernel_rfl
theorem S18_run (n : Nat × Nat) (xs : pksDen pk18) : S18 n xs.1 = runG (E18 n) noScope c18 an18 (rtG rk18) (fun _ _ => none) (rtG rk18) (st0 pk18 xs Tryz.f18.ntmps) := by kernel_rfl
noncomputable def P18 (n : Nat × Nat) := phiOf pk18 rk18 (fun xs => S18 n xs.1)
theorem call18 : CallOK Tryz.prog 18 := callOK_of Tryz.func18 (by kernel_rfl) (by kernel_rfl)
theorem env18 (n : Nat × Nat) : EnvOK Tryz.prog (E18 n) := envOK0 noPhi_ok rfl rfl
theorem par18 (n : Nat × Nat) : EnvPar (E18 n) := envPar0 noPhi_par rfl
theorem FC18 (n : Nat × Nat) : FCs Tryz.prog 18 (P18 n) := phiOf_FCs fun xs r h vs hv => FC.of_runG tabOK eqsOK (env18 n) (par18 n) mixed (fun _ p _ => noScope_ok p.1 p.2) Tryz.func18 (c := c18) (an := an18) (pks := pk18) (rks := rk18) (by kernel_rfl) (by kernel_rfl) hv ((S18_run n xs).symm.trans h)
/- (headword/volume.Article).most -/
abbrev R20 := Int
noncomputable def c20 : Code := bodyOf Tryz.f20
noncomputable def an20 : Ann := .l
def pk20 : List PK := [.c (.pair (.int .i64) (.int .i64))]
def rk20 : List RK := [.c (.int .i64) 2]
noncomputable def rt20 (st : St) : Option R20 := rtG rk20 st
noncomputable def E20 (n : Nat × Nat) : Env := { T := tab, phi := noPhi, eff := fun _ => false, fuel := n.1, hold := n.2 }
noncomputable def S20 (n : Nat × Nat) (a0 : Int × Int) : Option R20 := run (E20 n) c20 an20 rt20 (fun _ _ => none) rt20 { tm := [.agg [.int .i64 a0.1, .int .i64 a0.2], uu, uu, uu, uu], hp := emp }
theorem S20_eq (n : Nat × Nat) (a0 : Int × Int) : S20 n a0 =
 some a0.2 := by kernel_rfl
theorem S20_run (n : Nat × Nat) (xs : pksDen pk20) : S20 n xs.1 = runG (E20 n) noScope c20 an20 (rtG rk20) (fun _ _ => none) (rtG rk20) (st0 pk20 xs Tryz.f20.ntmps) := by kernel_rfl
noncomputable def P20 (n : Nat × Nat) := phiOf pk20 rk20 (fun xs => S20 n xs.1)
theorem call20 : CallOK Tryz.prog 20 := callOK_of Tryz.func20 (by kernel_rfl) (by kernel_rfl)
theorem env20 (n : Nat × Nat) : EnvOK Tryz.prog (E20 n) := envOK0 noPhi_ok rfl rfl
theorem par20 (n : Nat × Nat) : EnvPar (E20 n) := envPar0 noPhi_par rfl
theorem FC20 (n : Nat × Nat) : FCs Tryz.prog 20 (P20 n) := phiOf_FCs fun xs r h vs hv => FC.of_runG tabOK eqsOK (env20 n) (par20 n) mixed (fun _ p _ => noScope_ok p.1 p.2) Tryz.func20 (c := c20) (an := an20) (pks := pk20) (rks := rk20) (by kernel_rfl) (by kernel_rfl) hv ((S20_run n xs).symm.trans h)
/- (headword/volume.Book).counted -/
abbrev R19c20 := List Int
noncomputable def c19c20 : Code := bodyOf Tryz.f19
noncomputable def an19c20 : Ann := (.s .l (.s .l (.s (.s .l (.j [5] (.j [1, 5, 10, 11, 12] (.s .l (.s (.j [1, 5, 10, 11, 12] .l .l) (.s (.j [1, 5, 10, 11, 12] .l .l) .l))) .l) .l)) .l)))
def pk19c20 : List PK := [.c (.pair (.sl (.pair (.int .i64) (.int .i64))) (.pair (.int .i64) (.int .i64))), .f 20 []]
def rk19c20 : List RK := [.own (.int .i64) 4]
noncomputable def rt19c20 (st : St) : Option R19c20 := rtG rk19c20 st
noncomputable def E19c20 (n : Nat × Nat) : Env := { T := tab, phi := (consPhi 20 (fun _ => true) (P20 n) noPhi), eff := fun _ => false, fuel := n.1, hold := n.2, pcl := [23] }
noncomputable def kq19c20_1 (n : Nat × Nat) : St → Option R19c20 := run (E19c20 n) (cB (cB (cB c19c20))) (Ann.snd (Ann.snd (Ann.snd an19c20))) rt19c20 (fun _ _ => none) rt19c20
noncomputable def xb19c20_3 (n : Nat × Nat) : Nat → St → Option R19c20 := fun j s => bif Nat.beq j 0 then normC [5] s (kq19c20_1 n) else (fun _ _ => none) j s
noncomputable def F19c20_4 (n : Nat × Nat) : (St → Option R19c20) → St → Option R19c20 := fun K s => run (E19c20 n) (cA (cA (cB (cA (cB (cB c19c20)))))) (Ann.fst (Ann.fst (Ann.snd (Ann.fst (Ann.snd (Ann.snd an19c20)))))) (fun s => normC [1, 5, 10, 11, 12] s K) (xb19c20_3 n) rt19c20 s
noncomputable def L19c20_1 (n : Nat × Nat) (m : Nat) (v10 : List (Int × Int)) (v11 : Int) (v12 : Int) (out5 : List Int) : Option R19c20 := loopN (F19c20_4 n) m { tm := [uu, .fn 20 [], uu, uu, uu, .own 5 none false, uu, uu, uu, uu, .c (.sl (.pair (.int .i64) (.int .i64)) v10 false), .c (.int .i64 v11), .c (.int .i64 v12), uu, uu, uu, uu, uu, uu, uu, uu, uu, uu, uu, uu, uu, uu, uu, uu, uu, uu], hp := (upd emp 5 (.arr (.int .i64) out5 false)) }
theorem L19c20_1_eq (n : Nat × Nat) (m1 : Nat) (v10 : List (Int × Int)) (v11 : Int) (v12 : Int) (out5 : List Int) : L19c20_1 n (m1 + 1) v10 v11 v12 out5 =
 (bif decide (v12 < v11) then (idx v10 v12).bind fun x1' =>
 (bif inB (wr .i64 ((out5.length : Int) - 1)) out5.length then (idx out5 (wr .i64 ((out5.length : Int) - 1))).bind fun x2' =>
 (S20 n x1').bind fun r3' =>
 (bif decide (out5.length + [wr .i64 (x2' + r3')].length ≤ lim) then L19c20_1 n m1 v10 v11 (wr .i64 (v12 + 1)) (out5 ++ [wr .i64 (x2' + r3')])
 else none)
 else none)
 else some out5) := by kernel_rfl
noncomputable def S19c20 (n : Nat × Nat) (b0 : (List (Int × Int)) × Int × Int) : Option R19c20 := run (E19c20 n) c19c20 an19c20 rt19c20 (fun _ _ => none) rt19c20 { tm := [.agg [.sl (.pair (.int .i64) (.int .i64)) b0.1 false, .int .i64 b0.2.1, .int .i64 b0.2.2], .fn 20 [], uu, uu, uu, uu, uu, uu, uu, uu, uu, uu, uu, uu, uu, uu, uu, uu, uu, uu, uu, uu, uu, uu, uu, uu, uu, uu, uu, uu, uu], hp := emp }
theorem S19c20_eq (n : Nat × Nat) (b0 : (List (Int × Int)) × Int × Int) : S19c20 n b0 =
    L19c20_1 n n.1 b0.1 (b0.1.length : Int) 0 [0] := by kernel_rfl
theorem S19c20_run (n : Nat × Nat) (xs : pksDen pk19c20) : S19c20 n xs.1 = runG (E19c20 n) noScope c19c20 an19c20 (rtG rk19c20) (fun _ _ => none) (rtG rk19c20) (st0 pk19c20 xs Tryz.f19.ntmps) := by kernel_rfl
noncomputable def P19c20 (n : Nat × Nat) := phiOf pk19c20 rk19c20 (fun xs => S19c20 n xs.1)
theorem call19 : CallOK Tryz.prog 19 := callOK_of Tryz.func19 (by kernel_rfl) (by kernel_rfl)
theorem env19c20 (n : Nat × Nat) : EnvOK Tryz.prog (E19c20 n) := envOK0 (consPhi_ok (FC20 n) call20 noPhi_ok) rfl rfl
theorem par19c20 (n : Nat × Nat) : EnvPar (E19c20 n) := envPar0 (consPhi_par phiOf_Par1 noPhi_par) rfl
theorem FC19c20 (n : Nat × Nat) : FCs Tryz.prog 19 (P19c20 n) := phiOf_FCs fun xs r h vs hv => FC.of_runG tabOK eqsOK (env19c20 n) (par19c20 n) mixed (fun _ p _ => noScope_ok p.1 p.2) Tryz.func19 (c := c19c20) (an := an19c20) (pks := pk19c20) (rks := rk19c20) (by kernel_rfl) (by kernel_rfl) hv ((S19c20_run n xs).symm.trans h)
/- (headword/volume.lines).between -/
abbrev R33 := Int
noncomputable def c33 : Code := bodyOf Tryz.f33
noncomputable def an33 : Ann := .l
def pk33 : List PK := [.c (.sl (.int .i64)), .c (.int .i64), .c (.int .i64)]
def rk33 : List RK := [.c (.int .i64) 6]
noncomputable def rt33 (st : St) : Option R33 := rtG rk33 st
noncomputable def E33 (n : Nat × Nat) : Env := { T := tab, phi := noPhi, eff := fun _ => false, fuel := n.1, hold := n.2 }
noncomputable def S33 (n : Nat × Nat) (l0 : List Int) (begin1 : Int) (v2 : Int) : Option R33 := run (E33 n) c33 an33 rt33 (fun _ _ => none) rt33 { tm := [.c (.sl (.int .i64) l0 false), .c (.int .i64 begin1), .c (.int .i64 v2), uu, uu, uu, uu, uu, uu, uu, uu, uu, uu, uu, uu, uu], hp := emp }
theorem S33_eq (n : Nat × Nat) (l0 : List Int) (begin1 : Int) (v2 : Int) : S33 n l0 begin1 v2 =
 (idx l0 v2).bind fun x1' =>
 (idx l0 begin1).bind fun x2' =>
 some (wr .i64 (x1' - x2')) := by kernel_rfl
theorem S33_run (n : Nat × Nat) (xs : pksDen pk33) : S33 n xs.1 xs.2.1 xs.2.2.1 = runG (E33 n) noScope c33 an33 (rtG rk33) (fun _ _ => none) (rtG rk33) (st0 pk33 xs Tryz.f33.ntmps) := by kernel_rfl
noncomputable def P33 (n : Nat × Nat) := phiOf pk33 rk33 (fun xs => S33 n xs.1 xs.2.1 xs.2.2.1)
theorem call33 : CallOK Tryz.prog 33 := callOK_of Tryz.func33 (by kernel_rfl) (by kernel_rfl)
theorem env33 (n : Nat × Nat) : EnvOK Tryz.prog (E33 n) := envOK0 noPhi_ok rfl rfl
theorem par33 (n : Nat × Nat) : EnvPar (E33 n) := envPar0 noPhi_par rfl
theorem FC33 (n : Nat × Nat) : FCs Tryz.prog 33 (P33 n) := phiOf_FCs fun xs r h vs hv => FC.of_runG tabOK eqsOK (env33 n) (par33 n) mixed (fun _ p _ => noScope_ok p.1 p.2) Tryz.func33 (c := c33) (an := an33) (pks := pk33) (rks := rk33) (by kernel_rfl) (by kernel_rfl) hv ((S33_run n xs).symm.trans h)
/- (headword/volume.lines).filled -/
abbrev R21 := List Int
noncomputable def c21 : Code := bodyOf Tryz.f21
noncomputable def an21 : Ann := (.s .l (.s .l (.s .l (.s (.s .l (.j [0, 5] (.j [0, 1, 5, 6, 7] (.s (.s .l (.j [0, 1, 5, 6, 7] .l .l)) (.j [] (.j [0, 1, 5, 6, 7] (.s (.s .l (.j [0, 1, 5, 6, 7] .l .l)) (.s .l (.j [0, 1, 5, 6, 7] .l .l))) .l) .l)) .l) .l)) .l))))
def pk21 : List PK := [.c (.sl (.int .i64)), .c (.int .i64)]
def rk21 : List RK := [.ownN (.int .i64) 4]
noncomputable def rt21 (st : St) : Option R21 := rtG rk21 st
noncomputable def E21 (n : Nat × Nat) : Env := { T := tabN, phi := (consPhi 33 (fun _ => true) (P33 n) noPhi), eff := fun _ => false, fuel := n.1, hold := n.2 }
noncomputable def kq21_1 (n : Nat × Nat) : St → Option R21 := run (E21 n) (cB (cB (cB (cB c21)))) (Ann.snd (Ann.snd (Ann.snd (Ann.snd an21)))) rt21 (fun _ _ => none) rt21
noncomputable def xb21_3 (n : Nat × Nat) : Nat → St → Option R21 := fun j s => bif Nat.beq j 0 then normC [0, 5] s (kq21_1 n) else (fun _ _ => none) j s
noncomputable def F21_4 (n : Nat × Nat) : (St → Option R21) → St → Option R21 := fun K s => run (E21 n) (cA (cA (cB (cA (cB (cB (cB c21))))))) (Ann.fst (Ann.fst (Ann.snd (Ann.fst (Ann.snd (Ann.snd (Ann.snd an21))))))) (fun s => normC [0, 1, 5, 6, 7] s K) (xb21_3 n) rt21 s
noncomputable def kq21_7 (n : Nat × Nat) (m1 : Nat) : St → Option R21 := run (E21 n) (cB (cB (cA (cA (cB (cA (cB (cB (cB c21))))))))) (Ann.snd (Ann.snd (Ann.fst (Ann.fst (Ann.snd (Ann.fst (Ann.snd (Ann.snd (Ann.snd an21))))))))) (fun s => normC [0, 1, 5, 6, 7] s (loopN (F21_4 n) m1)) (xb21_3 n) rt21
noncomputable def L21_1 (n : Nat × Nat) (m : Nat) (l0 : List Int) (room1 : Int) (begin6 : Int) (v7 : Int) (out5 : List Int) : Option R21 := loopN (F21_4 n) m { tm := [.c (.sl (.int .i64) l0 false), .c (.int .i64 room1), uu, uu, uu, .own 5 none false, .c (.int .i64 begin6), .c (.int .i64 v7), uu, uu, uu, uu, uu, uu, uu, uu, uu, uu, uu, uu, uu, uu, uu, uu, uu, uu, uu, uu, uu, uu, uu, uu, uu, uu, uu, uu, uu, uu, uu], hp := (upd emp 5 (.arr (.int .i64) out5 true)) }
noncomputable def L21_2 (n : Nat × Nat) (m1 : Nat) (l0 : List Int) (room1 : Int) (begin6 : Int) (v7 : Int) (out5 : List Int) : Option R21 := loopN (fun _ => (kq21_7 n m1)) n.2 { tm := [.c (.sl (.int .i64) l0 false), .c (.int .i64 room1), uu, uu, uu, .own 5 none false, .c (.int .i64 begin6), .c (.int .i64 v7), uu, uu, uu, uu, uu, uu, uu, uu, uu, uu, uu, uu, uu, uu, uu, uu, uu, uu, uu, uu, uu, uu, uu, uu, uu, uu, uu, uu, uu, uu, uu], hp := (upd emp 5 (.arr (.int .i64) out5 true)) }
theorem L21_1_eq (n : Nat × Nat) (m1 : Nat) (l0 : List Int) (room1 : Int) (begin6 : Int) (v7 : Int) (out5 : List Int) : L21_1 n (m1 + 1) l0 room1 begin6 v7 out5 =
 (bif decide (v7 < (l0.length : Int)) then (S33 n l0 (wr .i64 (v7 - 1)) v7).bind fun r1' =>
 (bif decide (r1' > room1) then some []
 else (S33 n l0 begin6 v7).bind fun r2' =>
 (bif decide (r2' > room1) then (bif decide (out5.length + [wr .i64 (v7 - 1)].length ≤ lim) then L21_2 n m1 l0 room1 (wr .i64 (v7 - 1)) v7 (out5 ++ [wr .i64 (v7 - 1)])
 else none)
 else L21_2 n m1 l0 room1 begin6 v7 out5))
 else (bif decide (out5.length + [wr .i64 ((l0.length : Int) - 1)].length ≤ lim) then some (out5 ++ [wr .i64 ((l0.length : Int) - 1)])
 else none)) := by kernel_rfl
theorem L21_2_raw (n : Nat × Nat) (m1 : Nat) (l0 : List Int) (room1 : Int) (begin6 : Int) (v7 : Int) (out5 : List Int) : (kq21_7 n m1) { tm := [.c (.sl (.int .i64) l0 false), .c (.int .i64 room1), uu, uu, uu, .own 5 none false, .c (.int .i64 begin6), .c (.int .i64 v7), uu, uu, uu, uu, uu, uu, uu, uu, uu, uu, uu, uu, uu, uu, uu, uu, uu, uu, uu, uu, uu, uu, uu, uu, uu, uu, uu, uu, uu, uu, uu], hp := (upd emp 5 (.arr (.int .i64) out5 true)) } =
    L21_1 n m1 l0 room1 begin6 (wr .i64 (v7 + 1)) out5 := by kernel_rfl
noncomputable def S21 (n : Nat × Nat) (l0 : List Int) (room1 : Int) : Option R21 := run (E21 n) c21 an21 rt21 (fun _ _ => none) rt21 { tm := [.c (.sl (.int .i64) l0 false), .c (.int .i64 room1), uu, uu, uu, uu, uu, uu, uu, uu, uu, uu, uu, uu, uu, uu, uu, uu, uu, uu, uu, uu, uu, uu, uu, uu, uu, uu, uu, uu, uu, uu, uu, uu, uu, uu, uu, uu, uu], hp := emp }
theorem S21_eq (n : Nat × Nat) (l0 : List Int) (room1 : Int) : S21 n l0 room1 =
    L21_1 n n.1 l0 room1 0 1 [] := by kernel_rfl
theorem S21_run (n : Nat × Nat) (xs : pksDen pk21) : S21 n xs.1 xs.2.1 = runG (E21 n) noScope c21 an21 (rtG rk21) (fun _ _ => none) (rtG rk21) (st0 pk21 xs Tryz.f21.ntmps) := by kernel_rfl
noncomputable def P21 (n : Nat × Nat) := phiOf pk21 rk21 (fun xs => S21 n xs.1 xs.2.1)
theorem call21 : CallOK Tryz.prog 21 := callOK_of Tryz.func21 (by kernel_rfl) (by kernel_rfl)
theorem env21 (n : Nat × Nat) : EnvOK Tryz.prog (E21 n) := envOK0 (consPhi_ok (FC33 n) call33 noPhi_ok) rfl rfl
theorem par21 (n : Nat × Nat) : EnvPar (E21 n) := envPar0 (consPhi_par phiOf_Par1 noPhi_par) rfl
theorem FC21 (n : Nat × Nat) : FCs Tryz.prog 21 (P21 n) := phiOf_FCs fun xs r h vs hv => FC.of_runG tabNOK eqsNOK (env21 n) (par21 n) mixed (fun _ p _ => noScope_ok p.1 p.2) Tryz.func21 (c := c21) (an := an21) (pks := pk21) (rks := rk21) (by kernel_rfl) (by kernel_rfl) hv ((S21_run n xs).symm.trans h)
abbrev R25 := Int × Int
noncomputable def c25 : Code := bodyOf Tryz.f25
noncomputable def an25 : Ann := (.s .l (.s .l (.s (.j [1, 2, 49, 50, 51, 52] (.s .l (.j [1, 2, 49, 50, 51, 52] .l (.s .l (.j [1, 2, 49, 50, 51, 52] .l .l)))) .l) (.s .l (.s .l (.s (.j [8] (.j [1, 7, 8, 9, 49, 50, 51, 52] (.s (.s .l (.j [1, 7, 8, 9, 49, 50, 51, 52] .l .l)) (.j [1, 7, 8, 9, 49, 50, 51, 52] (.s .l (.s .l (.s .l (.j [1, 7, 8, 9, 49, 50, 51, 52] .l .l)))) .l)) .l) .l) .l))))))
def pk25 : List PK := [.c (.pair (.sl (.pair (.int .i64) (.int .i64))) (.pair (.int .i64) (.int .i64))), .c (.int .i64)]
def rk25 : List RK := [.c (.int .i64) 4, .c (.int .i64) 5]
noncomputable def rt25 (st : St) : Option R25 := rtG rk25 st
noncomputable def E25 (n : Nat × Nat) : Env := { T := tab, phi := (consPhi 18 (fun _ => true) (P18 n) (consPhi 19 (isFns [none, some 20]) (P19c20 n) (consPhi 21 (fun _ => true) (P21 n) noPhi))), eff := fun _ => false, fuel := n.1, hold := n.2 }
noncomputable def kq25_6 (n : Nat × Nat) : St → Option R25 := run (E25 n) (cB (cB (cB (cB (cB (cB c25)))))) (Ann.snd (Ann.snd (Ann.snd (Ann.snd (Ann.snd (Ann.snd an25)))))) rt25 (fun _ _ => none) rt25
noncomputable def xb25_8 (n : Nat × Nat) : Nat → St → Option R25 := fun j s => bif Nat.beq j 1 then normC [8] s (kq25_6 n) else (fun _ _ => none) j s
noncomputable def F25_9 (n : Nat × Nat) : (St → Option R25) → St → Option R25 := fun K s => run (E25 n) (cA (cA (cA (cB (cB (cB (cB (cB c25)))))))) (Ann.fst (Ann.fst (Ann.fst (Ann.snd (Ann.snd (Ann.snd (Ann.snd (Ann.snd an25)))))))) (fun s => normC [1, 7, 8, 9, 49, 50, 51, 52] s K) (xb25_8 n) rt25 s
noncomputable def L25_1 (n : Nat × Nat) (m : Nat) (volumes1 : Int) (low8 : Int) (high9 : Int) (l7 : List Int) : Option R25 := loopN (F25_9 n) m { tm := [uu, .c (.int .i64 volumes1), uu, uu, uu, uu, uu, .own 7 none false, .c (.int .i64 low8), .c (.int .i64 high9), uu, uu, uu, uu, uu, uu, uu, uu, uu, uu, uu, uu, uu, uu, uu, uu, uu, uu, uu, uu, uu, uu, uu, uu, uu, uu, uu, uu, uu, uu, uu, uu, uu, uu, uu, uu, uu, uu, uu, uu, uu, uu, uu, uu, uu, uu, uu, uu], hp := (upd emp 7 (.arr (.int .i64) l7 false)) }
theorem L25_1_eq (n : Nat × Nat) (m1 : Nat) (volumes1 : Int) (low8 : Int) (high9 : Int) (l7 : List Int) : L25_1 n (m1 + 1) volumes1 low8 high9 l7 =
 (bif decide (low8 < high9) then (bif 2 == 0 then none
 else (S21 n l7 (wr .i64 (Int.tdiv (wr .i64 (low8 + high9)) 2))).bind fun r5' =>
 ((bif ((!r5'.isEmpty) == true) then some (decide ((r5'.length : Int) ≤ volumes1))
 else some false)).bind fun b6' =>
 (bif b6' then L25_1 n m1 volumes1 low8 (wr .i64 (Int.tdiv (wr .i64 (low8 + high9)) 2)) l7
 else L25_1 n m1 volumes1 (wr .i64 ((wr .i64 (Int.tdiv (wr .i64 (low8 + high9)) 2)) + 1)) high9 l7))
 else some (low8, 0)) := by kernel_rfl
noncomputable def S25 (n : Nat × Nat) (b0 : (List (Int × Int)) × Int × Int) (volumes1 : Int) : Option R25 := run (E25 n) c25 an25 rt25 (fun _ _ => none) rt25 { tm := [.agg [.sl (.pair (.int .i64) (.int .i64)) b0.1 false, .int .i64 b0.2.1, .int .i64 b0.2.2], .c (.int .i64 volumes1), uu, uu, uu, uu, uu, uu, uu, uu, uu, uu, uu, uu, uu, uu, uu, uu, uu, uu, uu, uu, uu, uu, uu, uu, uu, uu, uu, uu, uu, uu, uu, uu, uu, uu, uu, uu, uu, uu, uu, uu, uu, uu, uu, uu, uu, uu, uu, uu, uu, uu, uu, uu, uu, uu, uu, uu], hp := emp }
theorem S25_eq (n : Nat × Nat) (b0 : (List (Int × Int)) × Int × Int) (volumes1 : Int) : S25 n b0 volumes1 =
 (S18 n b0).bind fun r1' =>
 (bif (r1' != 0) then some (0, r1')
 else ((bif (decide (volumes1 < 1) == false) then some (decide (volumes1 > (b0.1.length : Int)))
 else some true)).bind fun b2' =>
 (bif b2' then some (0, 1)
 else (S19c20 n b0).bind fun r3' =>
 (bif inB (wr .i64 ((r3'.length : Int) - 1)) r3'.length then (idx r3' (wr .i64 ((r3'.length : Int) - 1))).bind fun x4' =>
          L25_1 n n.1 volumes1 1 x4' r3'
 else none))) := by kernel_rfl
theorem S25_run (n : Nat × Nat) (xs : pksDen pk25) : S25 n xs.1 xs.2.1 = runG (E25 n) noScope c25 an25 (rtG rk25) (fun _ _ => none) (rtG rk25) (st0 pk25 xs Tryz.f25.ntmps) := by kernel_rfl
noncomputable def P25 (n : Nat × Nat) := phiOf pk25 rk25 (fun xs => S25 n xs.1 xs.2.1)
theorem call25 : CallOK Tryz.prog 25 := callOK_of Tryz.func25 (by kernel_rfl) (by kernel_rfl)
theorem env25 (n : Nat × Nat) : EnvOK Tryz.prog (E25 n) := envOK0 (consPhi_ok (FC18 n) call18 (consPhi_ok (FC19c20 n) call19 (consPhi_ok (FC21 n) call21 noPhi_ok))) rfl rfl
theorem par25 (n : Nat × Nat) : EnvPar (E25 n) := envPar0 (consPhi_par phiOf_Par1 (consPhi_par phiOf_Par1 (consPhi_par phiOf_Par1 noPhi_par))) rfl
theorem FC25 (n : Nat × Nat) : FCs Tryz.prog 25 (P25 n) := phiOf_FCs fun xs r h vs hv => FC.of_runG tabOK eqsOK (env25 n) (par25 n) mixed (fun _ p _ => noScope_ok p.1 p.2) Tryz.func25 (c := c25) (an := an25) (pks := pk25) (rks := rk25) (by kernel_rfl) (by kernel_rfl) hv ((S25_run n xs).symm.trans h)
abbrev R46 := Int
noncomputable def c46 : Code := bodyOf Tryz.f46
noncomputable def an46 : Ann := (.s .l (.s (.j [0, 23, 24, 25, 28, 29, 30, 33, 34, 35] (.s .l (.j [0, 23, 24, 25, 28, 29, 30, 33, 34, 35] .l (.s .l (.j [0, 23, 24, 25, 28, 29, 30, 33, 34, 35] .l .l)))) .l) (.s (.s .l (.j [] (.j [13, 14, 15, 23, 24, 25, 28, 29, 30, 33, 34, 35] (.s .l (.s (.j [13, 14, 15, 23, 24, 25, 28, 29, 30, 33, 34, 35] .l .l) (.s (.j [13, 14, 15, 23, 24, 25, 28, 29, 30, 33, 34, 35] (.s .l (.s .l (.j [13, 14, 15, 23, 24, 25, 28, 29, 30, 33, 34, 35] .l .l))) .l) .l))) .l) .l)) .l)))
def pk46 : List PK := [.c (.sl (.pair (.int .i64) (.int .i64)))]
def rk46 : List RK := [.c (.int .i64) 2]
noncomputable def rt46 (st : St) : Option R46 := rtG rk46 st
noncomputable def E46 (n : Nat × Nat) : Env := { T := tab, phi := noPhi, eff := fun _ => false, fuel := n.1, hold := n.2 }
noncomputable def kq46_6 (n : Nat × Nat) : St → Option R46 := run (E46 n) (cB (cB (cB c46))) (Ann.snd (Ann.snd (Ann.snd an46))) rt46 (fun _ _ => none) rt46
noncomputable def xb46_8 (n : Nat × Nat) : Nat → St → Option R46 := fun j s => bif Nat.beq j 1 then normC [] s (kq46_6 n) else (fun _ _ => none) j s
noncomputable def F46_9 (n : Nat × Nat) : (St → Option R46) → St → Option R46 := fun K s => run (E46 n) (cA (cA (cB (cA (cB (cB c46)))))) (Ann.fst (Ann.fst (Ann.snd (Ann.fst (Ann.snd (Ann.snd an46)))))) (fun s => normC [13, 14, 15, 23, 24, 25, 28, 29, 30, 33, 34, 35] s K) (xb46_8 n) rt46 s
noncomputable def L46_1 (n : Nat × Nat) (m : Nat) (v13 : List (Int × Int)) (v14 : Int) (v15 : Int) : Option R46 := loopN (F46_9 n) m { tm := [uu, uu, uu, uu, uu, uu, uu, uu, uu, uu, uu, uu, uu, .c (.sl (.pair (.int .i64) (.int .i64)) v13 false), .c (.int .i64 v14), .c (.int .i64 v15), uu, uu, uu, uu, uu, uu, uu, uu, uu, uu, uu, uu, uu, uu, uu, uu, uu, uu, uu, uu, uu, uu], hp := emp }
theorem L46_1_eq (n : Nat × Nat) (m1 : Nat) (v13 : List (Int × Int)) (v14 : Int) (v15 : Int) : L46_1 n (m1 + 1) v13 v14 v15 =
 (bif decide (v15 < v14) then (idx v13 v15).bind fun x1' =>
 ((bif (decide (x1'.1 < 0) == false) then some (decide (x1'.1 > 100))
 else some true)).bind fun b2' =>
 ((bif (b2' == false) then some (decide (x1'.2 < 1))
 else some true)).bind fun b3' =>
 ((bif (b3' == false) then some (decide (x1'.2 > 9))
 else some true)).bind fun b4' =>
 (bif b4' then some 1
 else L46_1 n m1 v13 v14 (wr .i64 (v15 + 1)))
 else some 0) := by kernel_rfl
noncomputable def S46 (n : Nat × Nat) (l0 : List (Int × Int)) : Option R46 := run (E46 n) c46 an46 rt46 (fun _ _ => none) rt46 { tm := [.c (.sl (.pair (.int .i64) (.int .i64)) l0 false), uu, uu, uu, uu, uu, uu, uu, uu, uu, uu, uu, uu, uu, uu, uu, uu, uu, uu, uu, uu, uu, uu, uu, uu, uu, uu, uu, uu, uu, uu, uu, uu, uu, uu, uu, uu, uu], hp := emp }
theorem S46_eq (n : Nat × Nat) (l0 : List (Int × Int)) : S46 n l0 =
 (bif ((l0.length : Int) == 0) then some 4
 else (bif decide ((l0.length : Int) > 8) then some 3
 else L46_1 n n.1 l0 (l0.length : Int) 0)) := by kernel_rfl
theorem S46_run (n : Nat × Nat) (xs : pksDen pk46) : S46 n xs.1 = runG (E46 n) noScope c46 an46 (rtG rk46) (fun _ _ => none) (rtG rk46) (st0 pk46 xs Tryz.f46.ntmps) := by kernel_rfl
noncomputable def P46 (n : Nat × Nat) := phiOf pk46 rk46 (fun xs => S46 n xs.1)
theorem call46 : CallOK Tryz.prog 46 := callOK_of Tryz.func46 (by kernel_rfl) (by kernel_rfl)
theorem env46 (n : Nat × Nat) : EnvOK Tryz.prog (E46 n) := envOK0 noPhi_ok rfl rfl
theorem par46 (n : Nat × Nat) : EnvPar (E46 n) := envPar0 noPhi_par rfl
theorem FC46 (n : Nat × Nat) : FCs Tryz.prog 46 (P46 n) := phiOf_FCs fun xs r h vs hv => FC.of_runG tabOK eqsOK (env46 n) (par46 n) mixed (fun _ p _ => noScope_ok p.1 p.2) Tryz.func46 (c := c46) (an := an46) (pks := pk46) (rks := rk46) (by kernel_rfl) (by kernel_rfl) hv ((S46_run n xs).symm.trans h)
/- cmp.isNaN[int] -/
abbrev R62 := Bool
noncomputable def c62 : Code := bodyOf Tryz.f62
noncomputable def an62 : Ann := .l
def pk62 : List PK := [.c (.int .i64)]
def rk62 : List RK := [.c .bool 2]
noncomputable def rt62 (st : St) : Option R62 := rtG rk62 st
noncomputable def E62 (n : Nat × Nat) : Env := { T := tab, phi := noPhi, eff := fun _ => false, fuel := n.1, hold := n.2 }
noncomputable def S62 (n : Nat × Nat) (x0 : Int) : Option R62 := run (E62 n) c62 an62 rt62 (fun _ _ => none) rt62 { tm := [.c (.int .i64 x0), uu, uu, uu, uu, uu], hp := emp }
theorem S62_eq (n : Nat × Nat) (x0 : Int) : S62 n x0 =
 some (x0 != x0) := by kernel_rfl
theorem S62_run (n : Nat × Nat) (xs : pksDen pk62) : S62 n xs.1 = runG (E62 n) noScope c62 an62 (rtG rk62) (fun _ _ => none) (rtG rk62) (st0 pk62 xs Tryz.f62.ntmps) := by kernel_rfl
noncomputable def P62 (n : Nat × Nat) := phiOf pk62 rk62 (fun xs => S62 n xs.1)
theorem call62 : CallOK Tryz.prog 62 := callOK_of Tryz.func62 (by kernel_rfl) (by kernel_rfl)
theorem env62 (n : Nat × Nat) : EnvOK Tryz.prog (E62 n) := envOK0 noPhi_ok rfl rfl
theorem par62 (n : Nat × Nat) : EnvPar (E62 n) := envPar0 noPhi_par rfl
theorem FC62 (n : Nat × Nat) : FCs Tryz.prog 62 (P62 n) := phiOf_FCs fun xs r h vs hv => FC.of_runG tabOK eqsOK (env62 n) (par62 n) mixed (fun _ p _ => noScope_ok p.1 p.2) Tryz.func62 (c := c62) (an := an62) (pks := pk62) (rks := rk62) (by kernel_rfl) (by kernel_rfl) hv ((S62_run n xs).symm.trans h)
/- cmp.Compare[int] -/
abbrev R54 := Int
noncomputable def c54 : Code := bodyOf Tryz.f54
noncomputable def an54 : Ann := (.s .l (.s .l (.s .l (.s (.s .l (.j [0, 1, 6] (.s (.s .l (.j [] .l .l)) .l) .l)) (.s (.s .l (.j [0, 1] .l .l)) (.s (.s .l (.j [0, 1] .l .l)) (.s (.s .l (.j [] .l .l)) .l)))))))
def pk54 : List PK := [.c (.int .i64), .c (.int .i64)]
def rk54 : List RK := [.c (.int .i64) 4]
noncomputable def rt54 (st : St) : Option R54 := rtG rk54 st
noncomputable def E54 (n : Nat × Nat) : Env := { T := tab, phi := (consPhi 62 (fun _ => true) (P62 n) noPhi), eff := fun _ => false, fuel := n.1, hold := n.2 }
noncomputable def S54 (n : Nat × Nat) (x0 : Int) (y1 : Int) : Option R54 := run (E54 n) c54 an54 rt54 (fun _ _ => none) rt54 { tm := [.c (.int .i64 x0), .c (.int .i64 y1), uu, uu, uu, uu, uu, uu, uu, uu, uu, uu, uu, uu, uu, uu, uu, uu, uu, uu], hp := emp }
theorem S54_eq (n : Nat × Nat) (x0 : Int) (y1 : Int) : S54 n x0 y1 =
 (S62 n x0).bind fun r1' =>
 (S62 n y1).bind fun r2' =>
 (bif r1' then (bif r2' then some 0
 else some (-1))
 else (bif r2' then some 1
 else (bif decide (x0 < y1) then some (-1)
 else (bif decide (x0 > y1) then some 1
 else some 0)))) := by kernel_rfl
theorem S54_run (n : Nat × Nat) (xs : pksDen pk54) : S54 n xs.1 xs.2.1 = runG (E54 n) noScope c54 an54 (rtG rk54) (fun _ _ => none) (rtG rk54) (st0 pk54 xs Tryz.f54.ntmps) := by kernel_rfl
noncomputable def P54 (n : Nat × Nat) := phiOf pk54 rk54 (fun xs => S54 n xs.1 xs.2.1)
theorem call54 : CallOK Tryz.prog 54 := callOK_of Tryz.func54 (by kernel_rfl) (by kernel_rfl)
theorem env54 (n : Nat × Nat) : EnvOK Tryz.prog (E54 n) := envOK0 (consPhi_ok (FC62 n) call62 noPhi_ok) rfl rfl
theorem par54 (n : Nat × Nat) : EnvPar (E54 n) := envPar0 (consPhi_par phiOf_Par1 noPhi_par) rfl
theorem FC54 (n : Nat × Nat) : FCs Tryz.prog 54 (P54 n) := phiOf_FCs fun xs r h vs hv => FC.of_runG tabOK eqsOK (env54 n) (par54 n) mixed (fun _ p _ => noScope_ok p.1 p.2) Tryz.func54 (c := c54) (an := an54) (pks := pk54) (rks := rk54) (by kernel_rfl) (by kernel_rfl) hv ((S54_run n xs).symm.trans h)
/- slices.Compare[[]int,int] -/
abbrev R47 := Int
noncomputable def c47 : Code := bodyOf Tryz.f47
noncomputable def an47 : Ann := (.s .l (.s (.s .l (.j [0, 1] (.j [0, 1, 9, 10, 11] (.s .l (.s (.j [0, 1, 9, 10, 11] .l .l) (.s (.j [0, 1, 9, 10, 11] (.s .l (.s (.s .l (.j [0, 1, 5, 6, 9, 10, 11] .l .l)) (.s .l (.s .l (.s .l (.j [0, 1, 9, 10, 11] .l .l)))))) .l) .l))) .l) .l)) (.s (.s .l (.j [] .l .l)) .l)))
def pk47 : List PK := [.c (.sl (.int .i64)), .c (.sl (.int .i64))]
def rk47 : List RK := [.c (.int .i64) 4]
noncomputable def rt47 (st : St) : Option R47 := rtG rk47 st
noncomputable def E47 (n : Nat × Nat) : Env := { T := tab, phi := (consPhi 54 (fun _ => true) (P54 n) noPhi), eff := fun _ => false, fuel := n.1, hold := n.2 }
noncomputable def kq47_1 (n : Nat × Nat) : St → Option R47 := run (E47 n) (cB (cB c47)) (Ann.snd (Ann.snd an47)) rt47 (fun _ _ => none) rt47
noncomputable def xb47_3 (n : Nat × Nat) : Nat → St → Option R47 := fun j s => bif Nat.beq j 0 then normC [0, 1] s (kq47_1 n) else (fun _ _ => none) j s
noncomputable def F47_4 (n : Nat × Nat) : (St → Option R47) → St → Option R47 := fun K s => run (E47 n) (cA (cA (cB (cA (cB c47))))) (Ann.fst (Ann.fst (Ann.snd (Ann.fst (Ann.snd an47))))) (fun s => normC [0, 1, 9, 10, 11] s K) (xb47_3 n) rt47 s
noncomputable def L47_1 (n : Nat × Nat) (m : Nat) (s10 : List Int) (s21 : List Int) (v9 : List Int) (v10 : Int) (v11 : Int) : Option R47 := loopN (F47_4 n) m { tm := [.c (.sl (.int .i64) s10 false), .c (.sl (.int .i64) s21 false), uu, uu, uu, uu, uu, uu, uu, .c (.sl (.int .i64) v9 false), .c (.int .i64 v10), .c (.int .i64 v11), uu, uu, uu, uu, uu, uu, uu, uu, uu, uu, uu, uu, uu, uu, uu, uu, uu, uu, uu, uu, uu, uu, uu, uu], hp := emp }
theorem L47_1_eq (n : Nat × Nat) (m1 : Nat) (s10 : List Int) (s21 : List Int) (v9 : List Int) (v10 : Int) (v11 : Int) : L47_1 n (m1 + 1) s10 s21 v9 v10 v11 =
 (bif decide (v11 < v10) then (idx v9 v11).bind fun x1' =>
 (bif decide (v11 ≥ (s21.length : Int)) then some 1
 else (idx s21 v11).bind fun x2' =>
 (S54 n x1' x2').bind fun r3' =>
 (bif (r3' != 0) then some r3'
 else L47_1 n m1 s10 s21 v9 v10 (wr .i64 (v11 + 1))))
 else (bif decide ((s10.length : Int) < (s21.length : Int)) then some (-1)
 else some 0)) := by kernel_rfl
noncomputable def S47 (n : Nat × Nat) (s10 : List Int) (s21 : List Int) : Option R47 := run (E47 n) c47 an47 rt47 (fun _ _ => none) rt47 { tm := [.c (.sl (.int .i64) s10 false), .c (.sl (.int .i64) s21 false), uu, uu, uu, uu, uu, uu, uu, uu, uu, uu, uu, uu, uu, uu, uu, uu, uu, uu, uu, uu, uu, uu, uu, uu, uu, uu, uu, uu, uu, uu, uu, uu, uu, uu], hp := emp }
theorem S47_eq (n : Nat × Nat) (s10 : List Int) (s21 : List Int) : S47 n s10 s21 =
    L47_1 n n.1 s10 s21 s10 (s10.length : Int) 0 := by kernel_rfl
theorem S47_run (n : Nat × Nat) (xs : pksDen pk47) : S47 n xs.1 xs.2.1 = runG (E47 n) noScope c47 an47 (rtG rk47) (fun _ _ => none) (rtG rk47) (st0 pk47 xs Tryz.f47.ntmps) := by kernel_rfl
noncomputable def P47 (n : Nat × Nat) := phiOf pk47 rk47 (fun xs => S47 n xs.1 xs.2.1)
theorem call47 : CallOK Tryz.prog 47 := callOK_of Tryz.func47 (by kernel_rfl) (by kernel_rfl)
theorem env47 (n : Nat × Nat) : EnvOK Tryz.prog (E47 n) := envOK0 (consPhi_ok (FC54 n) call54 noPhi_ok) rfl rfl
theorem par47 (n : Nat × Nat) : EnvPar (E47 n) := envPar0 (consPhi_par phiOf_Par1 noPhi_par) rfl
theorem FC47 (n : Nat × Nat) : FCs Tryz.prog 47 (P47 n) := phiOf_FCs fun xs r h vs hv => FC.of_runG tabOK eqsOK (env47 n) (par47 n) mixed (fun _ p _ => noScope_ok p.1 p.2) Tryz.func47 (c := c47) (an := an47) (pks := pk47) (rks := rk47) (by kernel_rfl) (by kernel_rfl) hv ((S47_run n xs).symm.trans h)
abbrev R40 := List Int × Int
noncomputable def c40 : Code := bodyOf Tryz.f40
noncomputable def an40 : Ann := (.s .l (.s (.s .l (.s .l (.j [0, 41, 42, 43, 44, 51, 52, 53, 54, 55, 56, 57, 58, 59, 60, 61, 62, 63, 64, 65, 66, 67, 68, 69, 70, 71, 72] .l .l))) (.s .l (.s (.s .l (.j [5] (.j [0, 5, 19, 20, 41, 42, 43, 44, 51, 52, 53, 54, 55, 56, 57, 58, 59, 60, 61, 62, 63, 64, 65, 66, 67, 68, 69, 70, 71, 72] (.s .l (.s (.j [0, 5, 19, 20, 41, 42, 43, 44, 51, 52, 53, 54, 55, 56, 57, 58, 59, 60, 61, 62, 63, 64, 65, 66, 67, 68, 69, 70, 71, 72] .l .l) (.j [] (.j [0, 5, 19, 20, 41, 42, 43, 44, 51, 52, 53, 54, 55, 56, 57, 58, 59, 60, 61, 62, 63, 64, 65, 66, 67, 68, 69, 70, 71, 72] (.s .l (.s .l (.s .l (.s .l (.s (.s .l (.j [0, 5, 7, 9, 19, 20, 41, 42, 43, 44, 51, 52, 53, 54, 55, 56, 57, 58, 59, 60, 61, 62, 63, 64, 65, 66, 67, 68, 69, 70, 71, 72] (.j [0, 5, 6, 7, 8, 9, 19, 20, 23, 24, 25, 41, 42, 43, 44, 51, 52, 53, 54, 55, 56, 57, 58, 59, 60, 61, 62, 63, 64, 65, 66, 67, 68, 69, 70, 71, 72] (.s .l (.s (.j [0, 5, 6, 7, 8, 9, 19, 20, 23, 24, 25, 41, 42, 43, 44, 51, 52, 53, 54, 55, 56, 57, 58, 59, 60, 61, 62, 63, 64, 65, 66, 67, 68, 69, 70, 71, 72] .l .l) (.j [] (.j [0, 5, 6, 7, 8, 9, 19, 20, 23, 24, 25, 41, 42, 43, 44, 51, 52, 53, 54, 55, 56, 57, 58, 59, 60, 61, 62, 63, 64, 65, 66, 67, 68, 69, 70, 71, 72] (.s .l (.s (.s .l (.j [0, 5, 6, 7, 8, 9, 11, 19, 20, 23, 24, 25, 41, 42, 43, 44, 51, 52, 53, 54, 55, 56, 57, 58, 59, 60, 61, 62, 63, 64, 65, 66, 67, 68, 69, 70, 71, 72] .l .l)) .l)) .l) .l))) .l) .l)) (.s .l (.j [0, 5, 19, 20, 41, 42, 43, 44, 51, 52, 53, 54, 55, 56, 57, 58, 59, 60, 61, 62, 63, 64, 65, 66, 67, 68, 69, 70, 71, 72] (.s .l (.s .l (.j [0, 5, 19, 20, 41, 42, 43, 44, 51, 52, 53, 54, 55, 56, 57, 58, 59, 60, 61, 62, 63, 64, 65, 66, 67, 68, 69, 70, 71, 72] .l .l))) .l))))))) .l) .l))) .l) .l)) .l))))
def pk40 : List PK := [.c (.sl (.pair (.int .i64) (.int .i64)))]
def rk40 : List RK := [.own (.int .i64) 2, .c (.int .i64) 3]
noncomputable def rt40 (st : St) : Option R40 := rtG rk40 st
noncomputable def E40 (n : Nat × Nat) : Env := { T := tabN, phi := (consPhi 46 (fun _ => true) (P46 n) (consPhi 47 (fun _ => true) (P47 n) noPhi)), eff := fun _ => false, fuel := n.1, hold := n.2 }
noncomputable def kq40_3 (n : Nat × Nat) : St → Option R40 := run (E40 n) (cB (cB (cB (cB c40)))) (Ann.snd (Ann.snd (Ann.snd (Ann.snd an40)))) rt40 (fun _ _ => none) rt40
noncomputable def xb40_5 (n : Nat × Nat) : Nat → St → Option R40 := fun j s => bif Nat.beq j 0 then normC [5] s (kq40_3 n) else (fun _ _ => none) j s
noncomputable def F40_6 (n : Nat × Nat) : (St → Option R40) → St → Option R40 := fun K s => run (E40 n) (cA (cA (cB (cA (cB (cB (cB c40))))))) (Ann.fst (Ann.fst (Ann.snd (Ann.fst (Ann.snd (Ann.snd (Ann.snd an40))))))) (fun s => normC [0, 5, 19, 20, 41, 42, 43, 44, 51, 52, 53, 54, 55, 56, 57, 58, 59, 60, 61, 62, 63, 64, 65, 66, 67, 68, 69, 70, 71, 72] s K) (xb40_5 n) rt40 s
noncomputable def kq40_9 (n : Nat × Nat) (m1 : Nat) : St → Option R40 := run (E40 n) (cB (cB (cB (cA (cA (cB (cA (cB (cB (cB c40)))))))))) (Ann.snd (Ann.snd (Ann.snd (Ann.fst (Ann.fst (Ann.snd (Ann.fst (Ann.snd (Ann.snd (Ann.snd an40)))))))))) (fun s => normC [0, 5, 19, 20, 41, 42, 43, 44, 51, 52, 53, 54, 55, 56, 57, 58, 59, 60, 61, 62, 63, 64, 65, 66, 67, 68, 69, 70, 71, 72] s (loopN (F40_6 n) m1)) (xb40_5 n) rt40
noncomputable def kc40_10 (n : Nat × Nat) (m1 : Nat) : St → Option R40 := fun s => normC [0, 5, 19, 20, 41, 42, 43, 44, 51, 52, 53, 54, 55, 56, 57, 58, 59, 60, 61, 62, 63, 64, 65, 66, 67, 68, 69, 70, 71, 72] s (loopN (fun _ => (kq40_9 n m1)) n.2)
noncomputable def xb40_11 (n : Nat × Nat) (m1 : Nat) : Nat → St → Option R40 := fun j s => bif Nat.beq j 1 then normC [0, 5, 19, 20, 41, 42, 43, 44, 51, 52, 53, 54, 55, 56, 57, 58, 59, 60, 61, 62, 63, 64, 65, 66, 67, 68, 69, 70, 71, 72] s (loopN (fun _ => (kq40_9 n m1)) n.2) else (xb40_5 n) j s
noncomputable def kq40_12 (n : Nat × Nat) (m1 : Nat) : St → Option R40 := run (E40 n) (cB (cB (cB (cB (cB (cA (cA (cB (cB (cA (cA (cB (cA (cB (cB (cB c40)))))))))))))))) (Ann.snd (Ann.snd (Ann.snd (Ann.snd (Ann.snd (Ann.fst (Ann.fst (Ann.snd (Ann.snd (Ann.fst (Ann.fst (Ann.snd (Ann.fst (Ann.snd (Ann.snd (Ann.snd an40)))))))))))))))) (kc40_10 n m1) (xb40_11 n m1) rt40
noncomputable def xb40_14 (n : Nat × Nat) (m1 : Nat) : Nat → St → Option R40 := fun j s => bif Nat.beq j 2 then normC [0, 5, 7, 9, 19, 20, 41, 42, 43, 44, 51, 52, 53, 54, 55, 56, 57, 58, 59, 60, 61, 62, 63, 64, 65, 66, 67, 68, 69, 70, 71, 72] s (kq40_12 n m1) else (xb40_11 n m1) j s
noncomputable def F40_15 (n : Nat × Nat) (m1 : Nat) : (St → Option R40) → St → Option R40 := fun K s => run (E40 n) (cA (cA (cB (cA (cB (cB (cB (cB (cA (cA (cB (cB (cA (cA (cB (cA (cB (cB (cB c40))))))))))))))))))) (Ann.fst (Ann.fst (Ann.snd (Ann.fst (Ann.snd (Ann.snd (Ann.snd (Ann.snd (Ann.fst (Ann.fst (Ann.snd (Ann.snd (Ann.fst (Ann.fst (Ann.snd (Ann.fst (Ann.snd (Ann.snd (Ann.snd an40))))))))))))))))))) (fun s => normC [0, 5, 6, 7, 8, 9, 19, 20, 23, 24, 25, 41, 42, 43, 44, 51, 52, 53, 54, 55, 56, 57, 58, 59, 60, 61, 62, 63, 64, 65, 66, 67, 68, 69, 70, 71, 72] s K) (xb40_14 n m1) rt40 s
noncomputable def kq40_18 (n : Nat × Nat) (m1 m2 : Nat) : St → Option R40 := run (E40 n) (cB (cB (cB (cA (cA (cB (cA (cB (cB (cB (cB (cA (cA (cB (cB (cA (cA (cB (cA (cB (cB (cB c40)))))))))))))))))))))) (Ann.snd (Ann.snd (Ann.snd (Ann.fst (Ann.fst (Ann.snd (Ann.fst (Ann.snd (Ann.snd (Ann.snd (Ann.snd (Ann.fst (Ann.fst (Ann.snd (Ann.snd (Ann.fst (Ann.fst (Ann.snd (Ann.fst (Ann.snd (Ann.snd (Ann.snd an40)))))))))))))))))))))) (fun s => normC [0, 5, 6, 7, 8, 9, 19, 20, 23, 24, 25, 41, 42, 43, 44, 51, 52, 53, 54, 55, 56, 57, 58, 59, 60, 61, 62, 63, 64, 65, 66, 67, 68, 69, 70, 71, 72] s (loopN (F40_15 n m1) m2)) (xb40_14 n m1) rt40
noncomputable def L40_1 (n : Nat × Nat) (m : Nat) (l0 : List (Int × Int)) (v19 : Int) (v20 : Int) (best5 : List Int) : Option R40 := loopN (F40_6 n) m { tm := [.c (.sl (.pair (.int .i64) (.int .i64)) l0 false), uu, uu, uu, uu, .own 5 none false, uu, uu, uu, uu, uu, uu, uu, uu, uu, uu, uu, uu, uu, .c (.int .i64 v19), .c (.int .i64 v20), uu, uu, uu, uu, uu, uu, uu, uu, uu, uu, uu, uu, uu, uu, uu, uu, uu, uu, uu, uu, uu, uu, uu, uu, uu, uu, uu, uu, uu, uu, uu, uu, uu, uu, uu, uu, uu, uu, uu, uu, uu, uu, uu, uu, uu, uu, uu, uu, uu, uu, uu, uu, uu, uu, uu, uu, uu, uu], hp := (upd emp 5 (.arr (.int .i64) best5 true)) }
noncomputable def L40_2 (n : Nat × Nat) (m1 : Nat) (m : Nat) (l0 : List (Int × Int)) (v6 : Int) (v8 : Int) (good9 : Bool) (v19 : Int) (v20 : Int) (v23 : List (Int × Int)) (v24 : Int) (v25 : Int) (best5 : List Int) (out7 : List Int) : Option R40 := loopN (F40_15 n m1) m { tm := [.c (.sl (.pair (.int .i64) (.int .i64)) l0 false), uu, uu, uu, uu, .own 5 none false, .c (.int .i64 v6), .own 7 none false, .c (.int .i64 v8), .c (.bool good9), uu, uu, uu, uu, uu, uu, uu, uu, uu, .c (.int .i64 v19), .c (.int .i64 v20), uu, uu, .c (.sl (.pair (.int .i64) (.int .i64)) v23 false), .c (.int .i64 v24), .c (.int .i64 v25), uu, uu, uu, uu, uu, uu, uu, uu, uu, uu, uu, uu, uu, uu, uu, uu, uu, uu, uu, uu, uu, uu, uu, uu, uu, uu, uu, uu, uu, uu, uu, uu, uu, uu, uu, uu, uu, uu, uu, uu, uu, uu, uu, uu, uu, uu, uu, uu, uu, uu, uu, uu, uu], hp := (upd (upd emp 7 (.arr (.int .i64) out7 true)) 5 (.arr (.int .i64) best5 true)) }
noncomputable def L40_3 (n : Nat × Nat) (m1 m2 : Nat) (l0 : List (Int × Int)) (v6 : Int) (v8 : Int) (good9 : Bool) (v19 : Int) (v20 : Int) (v23 : List (Int × Int)) (v24 : Int) (v25 : Int) (best5 : List Int) (out7 : List Int) : Option R40 := loopN (fun _ => (kq40_18 n m1 m2)) n.2 { tm := [.c (.sl (.pair (.int .i64) (.int .i64)) l0 false), uu, uu, uu, uu, .own 5 none false, .c (.int .i64 v6), .own 7 none false, .c (.int .i64 v8), .c (.bool good9), uu, uu, uu, uu, uu, uu, uu, uu, uu, .c (.int .i64 v19), .c (.int .i64 v20), uu, uu, .c (.sl (.pair (.int .i64) (.int .i64)) v23 false), .c (.int .i64 v24), .c (.int .i64 v25), uu, uu, uu, uu, uu, uu, uu, uu, uu, uu, uu, uu, uu, uu, uu, uu, uu, uu, uu, uu, uu, uu, uu, uu, uu, uu, uu, uu, uu, uu, uu, uu, uu, uu, uu, uu, uu, uu, uu, uu, uu, uu, uu, uu, uu, uu, uu, uu, uu, uu, uu, uu, uu], hp := (upd (upd emp 7 (.arr (.int .i64) out7 true)) 5 (.arr (.int .i64) best5 true)) }
noncomputable def L40_4 (n : Nat × Nat) (m1 : Nat) (l0 : List (Int × Int)) (v19 : Int) (v20 : Int) (best5 : List Int) : Option R40 := loopN (fun _ => (kq40_9 n m1)) n.2 { tm := [.c (.sl (.pair (.int .i64) (.int .i64)) l0 false), uu, uu, uu, uu, .own 5 none false, uu, uu, uu, uu, uu, uu, uu, uu, uu, uu, uu, uu, uu, .c (.int .i64 v19), .c (.int .i64 v20), uu, uu, uu, uu, uu, uu, uu, uu, uu, uu, uu, uu, uu, uu, uu, uu, uu, uu, uu, uu, uu, uu, uu, uu, uu, uu, uu, uu, uu, uu, uu, uu, uu, uu, uu, uu, uu, uu, uu, uu, uu, uu, uu, uu, uu, uu, uu, uu, uu, uu, uu, uu, uu, uu, uu, uu, uu, uu], hp := (upd emp 5 (.arr (.int .i64) best5 true)) }
theorem L40_1_eq (n : Nat × Nat) (m1 : Nat) (l0 : List (Int × Int)) (v19 : Int) (v20 : Int) (best5 : List Int) : L40_1 n (m1 + 1) l0 v19 v20 best5 =
 (bif decide (v20 < v19) then L40_2 n m1 n.1 l0 v20 (-1) true v19 v20 l0 (l0.length : Int) 0 best5 []
 else some (best5, 0)) := by kernel_rfl
theorem L40_2_eq (n : Nat × Nat) (m1 m2 : Nat) (l0 : List (Int × Int)) (v6 : Int) (v8 : Int) (good9 : Bool) (v19 : Int) (v20 : Int) (v23 : List (Int × Int)) (v24 : Int) (v25 : Int) (best5 : List Int) (out7 : List Int) : L40_2 n m1 (m2 + 1) l0 v6 v8 good9 v19 v20 v23 v24 v25 best5 out7 =
 (bif decide (v25 < v24) then (idx v23 v25).bind fun x2' =>
 (bif decide (v25 < 0) then none
 else (bif ((wr .i64 (BitVec.ofInt (IntKind.bits .i64) (Int.fdiv v6 (2 ^ (min (Int.toNat v25) (IntKind.bits .i64)))) &&& BitVec.ofInt (IntKind.bits .i64) 1).toNat) == 1) then (bif decide (out7.length + [v25].length ≤ lim) then L40_3 n m1 m2 l0 v6 v8 good9 v19 v20 v23 v24 v25 best5 (out7 ++ [v25])
 else none)
 else ((bif (good9 == true) then some (decide (x2'.1 ≥ v8))
 else some false)).bind fun b3' =>
          L40_3 n m1 m2 l0 v6 x2'.1 b3' v19 v20 v23 v24 v25 best5 out7))
 else ((bif (good9 == true) then ((bif (best5.isEmpty == false) then some (decide ((out7.length : Int) < (best5.length : Int)))
 else some true)).bind fun b4' =>
 ((bif (b4' == false) then ((bif (((out7.length : Int) == (best5.length : Int)) == true) then (S47 n out7 best5).bind fun r5' =>
 some (decide (r5' < 0))
 else some false)).bind fun b6' =>
 some b6'
 else some true)).bind fun b7' =>
 some b7'
 else some false)).bind fun b8' =>
 (bif b8' then (bif out7.isEmpty then some ([], 0)
 else L40_4 n m1 l0 v19 v20 out7)
 else L40_4 n m1 l0 v19 v20 best5)) := by kernel_rfl
theorem L40_3_raw (n : Nat × Nat) (m1 m2 : Nat) (l0 : List (Int × Int)) (v6 : Int) (v8 : Int) (good9 : Bool) (v19 : Int) (v20 : Int) (v23 : List (Int × Int)) (v24 : Int) (v25 : Int) (best5 : List Int) (out7 : List Int) : (kq40_18 n m1 m2) { tm := [.c (.sl (.pair (.int .i64) (.int .i64)) l0 false), uu, uu, uu, uu, .own 5 none false, .c (.int .i64 v6), .own 7 none false, .c (.int .i64 v8), .c (.bool good9), uu, uu, uu, uu, uu, uu, uu, uu, uu, .c (.int .i64 v19), .c (.int .i64 v20), uu, uu, .c (.sl (.pair (.int .i64) (.int .i64)) v23 false), .c (.int .i64 v24), .c (.int .i64 v25), uu, uu, uu, uu, uu, uu, uu, uu, uu, uu, uu, uu, uu, uu, uu, uu, uu, uu, uu, uu, uu, uu, uu, uu, uu, uu, uu, uu, uu, uu, uu, uu, uu, uu, uu, uu, uu, uu, uu, uu, uu, uu, uu, uu, uu, uu, uu, uu, uu, uu, uu, uu, uu], hp := (upd (upd emp 7 (.arr (.int .i64) out7 true)) 5 (.arr (.int .i64) best5 true)) } =
    L40_2 n m1 m2 l0 v6 v8 good9 v19 v20 v23 v24 (wr .i64 (v25 + 1)) best5 out7 := by kernel_rfl
theorem L40_4_raw (n : Nat × Nat) (m1 : Nat) (l0 : List (Int × Int)) (v19 : Int) (v20 : Int) (best5 : List Int) : (kq40_9 n m1) { tm := [.c (.sl (.pair (.int .i64) (.int .i64)) l0 false), uu, uu, uu, uu, .own 5 none false, uu, uu, uu, uu, uu, uu, uu, uu, uu, uu, uu, uu, uu, .c (.int .i64 v19), .c (.int .i64 v20), uu, uu, uu, uu, uu, uu, uu, uu, uu, uu, uu, uu, uu, uu, uu, uu, uu, uu, uu, uu, uu, uu, uu, uu, uu, uu, uu, uu, uu, uu, uu, uu, uu, uu, uu, uu, uu, uu, uu, uu, uu, uu, uu, uu, uu, uu, uu, uu, uu, uu, uu, uu, uu, uu, uu, uu, uu, uu], hp := (upd emp 5 (.arr (.int .i64) best5 true)) } =
    L40_1 n m1 l0 v19 (wr .i64 (v20 + 1)) best5 := by kernel_rfl
noncomputable def S40 (n : Nat × Nat) (l0 : List (Int × Int)) : Option R40 := run (E40 n) c40 an40 rt40 (fun _ _ => none) rt40 { tm := [.c (.sl (.pair (.int .i64) (.int .i64)) l0 false), uu, uu, uu, uu, uu, uu, uu, uu, uu, uu, uu, uu, uu, uu, uu, uu, uu, uu, uu, uu, uu, uu, uu, uu, uu, uu, uu, uu, uu, uu, uu, uu, uu, uu, uu, uu, uu, uu, uu, uu, uu, uu, uu, uu, uu, uu, uu, uu, uu, uu, uu, uu, uu, uu, uu, uu, uu, uu, uu, uu, uu, uu, uu, uu, uu, uu, uu, uu, uu, uu, uu, uu, uu, uu, uu, uu, uu, uu], hp := emp }
theorem S40_eq (n : Nat × Nat) (l0 : List (Int × Int)) : S40 n l0 =
 (S46 n l0).bind fun r1' =>
 (bif (r1' != 0) then some ([], r1')
 else (bif decide ((l0.length : Int) < 0) then none
 else L40_1 n n.1 l0 (wr .i64 (1 * 2 ^ (min (Int.toNat (l0.length : Int)) (IntKind.bits .i64)))) 0 [])) := by kernel_rfl
theorem S40_run (n : Nat × Nat) (xs : pksDen pk40) : S40 n xs.1 = runG (E40 n) noScope c40 an40 (rtG rk40) (fun _ _ => none) (rtG rk40) (st0 pk40 xs Tryz.f40.ntmps) := by kernel_rfl
noncomputable def P40 (n : Nat × Nat) := phiOf pk40 rk40 (fun xs => S40 n xs.1)
theorem call40 : CallOK Tryz.prog 40 := callOK_of Tryz.func40 (by kernel_rfl) (by kernel_rfl)
theorem env40 (n : Nat × Nat) : EnvOK Tryz.prog (E40 n) := envOK0 (consPhi_ok (FC46 n) call46 (consPhi_ok (FC47 n) call47 noPhi_ok)) rfl rfl
theorem par40 (n : Nat × Nat) : EnvPar (E40 n) := envPar0 (consPhi_par phiOf_Par1 (consPhi_par phiOf_Par1 noPhi_par)) rfl
theorem FC40 (n : Nat × Nat) : FCs Tryz.prog 40 (P40 n) := phiOf_FCs fun xs r h vs hv => FC.of_runG tabNOK eqsNOK (env40 n) (par40 n) mixed (fun _ p _ => noScope_ok p.1 p.2) Tryz.func40 (c := c40) (an := an40) (pks := pk40) (rks := rk40) (by kernel_rfl) (by kernel_rfl) hv ((S40_run n xs).symm.trans h)
end Go.Proofs.YtkfkbebinhkdlaaGreatDoor
set_option linter.unusedVariables false
namespace Go.Proofs.YtkfkbebinhkdlaaGreatDoor
/-- How many pages stand. -/
def cntF (f : Nat) : Nat := ((List.range 6).filter fun p => f.testBit p).length
/-- Which pages stand. -/
def bitsF (f : Nat) : List Nat := (List.range 6).filter fun p => f.testBit p
def addF (f p : Nat) : Nat := f ||| 2 ^ p
def swF (f p g : Nat) : Nat := (bif f.testBit g then f - 2 ^ g else f) ||| 2 ^ p
/-- The smallest value. -/
def mnl (v : Nat → Int) : List Nat → Int
  | [] => 0
  | g :: l => l.foldl (fun m g => bif decide (v g < m) then v g else m) (v g)
theorem mnl_snoc (v : Nat → Int) (l : List Nat) (g : Nat) (h : l ≠ []) : mnl v (l ++ [g]) = bif decide (v g < mnl v l) then v g else mnl v l := by
  cases l with
  | nil => exact absurd rfl h
  | cons x l =>
    show List.foldl _ _ (l ++ [g]) = _
    rw [List.foldl_append]
    rfl
theorem mnl_mem (v : Nat → Int) (l : List Nat) (h : l ≠ []) : ∃ g ∈ l, mnl v l = v g := by
  have key : ∀ (l : List Nat) (m : Int), l.foldl (fun m g => bif decide (v g < m) then v g else m) m = m ∨ ∃ g ∈ l, l.foldl (fun m g => bif decide (v g < m) then v g else m) m = v g := by
    intro l
    induction l with
    | nil => intro m; exact .inl rfl
    | cons x l ih =>
      intro m
      simp only [List.foldl_cons]
      rcases ih (bif decide (v x < m) then v x else m) with h | ⟨g, hg, h⟩
      · by_cases hx : v x < m
        · rw [h, decide_eq_true hx, cond_true]
          exact .inr ⟨x, by simp, rfl⟩
        · rw [h, decide_eq_false hx, cond_false]
          exact .inl rfl
      · exact .inr ⟨g, by simp [hg], h⟩
  cases l with
  | nil => exact absurd rfl h
  | cons x l =>
    rcases key l (v x) with h | ⟨g, hg, h⟩
    · exact ⟨x, by simp, h⟩
    · exact ⟨g, by simp [hg], h⟩
/-- The fewest settings, from a floor on. -/
def lst (room : Nat) : List Nat → Nat → Int
  | [], _ => 0
  | p :: ps, f => bif f.testBit p then lst room ps f else bif decide (cntF f < room) then 1 + lst room ps (addF f p) else mnl (fun g => 1 + lst room ps (swF f p g)) (bitsF f)
def all6 (q : Nat → Bool) : Bool := (List.range 6).all q
def all64 (q : Nat → Bool) : Bool := (List.range 64).all q
theorem all6_get {q : Nat → Bool} (h : all6 q = true) {p : Nat} (hp : p < 6) : q p = true := List.all_eq_true.1 h p (List.mem_range.2 hp)
theorem all64_get {q : Nat → Bool} (h : all64 q = true) {p : Nat} (hp : p < 64) : q p = true := List.all_eq_true.1 h p (List.mem_range.2 hp)
theorem floors_ok : (all64 fun f => all6 fun p => Nat.blt (addF f p) 64 && (addF f p).testBit p && all6 fun g => Nat.blt (swF f p g) 64 && (swF f p g).testBit p) = true := by decide +kernel
theorem addF_lt {f p : Nat} (hf : f < 64) (hp : p < 6) : addF f p < 64 := by
  have := all6_get (all64_get floors_ok hf) hp
  simp only [Bool.and_eq_true, Nat.blt_eq] at this
  exact this.1.1
theorem swF_lt {f p g : Nat} (hf : f < 64) (hp : p < 6) (hg : g < 6) : swF f p g < 64 := by
  have := all6_get (all64_get floors_ok hf) hp
  simp only [Bool.and_eq_true] at this
  have := all6_get this.2 hg
  simp only [Bool.and_eq_true, Nat.blt_eq] at this
  exact this.1
theorem bitsF_lt {f g : Nat} (hg : g ∈ bitsF f) : g < 6 := by
  unfold bitsF at hg
  exact List.mem_range.1 (List.mem_filter.1 hg).1
theorem cntF_bits (f : Nat) : cntF f = (bitsF f).length := rfl
theorem lst_bd (room : Nat) (hr : 0 < room) : ∀ (ps : List Nat) (f : Nat), 0 ≤ lst room ps f ∧ lst room ps f ≤ ps.length
  | [], f => ⟨Int.le_refl _, Int.le_refl _⟩
  | p :: ps, f => by
    simp only [lst, List.length_cons]
    have hi := lst_bd room hr ps
    cases f.testBit p with
    | true => have := hi f; rw [cond_true]; omega
    | false =>
      rw [cond_false]
      cases hc : decide (cntF f < room) with
      | true => have := hi (addF f p); rw [cond_true]; omega
      | false =>
        rw [cond_false]
        have hne : bitsF f ≠ [] := fun e => by
          have : ¬ cntF f < room := of_decide_eq_false hc
          rw [cntF_bits, e] at this
          exact this hr
        obtain ⟨g, _, e⟩ := mnl_mem (fun g => 1 + lst room ps (swF f p g)) (bitsF f) hne
        rw [e]
        have := hi (swF f p g)
        omega
theorem lst_step {room : Nat} {ps : List Nat} {p f : Nat} (h : f.testBit p = true) : lst room (p :: ps) f = lst room ps f := by simp [lst, h]
theorem lst_add {room : Nat} {ps : List Nat} {p f : Nat} (h : f.testBit p = false) (hc : cntF f < room) : lst room (p :: ps) f = 1 + lst room ps (addF f p) := by simp [lst, h, hc]
theorem lst_sw {room : Nat} {ps : List Nat} {p f : Nat} (h : f.testBit p = false) (hc : ¬ cntF f < room) : lst room (p :: ps) f = mnl (fun g => 1 + lst room ps (swF f p g)) (bitsF f) := by simp [lst, h, hc]
end Go.Proofs.YtkfkbebinhkdlaaGreatDoor
set_option linter.unusedVariables false
set_option linter.unusedSimpArgs false
set_option maxRecDepth 100000
namespace Go.Proofs.YtkfkbebinhkdlaaGreatDoor
open Go.RowKit Go.Shelf
/-- What is known: the job, and for each time and floor nothing, or the fewest settings. -/
def Known (V : Nat → Nat → Int) (cur : Array Value) : Prop :=
  ∀ t f, t < 12 → f < 64 → ∃ s p : Int, cur[2 + t * 128 + f * 2]? = some (.int .i64 s) ∧ cur[2 + t * 128 + f * 2 + 1]? = some (.int .i64 p) ∧ (s = 0 ∧ p = 0 ∨ s = V t f)
structure Tbl (V : Nat → Nat → Int) (room : Nat) (a : Option Addr) (L cap b : Nat) (cur : Array Value) (W : World) : Prop where
  blk : Blk W b cur 99
  size : cur.size = 1538
  room : cur[0]? = some (.int .i64 room)
  pages : cur[1]? = some (.slice a L cap)
  known : Known V cur
/-- The fewest settings from a time on. -/
def Vs (room : Nat) (zs : List Int) (t f : Nat) : Int := lst room ((zs.drop t).map Int.toNat) f
set_option maxHeartbeats 4000000 in
theorem least_end (V : Nat → Nat → Int) (room : Nat) (a : Option Addr) (L cap b f : Nat) (cur : Array Value) (w : World) (hL : L ≤ 12) (hT : Tbl V room a L cap b cur w) :
    Calls Tryz.prog 56 #[.pointer (some ⟨b, 0, none⟩), .int .i64 L, .agg #[.int .u64 f]] w fun e W' => e = .returned (.agg #[.int .i64 0, .int .i64 1]) ∧ Below w.heap.size w W' := by
  have hb := hT.blk.lt
  have c1 := hT.blk.cell 1 hT.pages
  go_enter Tryz.func56, Tryz.ntmps56
  go_wp2
  refine bodyPost_ret (v := .agg #[.int .i64 0, .int .i64 1]) (by simp [results, Tryz.results56, go_sem]) rfl ⟨rfl, ?_⟩
  exact ((Below.refl _ w).alloc (Nat.le_refl _) _).alloc (by simp) _
/-- The boxes of a call. -/
structure Bx (w : World) (f : Nat) (o : Array Value) (W : World) : Prop where
  fl : Blk W w.heap.size #[.int .u64 f] 102
  out : Blk W (w.heap.size + 1) o 95
  size : W.heap.size = w.heap.size + 2
  low : Below w.heap.size w W
theorem Bx.start (w : World) (f : Nat) : Bx w f #[.int .i64 0, .int .i64 0] ((w.alloc (.cells #[.int .u64 f] 102)).alloc (.cells #[.int .i64 0, .int .i64 0] 95)) := by
  refine ⟨(Blk.new w _ _).alloc _, ?_, by simp, ((Below.refl _ w).alloc (Nat.le_refl _) _).alloc (by simp) _⟩
  have := Blk.new (w.alloc (.cells #[.int .u64 f] 102)) #[.int .i64 0, .int .i64 0] 95
  rwa [World.size_alloc] at this
theorem Blk.drew {W : World} {b : Nat} {cur : Array Value} {t : TypeId} (h : Blk W b cur t) : Blk W.drew b cur t := h
theorem least_res {tmps : Array Value} {W : World} {g : Nat} {s p : Int} (hp : tmps.getD 6 undef = .pointer (some ⟨g, 0, none⟩)) (hb : Blk W g #[.int .i64 s, .int .i64 p] 95) :
    (results Tryz.f56 tmps).run Tryz.prog W = .ok (.agg #[.int .i64 s, .int .i64 p]) W :=
  results_cell_row Tryz.results56 tmps W g 95 _ (0, 0) _ hp hb Tryz.underlying95 rfl (by kernel_rfl)
set_option maxHeartbeats 4000000 in
theorem least_known (V : Nat → Nat → Int) (room : Nat) (a : Option Addr) (L cap b t f : Nat) (s p : Int) (cur : Array Value) (w : World) (hL : L ≤ 12) (ht : t < L) (hf : f < 64) (hT : Tbl V room a L cap b cur w)
    (k1 : cur[2 + t * 128 + f * 2]? = some (.int .i64 s)) (k2 : cur[2 + t * 128 + f * 2 + 1]? = some (.int .i64 p)) (hn : ¬ (s = 0 ∧ p = 0)) :
    Calls Tryz.prog 56 #[.pointer (some ⟨b, 0, none⟩), .int .i64 t, .agg #[.int .u64 f]] w fun e W' => e = .returned (.agg #[.int .i64 s, .int .i64 p]) ∧ Below w.heap.size w W' := by
  have hb := hT.blk.lt
  have c1 := hT.blk.cell 1 hT.pages
  have ht1 : (t : Int) < 12 := by omega
  have ht2 : (t : Int) ≠ L := by omega
  have hf1 : (f : Int) < 64 := by omega
  have hbx := Bx.start w f
  go_enter Tryz.func56, Tryz.ntmps56
  go_wp2
  generalize World.alloc (World.alloc w _) _ = W1 at hbx ⊢
  have hb1 : b < W1.heap.size := by rw [hbx.size]; omega
  have c2 : W1.cell? ⟨b, 2 + t * 128 + f * 2, none⟩ = some (.int .i64 s) := (hbx.low.cell (p := ⟨b, _, none⟩) hb).trans (hT.blk.cell _ k1)
  have c3 : W1.cell? ⟨b, 2 + t * 128 + f * 2 + 1, none⟩ = some (.int .i64 p) := (hbx.low.cell (p := ⟨b, _, none⟩) hb).trans (hT.blk.cell _ k2)
  have c4 := hbx.fl.cell 0 rfl
  have c5 := hbx.out.cell 0 rfl
  have c6 := hbx.out.cell 1 rfl
  have c7 := hbx.out.frozen 0
  have c8 := hbx.out.frozen 1
  have n1 : w.heap.size < W1.heap.size := by rw [hbx.size]; omega
  have n2 : w.heap.size + 1 < W1.heap.size := by rw [hbx.size]; omega
  clear c1
  by_cases hs : s = 0
  · have hp : (p == 0) = false := by simpa using fun e => hn ⟨hs, e⟩
    subst hs
    clear hn k1 k2
    go_region
    go_wp2
    refine bodyPost_ret (v := .agg #[.int .i64 0, .int .i64 p]) (least_res rfl ?_) rfl ⟨rfl, ?_⟩
    · exact ((((hbx.out.set 0 _).set 1 _).alloc _).drew)
    · exact (((((hbx.low.setCell (p := ⟨_, _, none⟩) (Nat.le_succ _) _).setCell (p := ⟨_, _, none⟩) (Nat.le_succ _) _)).alloc (by simp; omega) _).drew)
  · have hs' : (s == 0) = false := by simpa using hs
    clear hn hs k1 k2
    go_region
    go_wp2
    refine bodyPost_ret (v := .agg #[.int .i64 s, .int .i64 p]) (least_res rfl ?_) rfl ⟨rfl, ?_⟩
    · exact ((((hbx.out.set 0 _).set 1 _).alloc _).drew)
    · exact (((((hbx.low.setCell (p := ⟨_, _, none⟩) (Nat.le_succ _) _).setCell (p := ⟨_, _, none⟩) (Nat.le_succ _) _)).alloc (by simp; omega) _).drew)
/-- The pages that are asked for. -/
def PgOK (zs : List Int) (a : Option Addr) (b : Nat) (W : World) : Prop :=
  ∀ j (h : j < zs.length), ∃ pb off, a = some ⟨pb, off, none⟩ ∧ pb ≠ b ∧ pb < W.heap.size ∧ W.cell? ⟨pb, off + j, none⟩ = some (.int .i64 zs[j])
theorem PgOK.grown {zs : List Int} {a : Option Addr} {b : Nat} {W W' : World} (h : PgOK zs a b W) (hg : W.grownBy W' (some b)) : PgOK zs a b W' := fun j hj => by
  obtain ⟨pb, off, h1, h2, h3, h4⟩ := h j hj
  exact ⟨pb, off, h1, h2, Nat.lt_of_lt_of_le h3 hg.size, (World.cell?_of_block (a := ⟨pb, off + j, none⟩) (hg.block pb h3 (by simpa using h2))).trans h4⟩
/-- What the search from a time and a floor gives. -/
def LeastAt (V : Nat → Nat → Int) (room : Nat) (a : Option Addr) (L cap b t f : Nat) (W : World) (e : Ending) (W' : World) : Prop :=
  ∃ (pl : Int) (cur : Array Value), e = .returned (.agg #[.int .i64 (V t f), .int .i64 pl]) ∧ Tbl V room a L cap b cur W' ∧ W.grownBy W' (some b)
theorem gb_below {W W' : World} {r : Option Nat} (h : Below W.heap.size W W') : W.grownBy W' r := ⟨h.os, h.tape, h.output, h.size, fun k hk _ => h.block k hk⟩
theorem gb_trans {W W1 W2 : World} {r : Option Nat} (h : W.grownBy W1 r) (h' : W1.grownBy W2 r) : W.grownBy W2 r :=
  ⟨h'.os.trans h.os, h'.tape.trans h.tape, h'.output.trans h.output, Nat.le_trans h.size h'.size, fun k hk hr => (h'.block k (Nat.lt_of_lt_of_le hk h.size) hr).trans (h.block k hk hr)⟩
theorem gb_alloc (W : World) (o : Obj) (r : Option Nat) : W.grownBy (W.alloc o) r := World.grownBy_alloc W o r
theorem gb_drew (W : World) (r : Option Nat) : W.grownBy W.drew r := ⟨rfl, rfl, rfl, Nat.le_refl _, fun _ _ _ => rfl⟩
theorem gb_set {W W1 : World} {b g j : Nat} {v : Value} (h : W.grownBy W1 (some b)) (hg : W.heap.size ≤ g ∨ g = b) : W.grownBy (W1.setCell ⟨g, j, none⟩ v) (some b) :=
  ⟨h.os, h.tape, h.output, Nat.le_trans h.size (KeepsWalks.setCell W1 _ _).size, fun k hk hr => (heap_setCell_other W1 ⟨g, j, none⟩ k v (by
    rcases hg with hg | hg
    · show k ≠ g
      omega
    · show k ≠ g
      rintro rfl
      exact hr (by rw [hg]))).trans (h.block k hk hr)⟩
theorem Tbl.other {V : Nat → Nat → Int} {room : Nat} {a : Option Addr} {L cap b : Nat} {cur : Array Value} {W W' : World} (h : Tbl V room a L cap b cur W) (hb : Blk W' b cur 99) : Tbl V room a L cap b cur W' := ⟨hb, h.size, h.room, h.pages, h.known⟩
theorem Tbl.store {V : Nat → Nat → Int} {room : Nat} {a : Option Addr} {L cap b : Nat} {cur : Array Value} {W : World} (h : Tbl V room a L cap b cur W) {t f : Nat} (ht : t < 12) (hf : f < 64) (p : Int) :
    Tbl V room a L cap b ((cur.setIfInBounds (2 + t * 128 + f * 2) (.int .i64 (V t f))).setIfInBounds (2 + t * 128 + f * 2 + 1) (.int .i64 p))
      ((W.setCell ⟨b, 2 + t * 128 + f * 2, none⟩ (.int .i64 (V t f))).setCell ⟨b, 2 + t * 128 + f * 2 + 1, none⟩ (.int .i64 p)) := by
  have hs := h.size
  refine ⟨(h.blk.set _ _).set _ _, by simpa using h.size, ?_, ?_, fun t' f' ht' hf' => ?_⟩
  · rw [Array.getElem?_setIfInBounds_ne (by omega), Array.getElem?_setIfInBounds_ne (by omega)]; exact h.room
  · rw [Array.getElem?_setIfInBounds_ne (by omega), Array.getElem?_setIfInBounds_ne (by omega)]; exact h.pages
  · by_cases e : t' = t ∧ f' = f
    · obtain ⟨rfl, rfl⟩ := e
      refine ⟨V t' f', p, ?_, ?_, .inr rfl⟩
      · rw [Array.getElem?_setIfInBounds_ne (by omega), Array.getElem?_setIfInBounds_self_of_lt (by omega)]
      · rw [Array.getElem?_setIfInBounds_self_of_lt (by simp; omega)]
    · obtain ⟨s, q, h1, h2, h3⟩ := h.known t' f' ht' hf'
      have hne : t' * 64 + f' ≠ t * 64 + f := by omega
      refine ⟨s, q, ?_, ?_, h3⟩
      · rw [Array.getElem?_setIfInBounds_ne (by omega), Array.getElem?_setIfInBounds_ne (by omega)]; exact h1
      · rw [Array.getElem?_setIfInBounds_ne (by omega), Array.getElem?_setIfInBounds_ne (by omega)]; exact h2
/-- Behind the look at what is known: nothing is known. -/
structure Bx2 (w : World) (b f n7 : Nat) (W : World) : Prop where
  fl : Blk W w.heap.size #[.int .u64 f] 102
  out : Blk W (w.heap.size + 1) #[.int .i64 0, .int .i64 0] 95
  size : w.heap.size + 1 < W.heap.size
  low : Below w.heap.size w W
theorem Bx.next {w W : World} {b f : Nat} (h : Bx w f #[.int .i64 0, .int .i64 0] W) (o : Obj) : Bx2 w b f W.heap.size (W.alloc o).drew :=
  ⟨(h.fl.alloc o).drew, (h.out.alloc o).drew, by have := h.size; simp; omega, (h.low.alloc (by rw [h.size]; omega) o).drew⟩
/-- What each of the walks is given. -/
structure Job (V : Nat → Nat → Int) (room : Nat) (zs : List Int) (a : Option Addr) (L cap b t f : Nat) (cur : Array Value) (w : World) : Prop where
  len : zs.length = L
  big : L ≤ 12
  time : t < L
  floor : f < 64
  tbl : Tbl V room a L cap b cur w
  pgs : PgOK zs a b w
  k1 : cur[2 + t * 128 + f * 2]? = some (.int .i64 0)
  k2 : cur[2 + t * 128 + f * 2 + 1]? = some (.int .i64 0)
  pag : ∀ z ∈ zs, 0 ≤ z ∧ z < 6
/-- What is left to do: what came out is known, too. -/
structure Rest (V : Nat → Nat → Int) (room : Nat) (a : Option Addr) (L cap b t f n9 : Nat) (pl : Int) (cur : Array Value) (w W : World) : Prop where
  fl : Blk W w.heap.size #[.int .u64 f] 102
  out : Blk W (w.heap.size + 1) #[.int .i64 0, .int .i64 0] 95
  res : Blk W n9 #[.int .i64 (V t f), .int .i64 pl] 95
  tbl : Tbl V room a L cap b cur W
  low : w.grownBy W (some b)
theorem Rest.fin {V : Nat → Nat → Int} {room : Nat} {a : Option Addr} {L cap b t f n9 : Nat} {pl : Int} {cur : Array Value} {w W : World} (h : Rest V room a L cap b t f n9 pl cur w W) (ht : t < 12) (hf : f < 64) (hb : b < w.heap.size) :
    Blk ((((((W.setCell ⟨b, 2 + t * 128 + f * 2, none⟩ (.int .i64 (V t f))).setCell ⟨b, 2 + t * 128 + f * 2 + 1, none⟩ (.int .i64 pl))).setCell ⟨w.heap.size + 1, 0, none⟩ (.int .i64 (V t f))).setCell ⟨w.heap.size + 1, 1, none⟩ (.int .i64 pl))) (w.heap.size + 1) #[.int .i64 (V t f), .int .i64 pl] 95 ∧
      ∃ cur', Tbl V room a L cap b cur' ((((((W.setCell ⟨b, 2 + t * 128 + f * 2, none⟩ (.int .i64 (V t f))).setCell ⟨b, 2 + t * 128 + f * 2 + 1, none⟩ (.int .i64 pl))).setCell ⟨w.heap.size + 1, 0, none⟩ (.int .i64 (V t f))).setCell ⟨w.heap.size + 1, 1, none⟩ (.int .i64 pl))) ∧
        w.grownBy ((((((W.setCell ⟨b, 2 + t * 128 + f * 2, none⟩ (.int .i64 (V t f))).setCell ⟨b, 2 + t * 128 + f * 2 + 1, none⟩ (.int .i64 pl))).setCell ⟨w.heap.size + 1, 0, none⟩ (.int .i64 (V t f))).setCell ⟨w.heap.size + 1, 1, none⟩ (.int .i64 pl))) (some b) := by
  have h1 := h.tbl.store ht hf pl
  refine ⟨(((h.out.other _ _ (by omega)).other _ _ (by omega)).set 0 _).set 1 _, _, h1.other ((h1.blk.other _ _ (by omega)).other _ _ (by omega)), ?_⟩
  exact gb_set (gb_set (gb_set (gb_set h.low (.inr rfl)) (.inr rfl)) (.inl (by omega))) (.inl (by omega))
set_option maxHeartbeats 4000000 in
theorem least_stand (V : Nat → Nat → Int) (room : Nat) (a : Option Addr) (L cap b t f : Nat) (zs : List Int) (cur : Array Value) (w : World) (h : Job V room zs a L cap b t f cur w) (hV : V t f = V (t + 1) f)
    (hbit : ∀ h : t < zs.length, (bits BinOp.and IntKind.u64 ((f : Int) / 2 ^ (zs[t]'h).toNat) 1 == 1) = true)
    (G : World → Prop) (hG : ∀ W, w.grownBy W (some b) → G W)
    (hrec : ∀ W cur, G W → Tbl V room a L cap b cur W → PgOK zs a b W → Calls Tryz.prog 56 #[.pointer (some ⟨b, 0, none⟩), .int .i64 ((t : Int) + 1), .agg #[.int .u64 f]] W (LeastAt V room a L cap b (t + 1) f W)) :
    Calls Tryz.prog 56 #[.pointer (some ⟨b, 0, none⟩), .int .i64 t, .agg #[.int .u64 f]] w (LeastAt V room a L cap b t f w) := by
  obtain ⟨hzl, hL, ht, hf, hT, hP, k1, k2, hp⟩ := h
  have hb := hT.blk.lt
  have c1 := hT.blk.cell 1 hT.pages
  have ht1 : (t : Int) < 12 := by omega
  have ht2 : (t : Int) ≠ L := by omega
  have ht3 : (t : Int) < L := by omega
  have hf1 : (f : Int) < 64 := by omega
  have htz : t < zs.length := by omega
  have hbit := hbit htz
  obtain ⟨hp0, hp1⟩ := hp zs[t] (List.getElem_mem _)
  have hbx := Bx.start w f
  obtain ⟨pb, off, rfl, hpb, hpw, hpc⟩ := hP t (by omega)
  go_enter Tryz.func56, Tryz.ntmps56
  go_wp2
  generalize World.alloc (World.alloc w _) _ = W1 at hbx ⊢
  have hb1 : b < W1.heap.size := by rw [hbx.size]; omega
  have c2 : W1.cell? ⟨b, 2 + t * 128 + f * 2, none⟩ = some (.int .i64 0) := (hbx.low.cell (p := ⟨b, _, none⟩) hb).trans (hT.blk.cell _ k1)
  have c3 : W1.cell? ⟨b, 2 + t * 128 + f * 2 + 1, none⟩ = some (.int .i64 0) := (hbx.low.cell (p := ⟨b, _, none⟩) hb).trans (hT.blk.cell _ k2)
  have c4 := hbx.fl.cell 0 rfl
  have n1 : w.heap.size < W1.heap.size := by rw [hbx.size]; omega
  have n2 : w.heap.size + 1 < W1.heap.size := by rw [hbx.size]; omega
  clear c1 k1 k2
  go_region
  have hbx2 := hbx.next (b := b) (.cells #[.int .i64 0, .int .i64 0] 95)
  have h7 : Blk ((W1.alloc (.cells #[.int .i64 0, .int .i64 0] 95)).drew) W1.heap.size #[.int .i64 0, .int .i64 0] 95 := (Blk.new W1 _ _).drew
  generalize World.drew (World.alloc W1 _) = W2 at hbx2 h7 ⊢
  clear c2 c3 c4 n1 n2 hb1
  have hb2 : b < W2.heap.size := Nat.lt_of_lt_of_le hb hbx2.low.size
  have hg2 : w.grownBy W2 (some b) := gb_below hbx2.low
  have hT2 : Tbl V room (some ⟨pb, off, none⟩) L cap b cur W2 := hT.other ((hbx2.low.block b hb).trans hT.blk)
  have hP2 := hP.grown hg2
  have d1 := hT2.blk.cell 1 hT2.pages
  have d2 : W2.cell? ⟨pb, off + t, none⟩ = some (.int .i64 zs[t]) := (hbx2.low.cell (p := ⟨pb, _, none⟩) hpw).trans hpc
  have d3 := hbx2.fl.cell 0 rfl
  have d4 := h7.cell 0 rfl
  have d5 := h7.cell 1 rfl
  have n1 : w.heap.size < W2.heap.size := by have := hbx2.size; omega
  have n2 : w.heap.size + 1 < W2.heap.size := by have := hbx2.size; omega
  have n3 : pb < W2.heap.size := by omega
  have n4 := h7.lt
  have hrec' : ∀ o, Calls Tryz.prog 56 #[.pointer (some ⟨b, 0, none⟩), .int .i64 ((t : Int) + 1), .agg #[.int .u64 f]] (W2.alloc o) (LeastAt V room (some ⟨pb, off, none⟩) L cap b (t + 1) f (W2.alloc o)) :=
    fun o => hrec (W2.alloc o) cur (hG _ (gb_trans hg2 (gb_alloc _ _ _))) (hT2.other (hT2.blk.alloc o)) (hP2.grown (gb_alloc _ _ _))
  have h9 := fun o => Blk.new W2 o 95
  go_wp2_with (go_at_call 56; refine (hrec' _).mono ?_; rintro e W3 ⟨pl, cur3, rfl, hT3, hg3⟩; have h9' := (h9 _).kept hg3 (by simp; omega); have e1 := h9'.cell 0 rfl; have e2 := h9'.cell 1 rfl; have e3 := h9'.frozen 0; have e4 := h9'.frozen 1; have hfl := (hbx2.fl.alloc _).kept hg3 (by simp; omega); have hout := (hbx2.out.alloc _).kept hg3 (by simp; omega); have e5 := hfl.cell 0 rfl)
  have hlt : W2.heap.size < W3.heap.size := h9'.lt
  have hR : Rest V room (some ⟨pb, off, none⟩) L cap b t f W2.heap.size pl cur3 w ((W3.setCell ⟨W2.heap.size, 0, none⟩ (.int .i64 (V (t + 1) f))).setCell ⟨W2.heap.size, 1, none⟩ (.int .i64 pl)) := by
    refine ⟨(hfl.other _ _ (by omega)).other _ _ (by omega), (hout.other _ _ (by omega)).other _ _ (by omega), ?_, hT3.other ((hT3.blk.other _ _ (by omega)).other _ _ (by omega)), ?_⟩
    · rw [hV]; exact (h9'.set 0 _).set 1 _
    · exact gb_set (gb_set (gb_trans (gb_trans hg2 (gb_alloc _ _ _)) hg3) (.inl (by omega))) (.inl (by omega))
  generalize World.setCell (World.setCell W3 _ _) _ _ = W4 at hR ⊢
  clear e1 e2 e3 e4 e5 h9' hfl hout hT3 hlt hg3 h9 hrec' n1 n2 n3 n4 d1 d2 d3 d4 d5 hT2 hP2 hb2 hg2 hbx2 h7
  have r1 := hR.fl.cell 0 rfl
  have r2 := hR.res.cell 0 rfl
  have r3 := hR.res.cell 1 rfl
  obtain ⟨s0, q0, k1, k2, k3⟩ := hR.tbl.known t f (by omega) hf
  have r4 := hR.tbl.blk.cell _ k1
  have r5 := hR.tbl.blk.cell _ k2
  have r6 := fun j => hR.tbl.blk.frozen j
  have r7 := hR.out.cell 0 rfl
  have r8 := hR.out.cell 1 rfl
  have r9 := hR.out.frozen 0
  have r10 := hR.out.frozen 1
  have m1 := hR.res.lt
  have m2 := hR.out.lt
  obtain ⟨f1, cur', f2, f3⟩ := hR.fin (by omega) hf hb
  clear k1 k2 k3 hbit hrec hT hP hp hpc hV hR
  go_region
  go_wp2
  exact bodyPost_ret (v := .agg #[.int .i64 (V t f), .int .i64 pl]) (least_res rfl f1.drew) rfl ⟨pl, cur', rfl, f2.other f2.blk.drew, gb_trans f3 (gb_drew _ _)⟩
/-- In the midst of a call: its boxes, the table and the pages. -/
structure Mid (V : Nat → Nat → Int) (room : Nat) (zs : List Int) (a : Option Addr) (L cap b f n9 : Nat) (r : Array Value) (cur : Array Value) (w W : World) : Prop where
  fl : Blk W w.heap.size #[.int .u64 f] 102
  out : Blk W (w.heap.size + 1) #[.int .i64 0, .int .i64 0] 95
  res : Blk W n9 r 95
  tbl : Tbl V room a L cap b cur W
  pgs : PgOK zs a b w
  low : w.grownBy W (some b)
  nlo : w.heap.size + 1 < n9
  blo : b < w.heap.size
theorem Mid.call {V : Nat → Nat → Int} {room : Nat} {zs : List Int} {a : Option Addr} {L cap b f n9 : Nat} {r cur cur' : Array Value} {w W W' : World} (h : Mid V room zs a L cap b f n9 r cur w W) (hg : W.grownBy W' (some b)) (hT : Tbl V room a L cap b cur' W') :
    Mid V room zs a L cap b f n9 r cur' w W' := by
  have h1 := h.nlo
  have h2 := h.blo
  exact ⟨h.fl.kept hg (by simp; omega), h.out.kept hg (by simp; omega), h.res.kept hg (by simp; omega), hT, h.pgs, gb_trans h.low hg, h.nlo, h.blo⟩
theorem Mid.below {V : Nat → Nat → Int} {room : Nat} {zs : List Int} {a : Option Addr} {L cap b f n9 : Nat} {r cur : Array Value} {w W W' : World} (h : Mid V room zs a L cap b f n9 r cur w W) (hB : Below W.heap.size W W') :
    Mid V room zs a L cap b f n9 r cur w W' := h.call (gb_below hB) (h.tbl.other ((hB.block b h.tbl.blk.lt).trans h.tbl.blk))
theorem Mid.alloc {V : Nat → Nat → Int} {room : Nat} {zs : List Int} {a : Option Addr} {L cap b f n9 : Nat} {r cur : Array Value} {w W : World} (h : Mid V room zs a L cap b f n9 r cur w W) (o : Obj) :
    Mid V room zs a L cap b f n9 r cur w (W.alloc o) := h.below ((Below.refl _ _).alloc (Nat.le_refl _) _)
theorem Mid.drew {V : Nat → Nat → Int} {room : Nat} {zs : List Int} {a : Option Addr} {L cap b f n9 : Nat} {r cur : Array Value} {w W : World} (h : Mid V room zs a L cap b f n9 r cur w W) :
    Mid V room zs a L cap b f n9 r cur w W.drew := h.below (Below.refl _ _).drew
theorem Mid.set {V : Nat → Nat → Int} {room : Nat} {zs : List Int} {a : Option Addr} {L cap b f n9 : Nat} {r cur : Array Value} {w W : World} (h : Mid V room zs a L cap b f n9 r cur w W) (j : Nat) (v : Value) :
    Mid V room zs a L cap b f n9 (r.setIfInBounds j v) cur w (W.setCell ⟨n9, j, none⟩ v) := by
  have h1 := h.nlo
  have h2 := h.blo
  refine ⟨h.fl.other _ _ (by omega), h.out.other _ _ (by omega), h.res.set _ _, h.tbl.other (h.tbl.blk.other _ _ (by omega)), h.pgs, gb_set h.low (.inl (by omega)), h.nlo, h.blo⟩
theorem Mid.pgsW {V : Nat → Nat → Int} {room : Nat} {zs : List Int} {a : Option Addr} {L cap b f n9 : Nat} {r cur : Array Value} {w W : World} (h : Mid V room zs a L cap b f n9 r cur w W) : PgOK zs a b W := h.pgs.grown h.low
theorem Mid.rest {V : Nat → Nat → Int} {room : Nat} {zs : List Int} {a : Option Addr} {L cap b t f n9 : Nat} {s pl : Int} {cur : Array Value} {w W : World} (h : Mid V room zs a L cap b f n9 #[.int .i64 s, .int .i64 pl] cur w W) (hs : V t f = s) :
    Rest V room a L cap b t f n9 pl cur w W := ⟨h.fl, h.out, by rw [hs]; exact h.res, h.tbl, h.low⟩
set_option maxHeartbeats 8000000 in
theorem least_add (V : Nat → Nat → Int) (room : Nat) (a : Option Addr) (L cap b t f f' : Nat) (zs : List Int) (cur : Array Value) (w : World) (h : Job V room zs a L cap b t f cur w) (hV : V t f = V (t + 1) f' + 1) (hVb : 0 ≤ V (t + 1) f' ∧ V (t + 1) f' ≤ 12)
    (hbit : ∀ h : t < zs.length, (bits BinOp.and IntKind.u64 ((f : Int) / 2 ^ (zs[t]'h).toNat) 1 == 1) = false)
    (G : World → Prop) (hG : ∀ W, w.grownBy W (some b) → G W)
    (hfull : ∀ (W : World) (_ : G W) (h : t < zs.length), Calls Tryz.prog 64 #[.agg #[.int .u64 f], .int .i64 (zs[t]'h), .int .i64 room] W fun e W' => e = .returned (.bool false) ∧ Below W.heap.size W W')
    (hwith : ∀ (W : World) (_ : G W) (h : t < zs.length), Calls Tryz.prog 65 #[.agg #[.int .u64 f], .int .i64 (zs[t]'h), .int .i64 (-1)] W fun e W' => e = .returned (.agg #[.int .u64 f']) ∧ Below W.heap.size W W')
    (hrec : ∀ W cur, G W → Tbl V room a L cap b cur W → PgOK zs a b W → Calls Tryz.prog 56 #[.pointer (some ⟨b, 0, none⟩), .int .i64 ((t : Int) + 1), .agg #[.int .u64 f']] W (LeastAt V room a L cap b (t + 1) f' W)) :
    Calls Tryz.prog 56 #[.pointer (some ⟨b, 0, none⟩), .int .i64 t, .agg #[.int .u64 f]] w (LeastAt V room a L cap b t f w) := by
  obtain ⟨hzl, hL, ht, hf, hT, hP, k1, k2, hp⟩ := h
  have hb := hT.blk.lt
  have c1 := hT.blk.cell 1 hT.pages
  have ht1 : (t : Int) < 12 := by omega
  have ht2 : (t : Int) ≠ L := by omega
  have ht3 : (t : Int) < L := by omega
  have hf1 : (f : Int) < 64 := by omega
  have htz : t < zs.length := by omega
  have hbit := hbit htz
  have hfull := fun W hW => hfull W hW htz
  have hwith := fun W hW => hwith W hW htz
  obtain ⟨hp0, hp1⟩ := hp zs[t] (List.getElem_mem _)
  have hbx := Bx.start w f
  obtain ⟨pb, off, rfl, hpb, hpw, hpc⟩ := hP t (by omega)
  go_enter Tryz.func56, Tryz.ntmps56
  go_wp2
  generalize World.alloc (World.alloc w _) _ = W1 at hbx ⊢
  have hb1 : b < W1.heap.size := by rw [hbx.size]; omega
  have c2 : W1.cell? ⟨b, 2 + t * 128 + f * 2, none⟩ = some (.int .i64 0) := (hbx.low.cell (p := ⟨b, _, none⟩) hb).trans (hT.blk.cell _ k1)
  have c3 : W1.cell? ⟨b, 2 + t * 128 + f * 2 + 1, none⟩ = some (.int .i64 0) := (hbx.low.cell (p := ⟨b, _, none⟩) hb).trans (hT.blk.cell _ k2)
  have c4 := hbx.fl.cell 0 rfl
  have n1 : w.heap.size < W1.heap.size := by rw [hbx.size]; omega
  have n2 : w.heap.size + 1 < W1.heap.size := by rw [hbx.size]; omega
  clear c1 k1 k2
  go_region
  have hbx2 := hbx.next (b := b) (.cells #[.int .i64 0, .int .i64 0] 95)
  have h7 : Blk ((W1.alloc (.cells #[.int .i64 0, .int .i64 0] 95)).drew) W1.heap.size #[.int .i64 0, .int .i64 0] 95 := (Blk.new W1 _ _).drew
  generalize World.drew (World.alloc W1 _) = W2 at hbx2 h7 ⊢
  clear c2 c3 c4 n1 n2 hb1
  have hb2 : b < W2.heap.size := Nat.lt_of_lt_of_le hb hbx2.low.size
  have hT2 : Tbl V room (some ⟨pb, off, none⟩) L cap b cur W2 := hT.other ((hbx2.low.block b hb).trans hT.blk)
  have d1 := hT2.blk.cell 1 hT2.pages
  have d2 : W2.cell? ⟨pb, off + t, none⟩ = some (.int .i64 zs[t]) := (hbx2.low.cell (p := ⟨pb, _, none⟩) hpw).trans hpc
  have d3 := hbx2.fl.cell 0 rfl
  have d4 := h7.cell 0 rfl
  have d5 := h7.cell 1 rfl
  have n1 : w.heap.size < W2.heap.size := by have := hbx2.size; omega
  have n2 : w.heap.size + 1 < W2.heap.size := hbx2.size
  have n3 : pb < W2.heap.size := by omega
  have n4 := h7.lt
  have hM3 : Mid V room zs (some ⟨pb, off, none⟩) L cap b f W2.heap.size #[.int .i64 0, .int .i64 0] cur w (W2.alloc (.cells #[.int .i64 0, .int .i64 0] 95)) :=
    ⟨hbx2.fl.alloc _, hbx2.out.alloc _, Blk.new W2 _ _, hT2.other (hT2.blk.alloc _), hP, gb_trans (gb_below hbx2.low) (gb_alloc _ _ _), n2, hb⟩
  go_wp2
  generalize World.alloc W2 _ = W3 at hM3 ⊢
  clear n1 n2 n3 n4 d1 d2 d3 d4 d5 h7 hT2 hb2 hbx2 hbx
  have d1 := hM3.tbl.blk.cell 0 hM3.tbl.room
  have d3 := hM3.fl.cell 0 rfl
  go_region_with (go_at_call 64; refine (hfull _ (hG _ hM3.drew.low)).mono ?_; rintro e W4 ⟨rfl, hB4⟩; have hM4 := hM3.drew.below hB4)
  all_goals
    have e0 := hM4.fl.cell 0 rfl
    have n9 := hM4.res.lt
    go_wp2_with (first | (go_at_call 65; refine (hwith _ (hG _ hM4.low)).mono ?_; rintro e W5 ⟨rfl, hB5⟩; have hM5 := hM4.below hB5) | (go_at_call 56; refine (hrec _ _ (hG _ hM5.low) hM5.tbl hM5.pgsW).mono ?_; rintro e W6 ⟨pl, cur6, rfl, hT6, hg6⟩; have hM6 := hM5.call hg6 hT6; have e1 := hM6.res.cell 0 rfl; have e2 := hM6.res.cell 1 rfl; have e3 := hM6.res.frozen 0; have e4 := hM6.res.frozen 1))
    have hR := (((hM6.set 0 (.int .i64 (V (t + 1) f'))).set 1 (.int .i64 pl)).set 0 (.int .i64 (V (t + 1) f' + 1))).rest hV
    generalize World.setCell (World.setCell (World.setCell W6 _ _) _ _) _ _ = W7 at hR ⊢
    clear e0 e1 e2 e3 e4 n9 hM6 hM5 hM4 hM3 hB4 hB5 hT6 hg6 hwith hfull d1 d3 hbit hrec hT hP hp hpc hV hVb
    have r1 := hR.fl.cell 0 rfl
    have r2 := hR.res.cell 0 rfl
    have r3 := hR.res.cell 1 rfl
    obtain ⟨s0, q0, k1, k2, k3⟩ := hR.tbl.known t f (by omega) hf
    have r4 := hR.tbl.blk.cell _ k1
    have r5 := hR.tbl.blk.cell _ k2
    have r6 := fun j => hR.tbl.blk.frozen j
    have r7 := hR.out.cell 0 rfl
    have r8 := hR.out.cell 1 rfl
    have r9 := hR.out.frozen 0
    have r10 := hR.out.frozen 1
    have m1 := hR.res.lt
    have m2 := hR.out.lt
    obtain ⟨f1, cur', f2, f3⟩ := hR.fin (by omega) hf hb
    clear k1 k2 k3 hR
    go_region
    go_wp2
    exact bodyPost_ret (v := .agg #[.int .i64 (V t f), .int .i64 pl]) (least_res rfl f1.drew) rfl ⟨pl, cur', rfl, f2.other f2.blk.drew, gb_trans f3 (gb_drew _ _)⟩
/-- Pages in a slice of the call's own. -/
def Lst (l : List Nat) (b2 : Nat) (W : World) : Prop := ∃ cur ty, Blk W b2 cur ty ∧ ∀ i (h : i < l.length), cur[i]? = some (.int .i64 (l[i] : Int))
theorem Lst.kept {l : List Nat} {b2 : Nat} {W W' : World} {r : Option Nat} (h : Lst l b2 W) (hg : W.grownBy W' r) (hne : some b2 ≠ r) : Lst l b2 W' := by
  obtain ⟨cur, ty, h1, h2⟩ := h
  exact ⟨cur, ty, h1.kept hg hne, h2⟩
theorem Lst.cell {l : List Nat} {b2 : Nat} {W : World} (h : Lst l b2 W) {i : Nat} (hi : i < l.length) : W.cell? ⟨b2, i, none⟩ = some (.int .i64 (l[i] : Int)) := by
  obtain ⟨cur, ty, h1, h2⟩ := h
  exact h1.cell i (h2 i hi)
theorem Lst.lt {l : List Nat} {b2 : Nat} {W : World} (h : Lst l b2 W) : b2 < W.heap.size := by
  obtain ⟨cur, ty, h1, h2⟩ := h
  exact h1.lt
theorem Lst.other {l : List Nat} {b2 : Nat} {W : World} (h : Lst l b2 W) {b' : Nat} (j : Nat) (v : Value) (hne : b2 ≠ b') : Lst l b2 (W.setCell ⟨b', j, none⟩ v) := by
  obtain ⟨cur, ty, h1, h2⟩ := h
  exact ⟨cur, ty, h1.other j v hne, h2⟩
/-- What has come out behind k pages. -/
def Out (v : Nat → Int) (l : List Nat) (k : Nat) (r : Array Value) : Prop :=
  (k = 0 ∧ r = #[.int .i64 0, .int .i64 0]) ∨ (0 < k ∧ ∃ p : Int, r = #[.int .i64 (mnl v (l.take k)), .int .i64 p])
/-- A round's head. -/
def Head (V : Nat → Nat → Int) (room : Nat) (zs : List Int) (a : Option Addr) (L cap b f n9 b2 : Nat) (v : Nat → Int) (l : List Nat) (k : Nat) (w W : World) : Prop :=
  ∃ r cur, Mid V room zs a L cap b f n9 r cur w W ∧ Lst l b2 W ∧ Out v l k r ∧ n9 < b2
theorem Head.next {V : Nat → Nat → Int} {room : Nat} {zs : List Int} {a : Option Addr} {L cap b f n9 b2 : Nat} {v : Nat → Int} {l : List Nat} {k : Nat} {r cur : Array Value} {w W : World} (hM : Mid V room zs a L cap b f n9 r cur w W) (hL : Lst l b2 W) (hn : n9 < b2) (ho : Out v l (k + 1) r) :
    Head V room zs a L cap b f n9 b2 v l (k + 1) w W := ⟨r, cur, hM, hL, ho, hn⟩
theorem out_first {v : Nat → Int} {l : List Nat} (h : 0 < l.length) (p : Int) : Out v l 1 #[.int .i64 (v l[0]), .int .i64 p] := by
  right
  refine ⟨Nat.one_pos, p, ?_⟩
  rw [List.take_succ_eq_append_getElem h]
  rfl
theorem mnl_take {v : Nat → Int} {l : List Nat} {k : Nat} (h : k < l.length) (h0 : 0 < k) : mnl v (l.take (k + 1)) = bif decide (v l[k] < mnl v (l.take k)) then v l[k] else mnl v (l.take k) := by
  rw [List.take_succ_eq_append_getElem h]
  exact mnl_snoc v _ _ (by
    intro e
    have := congrArg List.length e
    rw [List.length_take, List.length_nil] at this
    omega)
theorem out_less {v : Nat → Int} {l : List Nat} {k : Nat} (h : k < l.length) (h0 : 0 < k) (hl : v l[k] < mnl v (l.take k)) (p : Int) : Out v l (k + 1) #[.int .i64 (v l[k]), .int .i64 p] := by
  right
  refine ⟨Nat.succ_pos _, p, ?_⟩
  rw [mnl_take h h0, decide_eq_true hl]
  rfl
theorem out_more {v : Nat → Int} {l : List Nat} {k : Nat} (h : k < l.length) (h0 : 0 < k) (hl : ¬ v l[k] < mnl v (l.take k)) (p : Int) : Out v l (k + 1) #[.int .i64 (mnl v (l.take k)), .int .i64 p] := by
  right
  refine ⟨Nat.succ_pos _, p, ?_⟩
  rw [mnl_take h h0, decide_eq_false hl]
  rfl
theorem mnl_bd (v : Nat → Int) (l : List Nat) (h : l ≠ []) (hb : ∀ g ∈ l, 1 ≤ v g ∧ v g ≤ 13) : 1 ≤ mnl v l ∧ mnl v l ≤ 13 := by
  obtain ⟨g, hg, e⟩ := mnl_mem v l h
  rw [e]
  exact hb g hg
set_option maxHeartbeats 16000000 in
theorem least_swap (V : Nat → Nat → Int) (room : Nat) (a : Option Addr) (L cap b t f : Nat) (l : List Nat) (sw : Nat → Nat) (zs : List Int) (cur : Array Value) (w : World) (h : Job V room zs a L cap b t f cur w) (hl0 : 0 < l.length) (hl6 : l.length ≤ 6) (hlg : ∀ g ∈ l, g < 6) (hV : V t f = mnl (fun g => V (t + 1) (sw g) + 1) l)
    (hVb : ∀ g ∈ l, 0 ≤ V (t + 1) (sw g) ∧ V (t + 1) (sw g) ≤ 12)
    (hbit : ∀ h : t < zs.length, (bits BinOp.and IntKind.u64 ((f : Int) / 2 ^ (zs[t]'h).toNat) 1 == 1) = false)
    (G : World → Prop) (hG : ∀ W, w.grownBy W (some b) → G W)
    (hfull : ∀ (W : World) (_ : G W) (h : t < zs.length), Calls Tryz.prog 64 #[.agg #[.int .u64 f], .int .i64 (zs[t]'h), .int .i64 room] W fun e W' => e = .returned (.bool true) ∧ Below W.heap.size W W')
    (hlist : ∀ W : World, G W → Calls Tryz.prog 66 #[.int .u64 f] W fun e W' => ∃ b2 cap2, e = .returned (.slice (some ⟨b2, 0, none⟩) l.length cap2) ∧ W.heap.size ≤ b2 ∧ Lst l b2 W' ∧ Below W.heap.size W W')
    (hwith : ∀ (W : World) (_ : G W) (h : t < zs.length), ∀ g ∈ l, Calls Tryz.prog 65 #[.agg #[.int .u64 f], .int .i64 (zs[t]'h), .int .i64 (g : Int)] W fun e W' => e = .returned (.agg #[.int .u64 (sw g)]) ∧ Below W.heap.size W W')
    (hrec : ∀ g ∈ l, ∀ W cur, G W → Tbl V room a L cap b cur W → PgOK zs a b W → Calls Tryz.prog 56 #[.pointer (some ⟨b, 0, none⟩), .int .i64 ((t : Int) + 1), .agg #[.int .u64 (sw g)]] W (LeastAt V room a L cap b (t + 1) (sw g) W)) :
    Calls Tryz.prog 56 #[.pointer (some ⟨b, 0, none⟩), .int .i64 t, .agg #[.int .u64 f]] w (LeastAt V room a L cap b t f w) := by
  obtain ⟨hzl, hL, ht, hf, hT, hP, k1, k2, hp⟩ := h
  have hb := hT.blk.lt
  have c1 := hT.blk.cell 1 hT.pages
  have ht1 : (t : Int) < 12 := by omega
  have ht2 : (t : Int) ≠ L := by omega
  have ht3 : (t : Int) < L := by omega
  have hf1 : (f : Int) < 64 := by omega
  have htz : t < zs.length := by omega
  have hbit := hbit htz
  have hfull := fun W hW => hfull W hW htz
  have hwith := fun W hW => hwith W hW htz
  obtain ⟨hp0, hp1⟩ := hp zs[t] (List.getElem_mem _)
  have hbx := Bx.start w f
  obtain ⟨pb, off, rfl, hpb, hpw, hpc⟩ := hP t (by omega)
  go_enter Tryz.func56, Tryz.ntmps56
  go_wp2
  generalize World.alloc (World.alloc w _) _ = W1 at hbx ⊢
  have hb1 : b < W1.heap.size := by rw [hbx.size]; omega
  have c2 : W1.cell? ⟨b, 2 + t * 128 + f * 2, none⟩ = some (.int .i64 0) := (hbx.low.cell (p := ⟨b, _, none⟩) hb).trans (hT.blk.cell _ k1)
  have c3 : W1.cell? ⟨b, 2 + t * 128 + f * 2 + 1, none⟩ = some (.int .i64 0) := (hbx.low.cell (p := ⟨b, _, none⟩) hb).trans (hT.blk.cell _ k2)
  have c4 := hbx.fl.cell 0 rfl
  have n1 : w.heap.size < W1.heap.size := by rw [hbx.size]; omega
  have n2 : w.heap.size + 1 < W1.heap.size := by rw [hbx.size]; omega
  clear c1 k1 k2
  go_region
  have hbx2 := hbx.next (b := b) (.cells #[.int .i64 0, .int .i64 0] 95)
  have h7 : Blk ((W1.alloc (.cells #[.int .i64 0, .int .i64 0] 95)).drew) W1.heap.size #[.int .i64 0, .int .i64 0] 95 := (Blk.new W1 _ _).drew
  generalize World.drew (World.alloc W1 _) = W2 at hbx2 h7 ⊢
  clear c2 c3 c4 n1 n2 hb1
  have hb2 : b < W2.heap.size := Nat.lt_of_lt_of_le hb hbx2.low.size
  have hT2 : Tbl V room (some ⟨pb, off, none⟩) L cap b cur W2 := hT.other ((hbx2.low.block b hb).trans hT.blk)
  have d1 := hT2.blk.cell 1 hT2.pages
  have d2 : W2.cell? ⟨pb, off + t, none⟩ = some (.int .i64 zs[t]) := (hbx2.low.cell (p := ⟨pb, _, none⟩) hpw).trans hpc
  have d3 := hbx2.fl.cell 0 rfl
  have d4 := h7.cell 0 rfl
  have d5 := h7.cell 1 rfl
  have n1 : w.heap.size < W2.heap.size := by have := hbx2.size; omega
  have n2 : w.heap.size + 1 < W2.heap.size := hbx2.size
  have n3 : pb < W2.heap.size := by omega
  have n4 := h7.lt
  have hM3 : Mid V room zs (some ⟨pb, off, none⟩) L cap b f W2.heap.size #[.int .i64 0, .int .i64 0] cur w (W2.alloc (.cells #[.int .i64 0, .int .i64 0] 95)) :=
    ⟨hbx2.fl.alloc _, hbx2.out.alloc _, Blk.new W2 _ _, hT2.other (hT2.blk.alloc _), hP, gb_trans (gb_below hbx2.low) (gb_alloc _ _ _), n2, hb⟩
  go_wp2
  generalize World.alloc W2 _ = W3 at hM3 ⊢
  clear n1 n2 n3 n4 d1 d2 d3 d4 d5 h7 hT2 hb2 hbx2 hbx hpc hP hT
  have d1 := hM3.tbl.blk.cell 0 hM3.tbl.room
  have d3 := hM3.fl.cell 0 rfl
  go_region_with (go_at_call 64; refine (hfull _ (hG _ hM3.drew.low)).mono ?_; rintro e W4 ⟨rfl, hB4⟩; have hM4 := hM3.drew.below hB4)
  all_goals
    have e0 := hM4.fl.cell 0 rfl
    have n9 := hM4.res.lt
    go_wp2_with (go_at_call 66; refine (hlist _ (hG _ hM4.low)).mono ?_; rintro e W5 ⟨b2, cap2, rfl, hb2, hL5, hB5⟩; have hM5 := hM4.below hB5)
    clear e0 d1 d3 hfull hlist hB4 hB5 hM3
    have hH5 : Head V room zs (some ⟨pb, off, none⟩) L cap b f W2.heap.size b2 (fun g => V (t + 1) (sw g) + 1) l 0 w W5 := ⟨_, _, hM5, hL5, .inl ⟨rfl, rfl⟩, by omega⟩
    clear hM5 hL5 hM4 n9 hb2
    go_loopw [47] (fun i wr => ∃ k : Nat, i = .int .i64 k ∧ k ≤ l.length ∧ Head V room zs (some ⟨pb, off, none⟩) L cap b f W2.heap.size b2 (fun g => V (t + 1) (sw g) + 1) l k w wr) (fun i _ => l.length - (intOf i).toNat)
    case atStart => exact ⟨0, rfl, Nat.zero_le _, hH5⟩
    case round =>
      obtain ⟨k, rfl, hk, r, cur5, hM, hLs, hO, hn9⟩ := hrel
      obtain ⟨wi, rfl⟩ : ∃ wi, wi = wr := ⟨wr, rfl⟩
      clear hH5
      by_cases hkl : k < l.length
      · have cl := hLs.cell hkl
        have hg6 := hlg l[k] (List.getElem_mem _)
        obtain ⟨hx0, hx1⟩ := hVb l[k] (List.getElem_mem _)
        have hwk := fun W hW => hwith W hW l[k] (List.getElem_mem _)
        have hrk := hrec l[k] (List.getElem_mem _)
        have e0 := hM.fl.cell 0 rfl
        rcases hO with ⟨hk0, rfl⟩ | ⟨hk0, p, rfl⟩
        · have hk1 : k < 1 := by omega
          clear hk0
          go_wp2_with (first | (go_at_call 65; refine (hwk _ (hG _ hM.low)).mono ?_; rintro e W5 ⟨rfl, hB5⟩; have hM5 := hM.below hB5; have hL5 := hLs.kept (gb_below hB5 (r := none)) (by simp)) | (go_at_call 56; refine (hrk _ _ (hG _ hM5.low) hM5.tbl hM5.pgsW).mono ?_; rintro e W6 ⟨pl, cur6, rfl, hT6, hg6⟩; have hM6 := hM5.call hg6 hT6; have hL6 := hL5.kept hg6 (by have := hM5.blo; have := hM5.nlo; simp; omega); have e1 := hM6.res.cell 0 rfl; have e2 := hM6.res.cell 1 rfl; have e3 := hM6.res.frozen 0; have e4 := hM6.res.frozen 1; have e5 := hM6.res.lt))
          refine ⟨⟨k + 1, by simp, by omega, Head.next (r := #[.int .i64 (V (t + 1) (sw l[k]) + 1), .int .i64 pl]) (((hM6.set 0 _).set 1 _).alloc _) (((hL6.other _ _ (by omega)).other _ _ (by omega)).kept (gb_alloc _ _ none) (by simp)) hn9 ?_⟩, by simp [intOf]; omega⟩
          obtain rfl : k = 0 := by omega
          exact out_first (v := fun g => V (t + 1) (sw g) + 1) hkl pl
        · have hm := mnl_bd (fun g => V (t + 1) (sw g) + 1) (l.take k) (by intro e; have := congrArg List.length e; rw [List.length_take, List.length_nil] at this; omega) (fun g hg => by have := hVb g (List.mem_of_mem_take hg); omega)
          have o1 := out_less (v := fun g => V (t + 1) (sw g) + 1) hkl hk0
          have o2 := out_more (v := fun g => V (t + 1) (sw g) + 1) hkl hk0
          have O1 := Lib.hid o1
          have O2 := Lib.hid o2
          clear o1 o2
          obtain ⟨m, hmm⟩ : ∃ m, m = mnl (fun g => V (t + 1) (sw g) + 1) (l.take k) := ⟨_, rfl⟩
          rw [← hmm] at hm hM O1 O2
          clear hmm
          have hm0 : (m == 0) = false := by simp; omega
          by_cases hlm : V (t + 1) (sw l[k]) + 1 < m
          · go_wp2_with (first | (go_at_call 65; refine (hwk _ (hG _ hM.low)).mono ?_; rintro e W5 ⟨rfl, hB5⟩; have hM5 := hM.below hB5; have hL5 := hLs.kept (gb_below hB5 (r := none)) (by simp)) | (go_at_call 56; refine (hrk _ _ (hG _ hM5.low) hM5.tbl hM5.pgsW).mono ?_; rintro e W6 ⟨pl, cur6, rfl, hT6, hg6⟩; have hM6 := hM5.call hg6 hT6; have hL6 := hL5.kept hg6 (by have := hM5.blo; have := hM5.nlo; simp; omega); have e1 := hM6.res.cell 0 rfl; have e2 := hM6.res.cell 1 rfl; have e3 := hM6.res.frozen 0; have e4 := hM6.res.frozen 1; have e5 := hM6.res.lt))
            exact ⟨⟨k + 1, by simp, by omega, Head.next (r := #[.int .i64 (V (t + 1) (sw l[k]) + 1), .int .i64 pl]) (((hM6.set 0 _).set 1 _).alloc _) (((hL6.other _ _ (by omega)).other _ _ (by omega)).kept (gb_alloc _ _ none) (by simp)) hn9 (O1.out hlm pl)⟩, by simp [intOf]; omega⟩
          · by_cases heq : V (t + 1) (sw l[k]) + 1 = m
            · have heq' : (V (t + 1) (sw l[k]) + 1 == m) = true := by simp [heq]
              have HE := Lib.hid heq
              clear heq
              go_wp2_with (first | (go_at_call 65; refine (hwk _ (hG _ hM.low)).mono ?_; rintro e W5 ⟨rfl, hB5⟩; have hM5 := hM.below hB5; have hL5 := hLs.kept (gb_below hB5 (r := none)) (by simp)) | (go_at_call 56; refine (hrk _ _ (hG _ hM5.low) hM5.tbl hM5.pgsW).mono ?_; rintro e W6 ⟨pl, cur6, rfl, hT6, hg6⟩; have hM6 := hM5.call hg6 hT6; have hL6 := hL5.kept hg6 (by have := hM5.blo; have := hM5.nlo; simp; omega); have e1 := hM6.res.cell 0 rfl; have e2 := hM6.res.cell 1 rfl; have e3 := hM6.res.frozen 0; have e4 := hM6.res.frozen 1; have e5 := hM6.res.lt))
              exact ⟨⟨k + 1, by simp, by omega, Head.next (r := #[.int .i64 m, .int .i64 _]) ((hM6.set 1 _).alloc _) ((hL6.other _ _ (by omega)).kept (gb_alloc _ _ none) (by simp)) hn9 (O2.out hlm _)⟩, by simp [intOf]; omega⟩
            · have heq' : (V (t + 1) (sw l[k]) + 1 == m) = false := by simp [heq]
              go_wp2_with (first | (go_at_call 65; refine (hwk _ (hG _ hM.low)).mono ?_; rintro e W5 ⟨rfl, hB5⟩; have hM5 := hM.below hB5; have hL5 := hLs.kept (gb_below hB5 (r := none)) (by simp)) | (go_at_call 56; refine (hrk _ _ (hG _ hM5.low) hM5.tbl hM5.pgsW).mono ?_; rintro e W6 ⟨pl, cur6, rfl, hT6, hg6⟩; have hM6 := hM5.call hg6 hT6; have hL6 := hL5.kept hg6 (by have := hM5.blo; have := hM5.nlo; simp; omega); have e1 := hM6.res.cell 0 rfl; have e2 := hM6.res.cell 1 rfl; have e3 := hM6.res.frozen 0; have e4 := hM6.res.frozen 1; have e5 := hM6.res.lt))
              exact ⟨⟨k + 1, by simp, by omega, Head.next (r := #[.int .i64 m, .int .i64 p]) (hM6.alloc _) (hL6.kept (gb_alloc _ _ none) (by simp)) hn9 (O2.out hlm p)⟩, by simp [intOf]; omega⟩
      · obtain rfl : k = l.length := by omega
        rcases hO with ⟨hk0, _⟩ | ⟨hk0, p, rfl⟩
        · omega
        rw [List.take_length] at hM
        have hR := hM.rest hV
        clear hM hV hVb hlg hwith hrec hbit hLs hp
        go_wp2
        have r1 := hR.fl.cell 0 rfl
        have r2 := hR.res.cell 0 rfl
        have r3 := hR.res.cell 1 rfl
        obtain ⟨s0, q0, k1, k2, k3⟩ := hR.tbl.known t f (by omega) hf
        have r4 := hR.tbl.blk.cell _ k1
        have r5 := hR.tbl.blk.cell _ k2
        have r6 := fun j => hR.tbl.blk.frozen j
        have r7 := hR.out.cell 0 rfl
        have r8 := hR.out.cell 1 rfl
        have r9 := hR.out.frozen 0
        have r10 := hR.out.frozen 1
        have m1 := hR.res.lt
        have m2 := hR.out.lt
        obtain ⟨f1, cur', f2, f3⟩ := hR.fin (by omega) hf hb
        clear k1 k2 k3 hR
        go_region
        go_wp2
        exact bodyPost_ret (v := .agg #[.int .i64 (V t f), .int .i64 p]) (least_res rfl f1.drew) rfl ⟨p, cur', rfl, f2.other f2.blk.drew, gb_trans f3 (gb_drew _ _)⟩
end Go.Proofs.YtkfkbebinhkdlaaGreatDoor
set_option linter.unusedVariables false
set_option linter.unusedSimpArgs false
set_option maxRecDepth 100000
namespace Go.Proofs.YtkfkbebinhkdlaaGreatDoor
open Go.Vi
abbrev R55 := Int
noncomputable def c55 : Code := bodyOf Tryz.f55
noncomputable def an55 : Ann := (.s .l (.s (.j [] (.s .l (.j [] .l (.s .l (.j [] .l (.s .l (.j [] .l .l)))))) .l) .l))
def pk55 : List PK := [.c (.pair (.int .i64) (.sl (.int .i64)))]
def rk55 : List RK := [.c (.int .i64) 2]
noncomputable def rt55 (st : St) : Option R55 := rtG rk55 st
noncomputable def E55 (n : Nat × Nat) : Env := { T := tab, phi := (consPhi 34 (isFns [none, some 63]) (P34c63 n) noPhi), eff := fun _ => false, fuel := n.1, hold := n.2 }
noncomputable def S55 (n : Nat × Nat) (j0 : Int × List Int) : Option R55 := run (E55 n) c55 an55 rt55 (fun _ _ => none) rt55 { tm := [.agg [.int .i64 j0.1, .sl (.int .i64) j0.2 false], uu, uu, uu, uu, uu, uu, uu, uu, uu, uu, uu, uu, uu, uu, uu, uu, uu, uu, uu, uu], hp := emp }
theorem S55_eq (n : Nat × Nat) (j0 : Int × List Int) : S55 n j0 =
 ((bif (decide (j0.1 < 1) == false) then some (decide (j0.1 > 5))
 else some true)).bind fun b1' =>
 (bif b1' then some 1
 else (bif decide ((j0.2.length : Int) > 12) then some 3
 else (S34c63 n j0.2).bind fun r2' =>
 (bif r2' then some 2
 else some 0))) := by kernel_rfl
theorem S55_run (n : Nat × Nat) (xs : pksDen pk55) : S55 n xs.1 = runG (E55 n) noScope c55 an55 (rtG rk55) (fun _ _ => none) (rtG rk55) (st0 pk55 xs Tryz.f55.ntmps) := by kernel_rfl
noncomputable def P55 (n : Nat × Nat) := phiOf pk55 rk55 (fun xs => S55 n xs.1)
theorem env55 (n : Nat × Nat) : EnvOK Tryz.prog (E55 n) := envOK0 (consPhi_ok (FC34c63 n) call34 noPhi_ok) rfl rfl
theorem par55 (n : Nat × Nat) : EnvPar (E55 n) := envPar0 (consPhi_par phiOf_Par1 noPhi_par) rfl
theorem FC55 (n : Nat × Nat) : FCs Tryz.prog 55 (P55 n) := phiOf_FCs fun xs r h vs hv => FC.of_runG tabOK eqsOK (env55 n) (par55 n) mixed (fun _ p _ => noScope_ok p.1 p.2) Tryz.func55 (c := c55) (an := an55) (pks := pk55) (rks := rk55) (by kernel_rfl) (by kernel_rfl) hv ((S55_run n xs).symm.trans h)
/-D 63 -/
noncomputable def D63 (n : Nat × Nat) (p0 : Int) : Option R63 :=
 ((bif (decide (p0 < 0) == false) then some (decide (p0 ≥ 6))
 else some true)).bind fun b1' =>
 some b1'
theorem S63_D (n : Nat × Nat) (hn : n.2 = 1) : S63 n = D63 n := by
  funext p0; refine (S63_eq n p0).trans ?_
  unfold D63
  first | with_reducible rfl | rfl
/-D 43c63 -/
noncomputable def DF43c63_1 (n : Nat × Nat) (f1 : List Int → Int → Int → Option R43c63) (s0 : List Int) (v7 : Int) (v8 : Int) : Option R43c63 :=
 (bif decide (v8 < v7) then (idx s0 v8).bind fun x1' =>
 (D63 n x1').bind fun r2' =>
 (bif r2' then some v8
 else f1 s0 v7 (wr .i64 (v8 + 1)))
 else some (-1))
noncomputable def DL43c63_1 (n : Nat × Nat) (m : Nat) : List Int → Int → Int → Option R43c63 := Nat.rec (motive := fun _ => List Int → Int → Int → Option R43c63) (fun _ _ _ => none) (fun _ ih => DF43c63_1 n ih) m
theorem DL43c63_1_succ (n : Nat × Nat) (m : Nat) : DL43c63_1 n (m + 1) = DF43c63_1 n (DL43c63_1 n m) := rfl
theorem DL43c63_1_eq (n : Nat × Nat) (hn : n.2 = 1) : ∀ m, L43c63_1 n m = DL43c63_1 n m
  | 0 => by funext s0 v7 v8; kernel_rfl
  | m + 1 => by
    have ih := DL43c63_1_eq n hn m
    funext s0 v7 v8; refine (L43c63_1_eq n m s0 v7 v8).trans ?_
    rw [DL43c63_1_succ]
    unfold DF43c63_1
    (try simp only [ih, S63_D n hn]) <;> first | with_reducible rfl | rfl
noncomputable def D43c63 (n : Nat × Nat) (s0 : List Int) : Option R43c63 :=
    DL43c63_1 n n.1 s0 (s0.length : Int) 0
theorem S43c63_D (n : Nat × Nat) (hn : n.2 = 1) : S43c63 n = D43c63 n := by
  funext s0; refine (S43c63_eq n s0).trans ?_
  unfold D43c63
  (try simp only [DL43c63_1_eq n hn, S63_D n hn]) <;> first | with_reducible rfl | rfl
/-D 34c63 -/
noncomputable def D34c63 (n : Nat × Nat) (s0 : List Int) : Option R34c63 :=
 (D43c63 n s0).bind fun r1' =>
 some (decide (r1' ≥ 0))
theorem S34c63_D (n : Nat × Nat) (hn : n.2 = 1) : S34c63 n = D34c63 n := by
  funext s0; refine (S34c63_eq n s0).trans ?_
  unfold D34c63
  (try simp only [S43c63_D n hn]) <;> first | with_reducible rfl | rfl
/-D 55 -/
noncomputable def D55 (n : Nat × Nat) (j0 : Int × List Int) : Option R55 :=
 ((bif (decide (j0.1 < 1) == false) then some (decide (j0.1 > 5))
 else some true)).bind fun b1' =>
 (bif b1' then some 1
 else (bif decide ((j0.2.length : Int) > 12) then some 3
 else (D34c63 n j0.2).bind fun r2' =>
 (bif r2' then some 2
 else some 0)))
theorem S55_D (n : Nat × Nat) (hn : n.2 = 1) : S55 n = D55 n := by
  funext j0; refine (S55_eq n j0).trans ?_
  unfold D55
  (try simp only [S34c63_D n hn]) <;> first | with_reducible rfl | rfl
/- math/bits.OnesCount64 -/
abbrev R82 := Int
noncomputable def c82 : Code := bodyOf Tryz.f82
noncomputable def an82 : Ann := .l
def pk82 : List PK := [.c (.int .u64)]
def rk82 : List RK := [.c (.int .i64) 2]
noncomputable def rt82 (st : St) : Option R82 := rtG rk82 st
noncomputable def E82 (n : Nat × Nat) : Env := { T := tab, phi := noPhi, eff := fun _ => false, fuel := n.1, hold := n.2 }
noncomputable def S82 (n : Nat × Nat) (x0 : Int) : Option R82 := run (E82 n) c82 an82 rt82 (fun _ _ => none) rt82 { tm := [.c (.int .u64 x0), uu, uu, uu, uu, uu, uu, uu, uu, uu, uu, uu, uu, uu, uu, uu, uu, uu, uu, uu, uu, uu, uu, uu, uu, uu, uu, uu, uu, uu, uu, uu, uu, uu, uu], hp := emp }
theorem S82_eq (n : Nat × Nat) (x0 : Int) : S82 n x0 =
 (bif decide (1 < 0) then none
 else (bif decide (2 < 0) then none
 else (bif decide (4 < 0) then none
 else (bif decide (8 < 0) then none
 else (bif decide (16 < 0) then none
 else (bif decide (32 < 0) then none
 else some (wr .i64 (BitVec.ofInt (IntKind.bits .i64) (wr .i64 (wr .u64 ((wr .u64 ((wr .u64 ((wr .u64 (BitVec.ofInt (IntKind.bits .u64) (wr .u64 ((Int.fdiv (wr .u64 ((wr .u64 (BitVec.ofInt (IntKind.bits .u64) (Int.fdiv (wr .u64 ((wr .u64 (BitVec.ofInt (IntKind.bits .u64) (Int.fdiv x0 (2 ^ (min (Int.toNat 1) (IntKind.bits .u64)))) &&& BitVec.ofInt (IntKind.bits .u64) 6148914691236517205).toNat) + (wr .u64 (BitVec.ofInt (IntKind.bits .u64) x0 &&& BitVec.ofInt (IntKind.bits .u64) 6148914691236517205).toNat))) (2 ^ (min (Int.toNat 2) (IntKind.bits .u64)))) &&& BitVec.ofInt (IntKind.bits .u64) 3689348814741910323).toNat) + (wr .u64 (BitVec.ofInt (IntKind.bits .u64) (wr .u64 ((wr .u64 (BitVec.ofInt (IntKind.bits .u64) (Int.fdiv x0 (2 ^ (min (Int.toNat 1) (IntKind.bits .u64)))) &&& BitVec.ofInt (IntKind.bits .u64) 6148914691236517205).toNat) + (wr .u64 (BitVec.ofInt (IntKind.bits .u64) x0 &&& BitVec.ofInt (IntKind.bits .u64) 6148914691236517205).toNat))) &&& BitVec.ofInt (IntKind.bits .u64) 3689348814741910323).toNat))) (2 ^ (min (Int.toNat 4) (IntKind.bits .u64)))) + (wr .u64 ((wr .u64 (BitVec.ofInt (IntKind.bits .u64) (Int.fdiv (wr .u64 ((wr .u64 (BitVec.ofInt (IntKind.bits .u64) (Int.fdiv x0 (2 ^ (min (Int.toNat 1) (IntKind.bits .u64)))) &&& BitVec.ofInt (IntKind.bits .u64) 6148914691236517205).toNat) + (wr .u64 (BitVec.ofInt (IntKind.bits .u64) x0 &&& BitVec.ofInt (IntKind.bits .u64) 6148914691236517205).toNat))) (2 ^ (min (Int.toNat 2) (IntKind.bits .u64)))) &&& BitVec.ofInt (IntKind.bits .u64) 3689348814741910323).toNat) + (wr .u64 (BitVec.ofInt (IntKind.bits .u64) (wr .u64 ((wr .u64 (BitVec.ofInt (IntKind.bits .u64) (Int.fdiv x0 (2 ^ (min (Int.toNat 1) (IntKind.bits .u64)))) &&& BitVec.ofInt (IntKind.bits .u64) 6148914691236517205).toNat) + (wr .u64 (BitVec.ofInt (IntKind.bits .u64) x0 &&& BitVec.ofInt (IntKind.bits .u64) 6148914691236517205).toNat))) &&& BitVec.ofInt (IntKind.bits .u64) 3689348814741910323).toNat))))) &&& BitVec.ofInt (IntKind.bits .u64) 1085102592571150095).toNat) + (Int.fdiv (wr .u64 (BitVec.ofInt (IntKind.bits .u64) (wr .u64 ((Int.fdiv (wr .u64 ((wr .u64 (BitVec.ofInt (IntKind.bits .u64) (Int.fdiv (wr .u64 ((wr .u64 (BitVec.ofInt (IntKind.bits .u64) (Int.fdiv x0 (2 ^ (min (Int.toNat 1) (IntKind.bits .u64)))) &&& BitVec.ofInt (IntKind.bits .u64) 6148914691236517205).toNat) + (wr .u64 (BitVec.ofInt (IntKind.bits .u64) x0 &&& BitVec.ofInt (IntKind.bits .u64) 6148914691236517205).toNat))) (2 ^ (min (Int.toNat 2) (IntKind.bits .u64)))) &&& BitVec.ofInt (IntKind.bits .u64) 3689348814741910323).toNat) + (wr .u64 (BitVec.ofInt (IntKind.bits .u64) (wr .u64 ((wr .u64 (BitVec.ofInt (IntKind.bits .u64) (Int.fdiv x0 (2 ^ (min (Int.toNat 1) (IntKind.bits .u64)))) &&& BitVec.ofInt (IntKind.bits .u64) 6148914691236517205).toNat) + (wr .u64 (BitVec.ofInt (IntKind.bits .u64) x0 &&& BitVec.ofInt (IntKind.bits .u64) 6148914691236517205).toNat))) &&& BitVec.ofInt (IntKind.bits .u64) 3689348814741910323).toNat))) (2 ^ (min (Int.toNat 4) (IntKind.bits .u64)))) + (wr .u64 ((wr .u64 (BitVec.ofInt (IntKind.bits .u64) (Int.fdiv (wr .u64 ((wr .u64 (BitVec.ofInt (IntKind.bits .u64) (Int.fdiv x0 (2 ^ (min (Int.toNat 1) (IntKind.bits .u64)))) &&& BitVec.ofInt (IntKind.bits .u64) 6148914691236517205).toNat) + (wr .u64 (BitVec.ofInt (IntKind.bits .u64) x0 &&& BitVec.ofInt (IntKind.bits .u64) 6148914691236517205).toNat))) (2 ^ (min (Int.toNat 2) (IntKind.bits .u64)))) &&& BitVec.ofInt (IntKind.bits .u64) 3689348814741910323).toNat) + (wr .u64 (BitVec.ofInt (IntKind.bits .u64) (wr .u64 ((wr .u64 (BitVec.ofInt (IntKind.bits .u64) (Int.fdiv x0 (2 ^ (min (Int.toNat 1) (IntKind.bits .u64)))) &&& BitVec.ofInt (IntKind.bits .u64) 6148914691236517205).toNat) + (wr .u64 (BitVec.ofInt (IntKind.bits .u64) x0 &&& BitVec.ofInt (IntKind.bits .u64) 6148914691236517205).toNat))) &&& BitVec.ofInt (IntKind.bits .u64) 3689348814741910323).toNat))))) &&& BitVec.ofInt (IntKind.bits .u64) 1085102592571150095).toNat) (2 ^ (min (Int.toNat 8) (IntKind.bits .u64)))))) + (Int.fdiv (wr .u64 ((wr .u64 (BitVec.ofInt (IntKind.bits .u64) (wr .u64 ((Int.fdiv (wr .u64 ((wr .u64 (BitVec.ofInt (IntKind.bits .u64) (Int.fdiv (wr .u64 ((wr .u64 (BitVec.ofInt (IntKind.bits .u64) (Int.fdiv x0 (2 ^ (min (Int.toNat 1) (IntKind.bits .u64)))) &&& BitVec.ofInt (IntKind.bits .u64) 6148914691236517205).toNat) + (wr .u64 (BitVec.ofInt (IntKind.bits .u64) x0 &&& BitVec.ofInt (IntKind.bits .u64) 6148914691236517205).toNat))) (2 ^ (min (Int.toNat 2) (IntKind.bits .u64)))) &&& BitVec.ofInt (IntKind.bits .u64) 3689348814741910323).toNat) + (wr .u64 (BitVec.ofInt (IntKind.bits .u64) (wr .u64 ((wr .u64 (BitVec.ofInt (IntKind.bits .u64) (Int.fdiv x0 (2 ^ (min (Int.toNat 1) (IntKind.bits .u64)))) &&& BitVec.ofInt (IntKind.bits .u64) 6148914691236517205).toNat) + (wr .u64 (BitVec.ofInt (IntKind.bits .u64) x0 &&& BitVec.ofInt (IntKind.bits .u64) 6148914691236517205).toNat))) &&& BitVec.ofInt (IntKind.bits .u64) 3689348814741910323).toNat))) (2 ^ (min (Int.toNat 4) (IntKind.bits .u64)))) + (wr .u64 ((wr .u64 (BitVec.ofInt (IntKind.bits .u64) (Int.fdiv (wr .u64 ((wr .u64 (BitVec.ofInt (IntKind.bits .u64) (Int.fdiv x0 (2 ^ (min (Int.toNat 1) (IntKind.bits .u64)))) &&& BitVec.ofInt (IntKind.bits .u64) 6148914691236517205).toNat) + (wr .u64 (BitVec.ofInt (IntKind.bits .u64) x0 &&& BitVec.ofInt (IntKind.bits .u64) 6148914691236517205).toNat))) (2 ^ (min (Int.toNat 2) (IntKind.bits .u64)))) &&& BitVec.ofInt (IntKind.bits .u64) 3689348814741910323).toNat) + (wr .u64 (BitVec.ofInt (IntKind.bits .u64) (wr .u64 ((wr .u64 (BitVec.ofInt (IntKind.bits .u64) (Int.fdiv x0 (2 ^ (min (Int.toNat 1) (IntKind.bits .u64)))) &&& BitVec.ofInt (IntKind.bits .u64) 6148914691236517205).toNat) + (wr .u64 (BitVec.ofInt (IntKind.bits .u64) x0 &&& BitVec.ofInt (IntKind.bits .u64) 6148914691236517205).toNat))) &&& BitVec.ofInt (IntKind.bits .u64) 3689348814741910323).toNat))))) &&& BitVec.ofInt (IntKind.bits .u64) 1085102592571150095).toNat) + (Int.fdiv (wr .u64 (BitVec.ofInt (IntKind.bits .u64) (wr .u64 ((Int.fdiv (wr .u64 ((wr .u64 (BitVec.ofInt (IntKind.bits .u64) (Int.fdiv (wr .u64 ((wr .u64 (BitVec.ofInt (IntKind.bits .u64) (Int.fdiv x0 (2 ^ (min (Int.toNat 1) (IntKind.bits .u64)))) &&& BitVec.ofInt (IntKind.bits .u64) 6148914691236517205).toNat) + (wr .u64 (BitVec.ofInt (IntKind.bits .u64) x0 &&& BitVec.ofInt (IntKind.bits .u64) 6148914691236517205).toNat))) (2 ^ (min (Int.toNat 2) (IntKind.bits .u64)))) &&& BitVec.ofInt (IntKind.bits .u64) 3689348814741910323).toNat) + (wr .u64 (BitVec.ofInt (IntKind.bits .u64) (wr .u64 ((wr .u64 (BitVec.ofInt (IntKind.bits .u64) (Int.fdiv x0 (2 ^ (min (Int.toNat 1) (IntKind.bits .u64)))) &&& BitVec.ofInt (IntKind.bits .u64) 6148914691236517205).toNat) + (wr .u64 (BitVec.ofInt (IntKind.bits .u64) x0 &&& BitVec.ofInt (IntKind.bits .u64) 6148914691236517205).toNat))) &&& BitVec.ofInt (IntKind.bits .u64) 3689348814741910323).toNat))) (2 ^ (min (Int.toNat 4) (IntKind.bits .u64)))) + (wr .u64 ((wr .u64 (BitVec.ofInt (IntKind.bits .u64) (Int.fdiv (wr .u64 ((wr .u64 (BitVec.ofInt (IntKind.bits .u64) (Int.fdiv x0 (2 ^ (min (Int.toNat 1) (IntKind.bits .u64)))) &&& BitVec.ofInt (IntKind.bits .u64) 6148914691236517205).toNat) + (wr .u64 (BitVec.ofInt (IntKind.bits .u64) x0 &&& BitVec.ofInt (IntKind.bits .u64) 6148914691236517205).toNat))) (2 ^ (min (Int.toNat 2) (IntKind.bits .u64)))) &&& BitVec.ofInt (IntKind.bits .u64) 3689348814741910323).toNat) + (wr .u64 (BitVec.ofInt (IntKind.bits .u64) (wr .u64 ((wr .u64 (BitVec.ofInt (IntKind.bits .u64) (Int.fdiv x0 (2 ^ (min (Int.toNat 1) (IntKind.bits .u64)))) &&& BitVec.ofInt (IntKind.bits .u64) 6148914691236517205).toNat) + (wr .u64 (BitVec.ofInt (IntKind.bits .u64) x0 &&& BitVec.ofInt (IntKind.bits .u64) 6148914691236517205).toNat))) &&& BitVec.ofInt (IntKind.bits .u64) 3689348814741910323).toNat))))) &&& BitVec.ofInt (IntKind.bits .u64) 1085102592571150095).toNat) (2 ^ (min (Int.toNat 8) (IntKind.bits .u64)))))) (2 ^ (min (Int.toNat 16) (IntKind.bits .u64)))))) + (Int.fdiv (wr .u64 ((wr .u64 ((wr .u64 (BitVec.ofInt (IntKind.bits .u64) (wr .u64 ((Int.fdiv (wr .u64 ((wr .u64 (BitVec.ofInt (IntKind.bits .u64) (Int.fdiv (wr .u64 ((wr .u64 (BitVec.ofInt (IntKind.bits .u64) (Int.fdiv x0 (2 ^ (min (Int.toNat 1) (IntKind.bits .u64)))) &&& BitVec.ofInt (IntKind.bits .u64) 6148914691236517205).toNat) + (wr .u64 (BitVec.ofInt (IntKind.bits .u64) x0 &&& BitVec.ofInt (IntKind.bits .u64) 6148914691236517205).toNat))) (2 ^ (min (Int.toNat 2) (IntKind.bits .u64)))) &&& BitVec.ofInt (IntKind.bits .u64) 3689348814741910323).toNat) + (wr .u64 (BitVec.ofInt (IntKind.bits .u64) (wr .u64 ((wr .u64 (BitVec.ofInt (IntKind.bits .u64) (Int.fdiv x0 (2 ^ (min (Int.toNat 1) (IntKind.bits .u64)))) &&& BitVec.ofInt (IntKind.bits .u64) 6148914691236517205).toNat) + (wr .u64 (BitVec.ofInt (IntKind.bits .u64) x0 &&& BitVec.ofInt (IntKind.bits .u64) 6148914691236517205).toNat))) &&& BitVec.ofInt (IntKind.bits .u64) 3689348814741910323).toNat))) (2 ^ (min (Int.toNat 4) (IntKind.bits .u64)))) + (wr .u64 ((wr .u64 (BitVec.ofInt (IntKind.bits .u64) (Int.fdiv (wr .u64 ((wr .u64 (BitVec.ofInt (IntKind.bits .u64) (Int.fdiv x0 (2 ^ (min (Int.toNat 1) (IntKind.bits .u64)))) &&& BitVec.ofInt (IntKind.bits .u64) 6148914691236517205).toNat) + (wr .u64 (BitVec.ofInt (IntKind.bits .u64) x0 &&& BitVec.ofInt (IntKind.bits .u64) 6148914691236517205).toNat))) (2 ^ (min (Int.toNat 2) (IntKind.bits .u64)))) &&& BitVec.ofInt (IntKind.bits .u64) 3689348814741910323).toNat) + (wr .u64 (BitVec.ofInt (IntKind.bits .u64) (wr .u64 ((wr .u64 (BitVec.ofInt (IntKind.bits .u64) (Int.fdiv x0 (2 ^ (min (Int.toNat 1) (IntKind.bits .u64)))) &&& BitVec.ofInt (IntKind.bits .u64) 6148914691236517205).toNat) + (wr .u64 (BitVec.ofInt (IntKind.bits .u64) x0 &&& BitVec.ofInt (IntKind.bits .u64) 6148914691236517205).toNat))) &&& BitVec.ofInt (IntKind.bits .u64) 3689348814741910323).toNat))))) &&& BitVec.ofInt (IntKind.bits .u64) 1085102592571150095).toNat) + (Int.fdiv (wr .u64 (BitVec.ofInt (IntKind.bits .u64) (wr .u64 ((Int.fdiv (wr .u64 ((wr .u64 (BitVec.ofInt (IntKind.bits .u64) (Int.fdiv (wr .u64 ((wr .u64 (BitVec.ofInt (IntKind.bits .u64) (Int.fdiv x0 (2 ^ (min (Int.toNat 1) (IntKind.bits .u64)))) &&& BitVec.ofInt (IntKind.bits .u64) 6148914691236517205).toNat) + (wr .u64 (BitVec.ofInt (IntKind.bits .u64) x0 &&& BitVec.ofInt (IntKind.bits .u64) 6148914691236517205).toNat))) (2 ^ (min (Int.toNat 2) (IntKind.bits .u64)))) &&& BitVec.ofInt (IntKind.bits .u64) 3689348814741910323).toNat) + (wr .u64 (BitVec.ofInt (IntKind.bits .u64) (wr .u64 ((wr .u64 (BitVec.ofInt (IntKind.bits .u64) (Int.fdiv x0 (2 ^ (min (Int.toNat 1) (IntKind.bits .u64)))) &&& BitVec.ofInt (IntKind.bits .u64) 6148914691236517205).toNat) + (wr .u64 (BitVec.ofInt (IntKind.bits .u64) x0 &&& BitVec.ofInt (IntKind.bits .u64) 6148914691236517205).toNat))) &&& BitVec.ofInt (IntKind.bits .u64) 3689348814741910323).toNat))) (2 ^ (min (Int.toNat 4) (IntKind.bits .u64)))) + (wr .u64 ((wr .u64 (BitVec.ofInt (IntKind.bits .u64) (Int.fdiv (wr .u64 ((wr .u64 (BitVec.ofInt (IntKind.bits .u64) (Int.fdiv x0 (2 ^ (min (Int.toNat 1) (IntKind.bits .u64)))) &&& BitVec.ofInt (IntKind.bits .u64) 6148914691236517205).toNat) + (wr .u64 (BitVec.ofInt (IntKind.bits .u64) x0 &&& BitVec.ofInt (IntKind.bits .u64) 6148914691236517205).toNat))) (2 ^ (min (Int.toNat 2) (IntKind.bits .u64)))) &&& BitVec.ofInt (IntKind.bits .u64) 3689348814741910323).toNat) + (wr .u64 (BitVec.ofInt (IntKind.bits .u64) (wr .u64 ((wr .u64 (BitVec.ofInt (IntKind.bits .u64) (Int.fdiv x0 (2 ^ (min (Int.toNat 1) (IntKind.bits .u64)))) &&& BitVec.ofInt (IntKind.bits .u64) 6148914691236517205).toNat) + (wr .u64 (BitVec.ofInt (IntKind.bits .u64) x0 &&& BitVec.ofInt (IntKind.bits .u64) 6148914691236517205).toNat))) &&& BitVec.ofInt (IntKind.bits .u64) 3689348814741910323).toNat))))) &&& BitVec.ofInt (IntKind.bits .u64) 1085102592571150095).toNat) (2 ^ (min (Int.toNat 8) (IntKind.bits .u64)))))) + (Int.fdiv (wr .u64 ((wr .u64 (BitVec.ofInt (IntKind.bits .u64) (wr .u64 ((Int.fdiv (wr .u64 ((wr .u64 (BitVec.ofInt (IntKind.bits .u64) (Int.fdiv (wr .u64 ((wr .u64 (BitVec.ofInt (IntKind.bits .u64) (Int.fdiv x0 (2 ^ (min (Int.toNat 1) (IntKind.bits .u64)))) &&& BitVec.ofInt (IntKind.bits .u64) 6148914691236517205).toNat) + (wr .u64 (BitVec.ofInt (IntKind.bits .u64) x0 &&& BitVec.ofInt (IntKind.bits .u64) 6148914691236517205).toNat))) (2 ^ (min (Int.toNat 2) (IntKind.bits .u64)))) &&& BitVec.ofInt (IntKind.bits .u64) 3689348814741910323).toNat) + (wr .u64 (BitVec.ofInt (IntKind.bits .u64) (wr .u64 ((wr .u64 (BitVec.ofInt (IntKind.bits .u64) (Int.fdiv x0 (2 ^ (min (Int.toNat 1) (IntKind.bits .u64)))) &&& BitVec.ofInt (IntKind.bits .u64) 6148914691236517205).toNat) + (wr .u64 (BitVec.ofInt (IntKind.bits .u64) x0 &&& BitVec.ofInt (IntKind.bits .u64) 6148914691236517205).toNat))) &&& BitVec.ofInt (IntKind.bits .u64) 3689348814741910323).toNat))) (2 ^ (min (Int.toNat 4) (IntKind.bits .u64)))) + (wr .u64 ((wr .u64 (BitVec.ofInt (IntKind.bits .u64) (Int.fdiv (wr .u64 ((wr .u64 (BitVec.ofInt (IntKind.bits .u64) (Int.fdiv x0 (2 ^ (min (Int.toNat 1) (IntKind.bits .u64)))) &&& BitVec.ofInt (IntKind.bits .u64) 6148914691236517205).toNat) + (wr .u64 (BitVec.ofInt (IntKind.bits .u64) x0 &&& BitVec.ofInt (IntKind.bits .u64) 6148914691236517205).toNat))) (2 ^ (min (Int.toNat 2) (IntKind.bits .u64)))) &&& BitVec.ofInt (IntKind.bits .u64) 3689348814741910323).toNat) + (wr .u64 (BitVec.ofInt (IntKind.bits .u64) (wr .u64 ((wr .u64 (BitVec.ofInt (IntKind.bits .u64) (Int.fdiv x0 (2 ^ (min (Int.toNat 1) (IntKind.bits .u64)))) &&& BitVec.ofInt (IntKind.bits .u64) 6148914691236517205).toNat) + (wr .u64 (BitVec.ofInt (IntKind.bits .u64) x0 &&& BitVec.ofInt (IntKind.bits .u64) 6148914691236517205).toNat))) &&& BitVec.ofInt (IntKind.bits .u64) 3689348814741910323).toNat))))) &&& BitVec.ofInt (IntKind.bits .u64) 1085102592571150095).toNat) + (Int.fdiv (wr .u64 (BitVec.ofInt (IntKind.bits .u64) (wr .u64 ((Int.fdiv (wr .u64 ((wr .u64 (BitVec.ofInt (IntKind.bits .u64) (Int.fdiv (wr .u64 ((wr .u64 (BitVec.ofInt (IntKind.bits .u64) (Int.fdiv x0 (2 ^ (min (Int.toNat 1) (IntKind.bits .u64)))) &&& BitVec.ofInt (IntKind.bits .u64) 6148914691236517205).toNat) + (wr .u64 (BitVec.ofInt (IntKind.bits .u64) x0 &&& BitVec.ofInt (IntKind.bits .u64) 6148914691236517205).toNat))) (2 ^ (min (Int.toNat 2) (IntKind.bits .u64)))) &&& BitVec.ofInt (IntKind.bits .u64) 3689348814741910323).toNat) + (wr .u64 (BitVec.ofInt (IntKind.bits .u64) (wr .u64 ((wr .u64 (BitVec.ofInt (IntKind.bits .u64) (Int.fdiv x0 (2 ^ (min (Int.toNat 1) (IntKind.bits .u64)))) &&& BitVec.ofInt (IntKind.bits .u64) 6148914691236517205).toNat) + (wr .u64 (BitVec.ofInt (IntKind.bits .u64) x0 &&& BitVec.ofInt (IntKind.bits .u64) 6148914691236517205).toNat))) &&& BitVec.ofInt (IntKind.bits .u64) 3689348814741910323).toNat))) (2 ^ (min (Int.toNat 4) (IntKind.bits .u64)))) + (wr .u64 ((wr .u64 (BitVec.ofInt (IntKind.bits .u64) (Int.fdiv (wr .u64 ((wr .u64 (BitVec.ofInt (IntKind.bits .u64) (Int.fdiv x0 (2 ^ (min (Int.toNat 1) (IntKind.bits .u64)))) &&& BitVec.ofInt (IntKind.bits .u64) 6148914691236517205).toNat) + (wr .u64 (BitVec.ofInt (IntKind.bits .u64) x0 &&& BitVec.ofInt (IntKind.bits .u64) 6148914691236517205).toNat))) (2 ^ (min (Int.toNat 2) (IntKind.bits .u64)))) &&& BitVec.ofInt (IntKind.bits .u64) 3689348814741910323).toNat) + (wr .u64 (BitVec.ofInt (IntKind.bits .u64) (wr .u64 ((wr .u64 (BitVec.ofInt (IntKind.bits .u64) (Int.fdiv x0 (2 ^ (min (Int.toNat 1) (IntKind.bits .u64)))) &&& BitVec.ofInt (IntKind.bits .u64) 6148914691236517205).toNat) + (wr .u64 (BitVec.ofInt (IntKind.bits .u64) x0 &&& BitVec.ofInt (IntKind.bits .u64) 6148914691236517205).toNat))) &&& BitVec.ofInt (IntKind.bits .u64) 3689348814741910323).toNat))))) &&& BitVec.ofInt (IntKind.bits .u64) 1085102592571150095).toNat) (2 ^ (min (Int.toNat 8) (IntKind.bits .u64)))))) (2 ^ (min (Int.toNat 16) (IntKind.bits .u64)))))) (2 ^ (min (Int.toNat 32) (IntKind.bits .u64))))))) &&& BitVec.ofInt (IntKind.bits .i64) 127).toNat))))))) := by kernel_rfl
theorem S82_run (n : Nat × Nat) (xs : pksDen pk82) : S82 n xs.1 = runG (E82 n) noScope c82 an82 (rtG rk82) (fun _ _ => none) (rtG rk82) (st0 pk82 xs Tryz.f82.ntmps) := by kernel_rfl
noncomputable def P82 (n : Nat × Nat) := phiOf pk82 rk82 (fun xs => S82 n xs.1)
theorem call82 : CallOK Tryz.prog 82 := callOK_of Tryz.func82 (by kernel_rfl) (by kernel_rfl)
theorem env82 (n : Nat × Nat) : EnvOK Tryz.prog (E82 n) := envOK0 noPhi_ok rfl rfl
theorem par82 (n : Nat × Nat) : EnvPar (E82 n) := envPar0 noPhi_par rfl
theorem FC82 (n : Nat × Nat) : FCs Tryz.prog 82 (P82 n) := phiOf_FCs fun xs r h vs hv => FC.of_runG tabOK eqsOK (env82 n) (par82 n) mixed (fun _ p _ => noScope_ok p.1 p.2) Tryz.func82 (c := c82) (an := an82) (pks := pk82) (rks := rk82) (by kernel_rfl) (by kernel_rfl) hv ((S82_run n xs).symm.trans h)
/- math/bits.OnesCount -/
abbrev R72 := Int
noncomputable def c72 : Code := bodyOf Tryz.f72
noncomputable def an72 : Ann := (.s .l (.s (.j [0] .l .l) .l))
def pk72 : List PK := [.c (.int .u64)]
def rk72 : List RK := [.c (.int .i64) 2]
noncomputable def rt72 (st : St) : Option R72 := rtG rk72 st
noncomputable def E72 (n : Nat × Nat) : Env := { T := tab, phi := (consPhi 82 (fun _ => true) (P82 n) noPhi), eff := fun _ => false, fuel := n.1, hold := n.2 }
noncomputable def S72 (n : Nat × Nat) (x0 : Int) : Option R72 := run (E72 n) c72 an72 rt72 (fun _ _ => none) rt72 { tm := [.c (.int .u64 x0), uu, uu, uu, uu, uu, uu, uu], hp := emp }
theorem S72_eq (n : Nat × Nat) (x0 : Int) : S72 n x0 =
 (S82 n x0).bind fun r1' =>
 some r1' := by kernel_rfl
theorem S72_run (n : Nat × Nat) (xs : pksDen pk72) : S72 n xs.1 = runG (E72 n) noScope c72 an72 (rtG rk72) (fun _ _ => none) (rtG rk72) (st0 pk72 xs Tryz.f72.ntmps) := by kernel_rfl
noncomputable def P72 (n : Nat × Nat) := phiOf pk72 rk72 (fun xs => S72 n xs.1)
theorem call72 : CallOK Tryz.prog 72 := callOK_of Tryz.func72 (by kernel_rfl) (by kernel_rfl)
theorem env72 (n : Nat × Nat) : EnvOK Tryz.prog (E72 n) := envOK0 (consPhi_ok (FC82 n) call82 noPhi_ok) rfl rfl
theorem par72 (n : Nat × Nat) : EnvPar (E72 n) := envPar0 (consPhi_par phiOf_Par1 noPhi_par) rfl
theorem FC72 (n : Nat × Nat) : FCs Tryz.prog 72 (P72 n) := phiOf_FCs fun xs r h vs hv => FC.of_runG tabOK eqsOK (env72 n) (par72 n) mixed (fun _ p _ => noScope_ok p.1 p.2) Tryz.func72 (c := c72) (an := an72) (pks := pk72) (rks := rk72) (by kernel_rfl) (by kernel_rfl) hv ((S72_run n xs).symm.trans h)
/- (headword/stand.floor).full -/
abbrev R64 := Bool
noncomputable def c64 : Code := bodyOf Tryz.f64
noncomputable def an64 : Ann := .l
def pk64 : List PK := [.c (.pair (.int .u64) .unit), .c (.int .i64), .c (.int .i64)]
def rk64 : List RK := [.c .bool 6]
noncomputable def rt64 (st : St) : Option R64 := rtG rk64 st
noncomputable def E64 (n : Nat × Nat) : Env := { T := tab, phi := (consPhi 72 (fun _ => true) (P72 n) noPhi), eff := fun _ => false, fuel := n.1, hold := n.2 }
noncomputable def S64 (n : Nat × Nat) (f0 : Int × Unit) (page1 : Int) (room2 : Int) : Option R64 := run (E64 n) c64 an64 rt64 (fun _ _ => none) rt64 { tm := [.agg [.int .u64 f0.1], .c (.int .i64 page1), .c (.int .i64 room2), uu, uu, uu, uu, uu, uu, uu, uu, uu, uu, uu, uu, uu, uu, uu, uu, uu], hp := emp }
theorem S64_eq (n : Nat × Nat) (f0 : Int × Unit) (page1 : Int) (room2 : Int) : S64 n f0 page1 room2 =
 (bif decide (page1 < 0) then none
 else ((bif (((wr .u64 (BitVec.ofInt (IntKind.bits .u64) (Int.fdiv f0.1 (2 ^ (min (Int.toNat page1) (IntKind.bits .u64)))) &&& BitVec.ofInt (IntKind.bits .u64) 1).toNat) == 0) == true) then (S72 n f0.1).bind fun r1' =>
 some (decide (r1' ≥ room2))
 else some false)).bind fun b2' =>
 some b2') := by kernel_rfl
theorem S64_run (n : Nat × Nat) (xs : pksDen pk64) : S64 n xs.1 xs.2.1 xs.2.2.1 = runG (E64 n) noScope c64 an64 (rtG rk64) (fun _ _ => none) (rtG rk64) (st0 pk64 xs Tryz.f64.ntmps) := by kernel_rfl
noncomputable def P64 (n : Nat × Nat) := phiOf pk64 rk64 (fun xs => S64 n xs.1 xs.2.1 xs.2.2.1)
theorem env64 (n : Nat × Nat) : EnvOK Tryz.prog (E64 n) := envOK0 (consPhi_ok (FC72 n) call72 noPhi_ok) rfl rfl
theorem par64 (n : Nat × Nat) : EnvPar (E64 n) := envPar0 (consPhi_par phiOf_Par1 noPhi_par) rfl
theorem FC64 (n : Nat × Nat) : FCs Tryz.prog 64 (P64 n) := phiOf_FCs fun xs r h vs hv => FC.of_runG tabOK eqsOK (env64 n) (par64 n) mixed (fun _ p _ => noScope_ok p.1 p.2) Tryz.func64 (c := c64) (an := an64) (pks := pk64) (rks := rk64) (by kernel_rfl) (by kernel_rfl) hv ((S64_run n xs).symm.trans h)
end Go.Proofs.YtkfkbebinhkdlaaGreatDoor
