/- Texts of this claim, joined: H61r to Co6. -/
import Derived.KernelRfl
import Derived.Test.YtjgmfdgpgdaclaaProg
import Derived.WalkKit
import Derived.Test.YtjgmfdgpgdaclaaP7
/-
  The reference's payments: the region that compares two.
-/
set_option linter.unusedVariables false
set_option linter.unusedSimpArgs false
set_option maxRecDepth 100000
namespace Go.Proofs.Ytjgmfdgpgdaclaa
open Go.RowKit Go.Shelf Go.Vi

noncomputable def c61 : Code := bodyOf Try.f61
noncomputable def r61_15 : Code := (cA (cB (cB (cA (cA (cB (cA (cA (cB (cA (cA (cB (cA (cA (cB (cA (cB (cA (cA (cB (cA (cA (cB (cA (cB (cB (cB c61)))))))))))))))))))))))))))
theorem below_acc {B : Nat} {Wc W w5 : World} (h : Below B Wc W) (hs : B ≤ W.heap.size) (k : Below W.heap.size W w5) : Below B Wc w5 := h.trans (k.mono hs)

theorem any_skip {n : Nat} {P : Program} {ops : Array Oper} {Q : Exit → Act → World → Prop} {md : Region.Mode} {i : Nat} {o : Oper} {fuel : Nat} {listed : Array Bool} {a : Act} {w : World} (hr : Region.ready md ops listed = [i]) (ho : ops[i]? = some o)
    (hw : Region.wanted o (yielded ops a.tmps) = false) (h : wpAnyIn Fence.wide n P md ops Q fuel (listed.setIfInBounds i true) (a.put o.dst undef) w) : wpAnyIn Fence.wide n P md ops Q (fuel + 1) listed a w :=
  wpAnyIn_ready hr (by simp) (AllReadyIn.cons ho (fun K' hK => by rw [if_neg (by rw [hw]; simp)]; exact ⟨fun _ _ => trivial, hK _ _ h⟩) AllReadyIn.nil)

section
attribute [local go_sem] Oper.semAt_some

set_option maxHeartbeats 16000000 in
theorem reg15a {n : Nat} {Wc : World} {N s x : Nat} (hx : x < s + 1) (q : Wc.cell? ⟨N, x, none⟩ = some (.slice none 0 0))
    {K : Act → World → Prop} {Q : Exit → Act → World → Prop} {x0 x1 x2 x3 x4 x5 x6 x7 x8 x11 x12 x13 x14 x15 x16 x17 x18 x19 x20 x21 x22 x23 x24 x25 x26 x27 x28 x29 x30 x31 x32 x33 x34 x35 x36 x37 x38 x39 x40 x41 x42 x43 x44 x45 x46 x47 x48 x49 x50 x51 x52 x53 x54 x55 x56 x57 x58 x59 x60 x61 x62 x63 x64 x65 x66 x67 x68 x69 x70 x71 x72 x73 x74 x75 x76 x77 x78 x79 x80 x81 x82 x83 x84 x85 x86 x87 x88 x89 x90 x91 x92 x93 x94 x95 x96 x97 x98 x99 x100 x101 x102 x103 : Value} {ds : List Deferred} (hR : K { tmps := #[x0, x1, x2, x3, x4, x5, x6, x7, x8, .slice (some ⟨N, 0, none⟩) (s + 1) (s + 1), .int .i64 (x : Nat), x11, x12, x13, x14, x15, x16, x17, x18, x19, x20, x21, x22, x23, x24, x25, x26, x27, x28, x29, x30, x31, x32, x33, x34, x35, x36, x37, x38, x39, x40, x41, x42, x43, x44, x45, x46, x47, x48, x49, x50, x51, x52, x53, x54, x55, x56, x57, x58, x59, x60, x61, x62, x63, x64, x65, x66, x67, .slice (some ⟨N, 0, none⟩) (s + 1) (s + 1), .int .i64 (x : Nat), .pointer (some ⟨N, x, none⟩), .slice none 0 0, .int .i64 0, .bool true, .bool true, undef, undef, undef, undef, undef, undef, undef, undef, undef, undef, .bool true, x86, x87, x88, x89, x90, x91, x92, x93, x94, x95, x96, x97, x98, x99, x100, x101, x102, x103], defers := ds } Wc.drew) :
    r61_15.wpIn Fence.wide n Try.prog (Exit.then K Q) { tmps := #[x0, x1, x2, x3, x4, x5, x6, x7, x8, .slice (some ⟨N, 0, none⟩) (s + 1) (s + 1), .int .i64 (x : Nat), x11, x12, x13, x14, x15, x16, x17, x18, x19, x20, x21, x22, x23, x24, x25, x26, x27, x28, x29, x30, x31, x32, x33, x34, x35, x36, x37, x38, x39, x40, x41, x42, x43, x44, x45, x46, x47, x48, x49, x50, x51, x52, x53, x54, x55, x56, x57, x58, x59, x60, x61, x62, x63, x64, x65, x66, x67, x68, x69, x70, x71, x72, x73, x74, x75, x76, x77, x78, x79, x80, x81, x82, x83, x84, x85, x86, x87, x88, x89, x90, x91, x92, x93, x94, x95, x96, x97, x98, x99, x100, x101, x102, x103], defers := ds } Wc := by
  refine wpIn_nrm (R := K) ?_ (fun _ _ h => h)
  unfold r61_15 c61
  simp only [cA, cB, bodyOf, Try.f61]
  refine wpIn_region_any (by kernel_rfl) ?_
  have step : ∀ {i : Nat} {oi : Oper} {u : Value} {fuel : Nat} {listed : Array Bool} {a : Act} {w : World} {ops : Array Oper}, ops[i]? = some oi → Region.noSelect ops = true → Region.free .any ops listed i = true → (Region.ready .any ops listed).contains i = true → YieldsFenced Try.prog ops oi u a →
      wpAnyIn Fence.wide n Try.prog .any ops (nrm K) fuel (listed.setIfInBounds i true) (a.put oi.dst u) w → wpAnyIn Fence.wide n Try.prog .any ops (nrm K) (fuel + 1) listed a w :=
    fun h1 h2 h3 h4 h5 h6 => wpAnyIn_take rfl h1 h2 h3 h4 (fun c a w h => h) h5 h6
  have q2 : Wc.drew.cell? ⟨N, x, none⟩ = some (.slice none 0 0) := q
  refine step (i := 0) (u := .slice (some ⟨N, 0, none⟩) (s + 1) (s + 1)) (fuel := 17) rfl (by kernel_rfl) (by kernel_rfl) (by kernel_rfl) ⟨.inl ⟨rfl, fun w => rfl⟩, fun w => rfl⟩ ?_
  refine step (i := 1) (u := .int .i64 x) (fuel := 16) rfl (by kernel_rfl) (by kernel_rfl) (by kernel_rfl) ⟨.inl ⟨rfl, fun w => rfl⟩, fun w => rfl⟩ ?_
  refine wpAnyIn_ready (rs := [2]) (by kernel_rfl) (by simp) (BigFrame.allReadyIn_want rfl (by kernel_rfl) ?_ AllReadyIn.nil)
  intro K' hK'
  simp only [List.getElem_toArray, List.getElem_cons_succ, List.getElem_cons_zero, Act.put, List.setIfInBounds_toArray, List.set_cons_succ, List.set_cons_zero]
  first | gi_big_move | gi_big_op
  refine hK' _ _ ?_
  clear hK'
  refine wpAnyIn_ready (rs := [3]) (by kernel_rfl) (by simp) (BigFrame.allReadyIn_want rfl (by kernel_rfl) ?_ AllReadyIn.nil)
  intro K' hK'
  simp only [List.getElem_toArray, List.getElem_cons_succ, List.getElem_cons_zero, Act.put, List.setIfInBounds_toArray, List.set_cons_succ, List.set_cons_zero]
  first | gi_big_move | gi_big_op
  refine hK' _ _ ?_
  clear hK'
  refine step (i := 4) (u := .int .i64 0) (fuel := 13) rfl (by kernel_rfl) (by kernel_rfl) (by kernel_rfl) ⟨.inl ⟨by kernel_rfl, fun w => by kernel_rfl⟩, fun w => by kernel_rfl⟩ ?_
  refine step (i := 5) (u := .bool true) (fuel := 12) rfl (by kernel_rfl) (by kernel_rfl) (by kernel_rfl) ⟨.inl ⟨by kernel_rfl, fun w => by kernel_rfl⟩, fun w => by kernel_rfl⟩ ?_
  refine step (i := 6) (u := .bool true) (fuel := 11) rfl (by kernel_rfl) (by kernel_rfl) (by kernel_rfl) ⟨.inl ⟨rfl, fun w => rfl⟩, fun w => rfl⟩ ?_
  refine step (i := 7) (u := undef) (fuel := 10) rfl (by kernel_rfl) (by kernel_rfl) (by kernel_rfl) ⟨.inr ⟨by kernel_rfl, rfl⟩, fun w => by kernel_rfl⟩ ?_
  refine step (i := 8) (u := undef) (fuel := 9) rfl (by kernel_rfl) (by kernel_rfl) (by kernel_rfl) ⟨.inr ⟨by kernel_rfl, rfl⟩, fun w => by kernel_rfl⟩ ?_
  refine step (i := 11) (u := undef) (fuel := 8) rfl (by kernel_rfl) (by kernel_rfl) (by kernel_rfl) ⟨.inr ⟨by kernel_rfl, rfl⟩, fun w => by kernel_rfl⟩ ?_
  refine step (i := 12) (u := undef) (fuel := 7) rfl (by kernel_rfl) (by kernel_rfl) (by kernel_rfl) ⟨.inr ⟨by kernel_rfl, rfl⟩, fun w => by kernel_rfl⟩ ?_
  refine step (i := 13) (u := undef) (fuel := 6) rfl (by kernel_rfl) (by kernel_rfl) (by kernel_rfl) ⟨.inr ⟨by kernel_rfl, rfl⟩, fun w => by kernel_rfl⟩ ?_
  refine step (i := 14) (u := undef) (fuel := 5) rfl (by kernel_rfl) (by kernel_rfl) (by kernel_rfl) ⟨.inr ⟨by kernel_rfl, rfl⟩, fun w => by kernel_rfl⟩ ?_
  refine any_skip (i := 9) (fuel := 4) (by kernel_rfl) rfl (by kernel_rfl) ?_
  refine step (i := 10) (u := undef) (fuel := 3) rfl (by kernel_rfl) (by kernel_rfl) (by kernel_rfl) ⟨.inr ⟨by kernel_rfl, rfl⟩, fun w => by kernel_rfl⟩ ?_
  refine any_skip (i := 15) (fuel := 2) (by kernel_rfl) rfl (by kernel_rfl) ?_
  refine step (i := 16) (u := undef) (fuel := 1) rfl (by kernel_rfl) (by kernel_rfl) (by kernel_rfl) ⟨.inr ⟨by kernel_rfl, rfl⟩, fun w => by kernel_rfl⟩ ?_
  refine step (i := 17) (u := .bool true) (fuel := 0) rfl (by kernel_rfl) (by kernel_rfl) (by kernel_rfl) ⟨.inl ⟨by kernel_rfl, fun w => by kernel_rfl⟩, fun w => by kernel_rfl⟩ ?_
  refine ⟨by kernel_rfl, ?_⟩
  refine (congrArg (fun a => K a Wc.drew) ?_).mp hR
  simp [Act.put]

theorem y_idx {A : Act} {o : Oper} {i j N x s : Nat} (ho : o.op = .indexAddr 75 (.tmp i) (.tmp j)) (h1 : A.eval (.tmp i) = .slice (some ⟨N, 0, none⟩) (s + 1) (s + 1)) (h2 : A.eval (.tmp j) = .int .i64 (x : Nat)) (hx : x < s + 1) (w : World) :
    (execOp A.eval o).run Try.prog w = .ok (.value (.pointer (some ⟨N, x, none⟩))) w := by
  have h1 : A.tmps[i]?.getD undef = .slice (some ⟨N, 0, none⟩) (s + 1) (s + 1) := by simpa [go_sem] using h1
  have h2 : A.tmps[j]?.getD undef = .int .i64 (x : Nat) := by simpa [go_sem] using h2
  have hx2 : ¬ ((s : Int) + 1 ≤ x) := by omega
  simp [go_sem, ho, h1, h2, hx, hx2]
theorem y_add {A : Act} {o : Oper} {i j : Nat} {x y : Int} (ho : o.op = .binOp .add 3 (.tmp i) (.tmp j) 3) (h1 : A.eval (.tmp i) = .int .i64 x) (h2 : A.eval (.tmp j) = .int .i64 y) (hx : 0 ≤ x ∧ x ≤ 100000) (hy : 0 ≤ y ∧ y ≤ 100000) (w : World) :
    (execOp A.eval o).run Try.prog w = .ok (.value (.int .i64 (x + y))) w := by
  have h1 : A.tmps[i]?.getD undef = .int .i64 x := by simpa [go_sem] using h1
  have h2 : A.tmps[j]?.getD undef = .int .i64 y := by simpa [go_sem] using h2
  have hw : IntKind.wrap .i64 (x + y) = x + y := by simp [IntKind.wrap, IntKind.signed, IntKind.bits]; omega
  simp [go_sem, ho, h1, h2, hw]
theorem y_eql {A : Act} {o : Oper} {i : Nat} {x : Int} (ho : o.op = .binOp .eql 3 (.tmp i) (.const (.int .i64 0)) 3) (h1 : A.eval (.tmp i) = .int .i64 x) (hx : 0 < x) (w : World) :
    (execOp A.eval o).run Try.prog w = .ok (.value (.bool false)) w := by
  have h1 : A.tmps[i]?.getD undef = .int .i64 x := by simpa [go_sem] using h1
  have h3 : ¬ x = 0 := by omega
  simp [go_sem, ho, h1, h3]
theorem y_lss {A : Act} {o : Oper} {i j : Nat} {x y : Int} (ho : o.op = .binOp .lss 3 (.tmp i) (.tmp j) 3) (h1 : A.eval (.tmp i) = .int .i64 x) (h2 : A.eval (.tmp j) = .int .i64 y) (w : World) :
    (execOp A.eval o).run Try.prog w = .ok (.value (.bool (decide (x < y)))) w := by
  have h1 : A.tmps[i]?.getD undef = .int .i64 x := by simpa [go_sem] using h1
  have h2 : A.tmps[j]?.getD undef = .int .i64 y := by simpa [go_sem] using h2
  simp [go_sem, ho, h1, h2]

set_option maxHeartbeats 16000000 in
theorem reg15b {n : Nat} (hn : 1 ≤ n) {Wc : World} {N s x r L cp : Nat} {m a b : Int} {lv : Value} (hx : x < s + 1) (hL : 0 < L) (hN : N < Wc.heap.size) (hm0 : 0 ≤ m) (hm1 : m ≤ 100000) (ha0 : 0 ≤ a) (ha1 : a ≤ 100000) (q : Wc.cell? ⟨N, x, none⟩ = some (.slice (some ⟨r, 0, none⟩) L cp))
    (h1 : ∀ W, Below Wc.heap.size Wc W → CallsIn Fence.wide (n - 1) Try.prog 70 #[lv] W fun e w' => e = .returned (.int .i64 a) ∧ Below W.heap.size W w')
    (h2 : ∀ W, Below Wc.heap.size Wc W → CallsIn Fence.wide (n - 1) Try.prog 70 #[.slice (some ⟨r, 0, none⟩) L cp] W fun e w' => e = .returned (.int .i64 b) ∧ Below W.heap.size W w')
    {K : Act → World → Prop} {Q : Exit → Act → World → Prop} {x0 x1 x2 x3 x4 x5 x6 x7 x8 x13 x14 x15 x16 x17 x18 x19 x20 x21 x22 x23 x24 x25 x26 x27 x28 x29 x30 x31 x32 x33 x34 x35 x36 x37 x38 x39 x40 x41 x42 x43 x44 x45 x46 x47 x48 x49 x50 x51 x52 x53 x54 x55 x56 x57 x58 x59 x60 x61 x62 x63 x64 x65 x66 x67 x68 x69 x70 x71 x72 x73 x74 x75 x76 x77 x78 x79 x80 x81 x82 x83 x84 x85 x86 x87 x88 x89 x90 x91 x92 x93 x94 x95 x96 x97 x98 x99 x100 x101 x102 x103 : Value} {ds : List Deferred} (hR : ∀ w', Below Wc.heap.size Wc w' → K { tmps := #[x0, x1, x2, x3, x4, x5, x6, x7, x8, .slice (some ⟨N, 0, none⟩) (s + 1) (s + 1), .int .i64 (x : Nat), .int .i64 m, lv, x13, x14, x15, x16, x17, x18, x19, x20, x21, x22, x23, x24, x25, x26, x27, x28, x29, x30, x31, x32, x33, x34, x35, x36, x37, x38, x39, x40, x41, x42, x43, x44, x45, x46, x47, x48, x49, x50, x51, x52, x53, x54, x55, x56, x57, x58, x59, x60, x61, x62, x63, x64, x65, x66, x67, .slice (some ⟨N, 0, none⟩) (s + 1) (s + 1), .int .i64 (x : Nat), .pointer (some ⟨N, x, none⟩), .slice (some ⟨r, 0, none⟩) L cp, .int .i64 L, .bool false, .bool false, .int .i64 m, lv, .int .i64 a, .int .i64 (m + a), .slice (some ⟨N, 0, none⟩) (s + 1) (s + 1), .int .i64 (x : Nat), .pointer (some ⟨N, x, none⟩), .slice (some ⟨r, 0, none⟩) L cp, .int .i64 b, .bool (decide (m + a < b)), .bool (decide (m + a < b)), x86, x87, x88, x89, x90, x91, x92, x93, x94, x95, x96, x97, x98, x99, x100, x101, x102, x103], defers := ds } w') :
    r61_15.wpIn Fence.wide n Try.prog (Exit.then K Q) { tmps := #[x0, x1, x2, x3, x4, x5, x6, x7, x8, .slice (some ⟨N, 0, none⟩) (s + 1) (s + 1), .int .i64 (x : Nat), .int .i64 m, lv, x13, x14, x15, x16, x17, x18, x19, x20, x21, x22, x23, x24, x25, x26, x27, x28, x29, x30, x31, x32, x33, x34, x35, x36, x37, x38, x39, x40, x41, x42, x43, x44, x45, x46, x47, x48, x49, x50, x51, x52, x53, x54, x55, x56, x57, x58, x59, x60, x61, x62, x63, x64, x65, x66, x67, x68, x69, x70, x71, x72, x73, x74, x75, x76, x77, x78, x79, x80, x81, x82, x83, x84, x85, x86, x87, x88, x89, x90, x91, x92, x93, x94, x95, x96, x97, x98, x99, x100, x101, x102, x103], defers := ds } Wc := by
  refine wpIn_nrm (R := K) ?_ (fun _ _ h => h)
  unfold r61_15 c61
  simp only [cA, cB, bodyOf, Try.f61]
  refine wpIn_region_any (by kernel_rfl) ?_
  have step : ∀ {i : Nat} {oi : Oper} {u : Value} {fuel : Nat} {listed : Array Bool} {a : Act} {w : World} {ops : Array Oper}, ops[i]? = some oi → Region.noSelect ops = true → Region.free .any ops listed i = true → (Region.ready .any ops listed).contains i = true → YieldsFenced Try.prog ops oi u a →
      wpAnyIn Fence.wide n Try.prog .any ops (nrm K) fuel (listed.setIfInBounds i true) (a.put oi.dst u) w → wpAnyIn Fence.wide n Try.prog .any ops (nrm K) (fuel + 1) listed a w :=
    fun h1 h2 h3 h4 h5 h6 => wpAnyIn_take rfl h1 h2 h3 h4 (fun c a w h => h) h5 h6
  have hB0 : Below Wc.heap.size Wc Wc.drew := (Below.refl _ _).drew
  have q2 : Wc.drew.cell? ⟨N, x, none⟩ = some (.slice (some ⟨r, 0, none⟩) L cp) := q
  refine step (i := 0) (u := .slice (some ⟨N, 0, none⟩) (s + 1) (s + 1)) (fuel := 17) rfl (by kernel_rfl) (by kernel_rfl) (by kernel_rfl) ⟨.inl ⟨by kernel_rfl, fun w => by kernel_rfl⟩, fun w => by kernel_rfl⟩ ?_
  refine step (i := 1) (u := .int .i64 (x : Nat)) (fuel := 16) rfl (by kernel_rfl) (by kernel_rfl) (by kernel_rfl) ⟨.inl ⟨by kernel_rfl, fun w => by kernel_rfl⟩, fun w => by kernel_rfl⟩ ?_
  refine step (i := 2) (u := .pointer (some ⟨N, x, none⟩)) (fuel := 15) rfl (by kernel_rfl) (by kernel_rfl) (by kernel_rfl) ⟨.inl ⟨by kernel_rfl, y_idx rfl (by kernel_rfl) (by kernel_rfl) hx⟩, fun w => by kernel_rfl⟩ ?_
  refine wpAnyIn_ready (rs := [3]) (by kernel_rfl) (by simp) (BigFrame.allReadyIn_want rfl (by kernel_rfl) ?_ AllReadyIn.nil)
  intro K1 hK1
  simp only [List.getElem_toArray, List.getElem_cons_succ, List.getElem_cons_zero, Act.put, List.setIfInBounds_toArray, List.set_cons_succ, List.set_cons_zero]
  first | gi_big_move | gi_big_op
  refine hK1 _ _ ?_
  clear hK1
  refine step (i := 4) (u := .int .i64 L) (fuel := 13) rfl (by kernel_rfl) (by kernel_rfl) (by kernel_rfl) ⟨.inl ⟨by kernel_rfl, fun w => by kernel_rfl⟩, fun w => by kernel_rfl⟩ ?_
  refine step (i := 5) (u := .bool false) (fuel := 12) rfl (by kernel_rfl) (by kernel_rfl) (by kernel_rfl) ⟨.inl ⟨by kernel_rfl, y_eql (x := (L : Int)) rfl (by kernel_rfl) (by omega)⟩, fun w => by kernel_rfl⟩ ?_
  refine step (i := 6) (u := .bool false) (fuel := 11) rfl (by kernel_rfl) (by kernel_rfl) (by kernel_rfl) ⟨.inl ⟨by kernel_rfl, fun w => by kernel_rfl⟩, fun w => by kernel_rfl⟩ ?_
  refine step (i := 7) (u := .int .i64 m) (fuel := 10) rfl (by kernel_rfl) (by kernel_rfl) (by kernel_rfl) ⟨.inl ⟨by kernel_rfl, fun w => by kernel_rfl⟩, fun w => by kernel_rfl⟩ ?_
  refine step (i := 8) (u := lv) (fuel := 9) rfl (by kernel_rfl) (by kernel_rfl) (by kernel_rfl) ⟨.inl ⟨by kernel_rfl, fun w => by kernel_rfl⟩, fun w => by kernel_rfl⟩ ?_
  refine step (i := 11) (u := .slice (some ⟨N, 0, none⟩) (s + 1) (s + 1)) (fuel := 8) rfl (by kernel_rfl) (by kernel_rfl) (by kernel_rfl) ⟨.inl ⟨by kernel_rfl, fun w => by kernel_rfl⟩, fun w => by kernel_rfl⟩ ?_
  refine step (i := 12) (u := .int .i64 (x : Nat)) (fuel := 7) rfl (by kernel_rfl) (by kernel_rfl) (by kernel_rfl) ⟨.inl ⟨by kernel_rfl, fun w => by kernel_rfl⟩, fun w => by kernel_rfl⟩ ?_
  refine step (i := 13) (u := .pointer (some ⟨N, x, none⟩)) (fuel := 6) rfl (by kernel_rfl) (by kernel_rfl) (by kernel_rfl) ⟨.inl ⟨by kernel_rfl, y_idx rfl (by kernel_rfl) (by kernel_rfl) hx⟩, fun w => by kernel_rfl⟩ ?_
  refine wpAnyIn_ready (rs := [9, 14]) (by kernel_rfl) (by simp) (BigFrame.allReadyIn_want rfl (by kernel_rfl) ?_ (BigFrame.allReadyIn_want rfl (by kernel_rfl) ?_ AllReadyIn.nil))
  · intro K1 hK1
    simp only [List.getElem_toArray, List.getElem_cons_succ, List.getElem_cons_zero, Act.put, List.setIfInBounds_toArray, List.set_cons_succ, List.set_cons_zero]
    gi_wp2; refine ⟨trivial, (h1 _ (by assumption)).mono ?_⟩; rintro e w5 ⟨rfl, hB5⟩
    refine hK1 _ _ ?_
    clear hK1
    have hB7 : Below Wc.heap.size Wc _ := below_acc (by assumption) (Below.size (by assumption)) hB5
    clear hB5
    have q3 : w5.cell? ⟨N, x, none⟩ = some (.slice (some ⟨r, 0, none⟩) L cp) := (hB7.cell (p := ⟨N, x, none⟩) hN).trans q
    clear hB0 q2
    refine step (i := 10) (u := .int .i64 (m + a)) (fuel := 4) rfl (by kernel_rfl) (by kernel_rfl) (by kernel_rfl) ⟨.inl ⟨by kernel_rfl, y_add rfl (by kernel_rfl) (by kernel_rfl) ⟨hm0, hm1⟩ ⟨ha0, ha1⟩⟩, fun w => by kernel_rfl⟩ ?_
    refine wpAnyIn_ready (rs := [14]) (by kernel_rfl) (by simp) (BigFrame.allReadyIn_want rfl (by kernel_rfl) ?_ AllReadyIn.nil)
    intro K1 hK1
    simp only [List.getElem_toArray, List.getElem_cons_succ, List.getElem_cons_zero, Act.put, List.setIfInBounds_toArray, List.set_cons_succ, List.set_cons_zero]
    first | gi_big_move | gi_big_op
    refine hK1 _ _ ?_
    clear hK1
    refine wpAnyIn_ready (rs := [15]) (by kernel_rfl) (by simp) (BigFrame.allReadyIn_want rfl (by kernel_rfl) ?_ AllReadyIn.nil)
    intro K1 hK1
    simp only [List.getElem_toArray, List.getElem_cons_succ, List.getElem_cons_zero, Act.put, List.setIfInBounds_toArray, List.set_cons_succ, List.set_cons_zero]
    gi_wp2; refine ⟨trivial, (h2 _ (by assumption)).mono ?_⟩; rintro e w5 ⟨rfl, hB5⟩
    refine hK1 _ _ ?_
    clear hK1
    have hB8 : Below Wc.heap.size Wc _ := below_acc (by assumption) (Below.size (by assumption)) hB5
    clear hB5
    clear hB7
    refine step (i := 16) (u := .bool (decide (m + a < b))) (fuel := 1) rfl (by kernel_rfl) (by kernel_rfl) (by kernel_rfl) ⟨.inl ⟨by kernel_rfl, y_lss rfl (by kernel_rfl) (by kernel_rfl)⟩, fun w => by kernel_rfl⟩ ?_
    refine step (i := 17) (u := .bool (decide (m + a < b))) (fuel := 0) rfl (by kernel_rfl) (by kernel_rfl) (by kernel_rfl) ⟨.inl ⟨by kernel_rfl, fun w => by kernel_rfl⟩, fun w => by kernel_rfl⟩ ?_
    refine ⟨by kernel_rfl, ?_⟩
    refine (congrArg (fun a => K a _) ?_).mp (hR _ (by assumption))
    simp [Act.put]
  · intro K1 hK1
    simp only [List.getElem_toArray, List.getElem_cons_succ, List.getElem_cons_zero, Act.put, List.setIfInBounds_toArray, List.set_cons_succ, List.set_cons_zero]
    first | gi_big_move | gi_big_op
    refine hK1 _ _ ?_
    clear hK1
    refine wpAnyIn_ready (rs := [9]) (by kernel_rfl) (by simp) (BigFrame.allReadyIn_want rfl (by kernel_rfl) ?_ AllReadyIn.nil)
    intro K1 hK1
    simp only [List.getElem_toArray, List.getElem_cons_succ, List.getElem_cons_zero, Act.put, List.setIfInBounds_toArray, List.set_cons_succ, List.set_cons_zero]
    gi_wp2; refine ⟨trivial, (h1 _ (by assumption)).mono ?_⟩; rintro e w5 ⟨rfl, hB5⟩
    refine hK1 _ _ ?_
    clear hK1
    have hB7 : Below Wc.heap.size Wc _ := below_acc (by assumption) (Below.size (by assumption)) hB5
    clear hB5
    clear hB0 q2
    refine step (i := 10) (u := .int .i64 (m + a)) (fuel := 3) rfl (by kernel_rfl) (by kernel_rfl) (by kernel_rfl) ⟨.inl ⟨by kernel_rfl, y_add rfl (by kernel_rfl) (by kernel_rfl) ⟨hm0, hm1⟩ ⟨ha0, ha1⟩⟩, fun w => by kernel_rfl⟩ ?_
    refine wpAnyIn_ready (rs := [15]) (by kernel_rfl) (by simp) (BigFrame.allReadyIn_want rfl (by kernel_rfl) ?_ AllReadyIn.nil)
    intro K1 hK1
    simp only [List.getElem_toArray, List.getElem_cons_succ, List.getElem_cons_zero, Act.put, List.setIfInBounds_toArray, List.set_cons_succ, List.set_cons_zero]
    gi_wp2; refine ⟨trivial, (h2 _ (by assumption)).mono ?_⟩; rintro e w5 ⟨rfl, hB5⟩
    refine hK1 _ _ ?_
    clear hK1
    have hB8 : Below Wc.heap.size Wc _ := below_acc (by assumption) (Below.size (by assumption)) hB5
    clear hB5
    clear hB7
    refine step (i := 16) (u := .bool (decide (m + a < b))) (fuel := 1) rfl (by kernel_rfl) (by kernel_rfl) (by kernel_rfl) ⟨.inl ⟨by kernel_rfl, y_lss rfl (by kernel_rfl) (by kernel_rfl)⟩, fun w => by kernel_rfl⟩ ?_
    refine step (i := 17) (u := .bool (decide (m + a < b))) (fuel := 0) rfl (by kernel_rfl) (by kernel_rfl) (by kernel_rfl) ⟨.inl ⟨by kernel_rfl, fun w => by kernel_rfl⟩, fun w => by kernel_rfl⟩ ?_
    refine ⟨by kernel_rfl, ?_⟩
    refine (congrArg (fun a => K a _) ?_).mp (hR _ (by assumption))
    simp [Act.put]

end
end Go.Proofs.Ytjgmfdgpgdaclaa
/-
  The reference's payments: the walk.
-/
set_option linter.unusedVariables false
set_option linter.unusedSimpArgs false
set_option maxRecDepth 100000
namespace Go.Proofs.Ytjgmfdgpgdaclaa
open Go.RowKit Go.Shelf

/-- One payment more, from a payment of what is left. -/
def upd61 (l cur : List Int) (k : Nat) (n : Int) : List Int := if l = [] then cur else if cur = [] ∨ n + tot l < tot cur then l.set k n else cur
def qst61 (f : Int → List Int) (k : Nat) (q c x : Int) : Nat → Int → List Int → List Int
  | 0, _, cur => cur
  | m + 1, n, cur => if n ≤ q ∧ n * c ≤ x then qst61 f k q c x m (n + 1) (upd61 (f (x - n * c)) cur k n) else cur
def tb61 (L : Nat) : List Int → List Int → Nat → Int → List Int
  | [], _, _, x => if x = 0 then List.replicate L 0 else []
  | c :: l, ps, k, x => qst61 (tb61 L l ps.tail (k + 1)) k (ps.headD 0) c x (x.toNat + 1) 0 []
def Okl (L : Nat) (l : List Int) : Prop := l = [] ∨ (l.length = L ∧ ∀ y ∈ l, 0 ≤ y ∧ y ≤ 200)
theorem upd61_ok {L : Nat} {l cur : List Int} {k : Nat} {n : Int} (h1 : Okl L l) (h2 : Okl L cur) (hn : 0 ≤ n ∧ n ≤ 200) : Okl L (upd61 l cur k n) := by
  unfold upd61
  split
  · exact h2
  · rename_i hl
    split
    · rcases h1 with h1 | ⟨h1, h3⟩
      · exact absurd h1 hl
      · refine .inr ⟨by simpa using h1, fun y hy => ?_⟩
        rcases List.mem_or_eq_of_mem_set hy with h | h
        · exact h3 y h
        · rw [h]; exact hn
    · exact h2
theorem qst61_ok {L : Nat} {f : Int → List Int} {k : Nat} {q c x : Int} (hf : ∀ y, 0 ≤ y → Okl L (f y)) (hq : q ≤ 200) : ∀ (m : Nat) (n : Int) (cur : List Int), 0 ≤ n → Okl L cur → Okl L (qst61 f k q c x m n cur)
  | 0, _, _, _, h => h
  | m + 1, n, cur, hn, h => by
    unfold qst61
    split
    · rename_i hc
      exact qst61_ok hf hq m (n + 1) _ (by omega) (upd61_ok (hf _ (by omega)) h ⟨hn, by omega⟩)
    · exact h
theorem tb61_ok {L : Nat} : ∀ (l ps : List Int) (k : Nat), (∀ q ∈ ps, 0 ≤ q ∧ q ≤ 200) → ∀ x, 0 ≤ x → Okl L (tb61 L l ps k x)
  | [], _, _, _, x, _ => by
    unfold tb61
    split
    · exact .inr ⟨by simp, fun y hy => by rw [List.eq_of_mem_replicate hy]; omega⟩
    · exact .inl rfl
  | c :: l, ps, k, hp, x, hx => by
    unfold tb61
    refine qst61_ok (fun y hy => tb61_ok l ps.tail (k + 1) (fun q hq => hp q (List.mem_of_mem_tail hq)) y hy) ?_ _ 0 [] (Int.le_refl _) (.inl rfl)
    cases ps with
    | nil => simp
    | cons q ps => exact (hp q (by simp)).2
theorem qst61_stop {f : Int → List Int} {k : Nat} {q c x n : Int} {cur : List Int} (h : ¬ (n ≤ q ∧ n * c ≤ x)) (m : Nat) : qst61 f k q c x m n cur = cur := by
  cases m with
  | zero => rfl
  | succ m => unfold qst61; rw [if_neg h]
theorem qst61_go {f : Int → List Int} {k : Nat} {q c x n : Int} {cur : List Int} (h1 : n ≤ q) (h2 : n * c ≤ x) (m : Nat) : qst61 f k q c x (m + 1) n cur = qst61 f k q c x m (n + 1) (upd61 (f (x - n * c)) cur k n) := by
  rw [qst61, if_pos ⟨h1, h2⟩]
theorem row_next61 {F : Nat → List Int} {x : Nat} {cv : List Int} (h : cv = F x) (y : Nat) : (if y < x then F y else if y = x then cv else []) = if y < x + 1 then F y else [] := by
  by_cases h1 : y < x
  · rw [if_pos h1, if_pos (by omega)]
  · rw [if_neg h1]
    by_cases h2 : y = x
    · subst h2
      rw [if_pos rfl, if_pos (by omega), h]
    · rw [if_neg h2, if_neg (by omega)]
theorem tot_nn61 : ∀ {l : List Int} {M : Int}, (∀ y ∈ l, 0 ≤ y ∧ y ≤ M) → 0 ≤ tot l ∧ tot l ≤ M * l.length
  | [], M, _ => by simp [tot]
  | c :: l, M, h => by
    have h1 := tot_nn61 (l := l) (fun y hy => h y (by simp [hy]))
    have h2 := h c (by simp)
    have h3 : M * ((c :: l).length : Int) = M * l.length + M := by rw [List.length_cons, Int.natCast_add, Int.mul_add]; simp
    simp only [tot]
    omega

/-- The rows of a table: each one is empty or lies in a block of its own. -/
def Rows61 (L s B N lo : Nat) (f : Nat → List Int) (cur : Array Value) (W : World) : Prop :=
  ∀ x, x ≤ s → (f x = [] ∧ cur[x]? = some (.slice none 0 0)) ∨ ((f x).length = L ∧ ∃ ρ cp, cur[x]? = some (.slice (some ⟨ρ, 0, none⟩) L cp) ∧ lo ≤ ρ ∧ ρ ≠ B ∧ ρ ≠ N ∧ Row W ρ cp L (fun i => (f x)[i]?.getD 0))
theorem Rows61.map {L s B N B' N' lo : Nat} {f g : Nat → List Int} {cur : Array Value} {W W' : World} (h : Rows61 L s B N lo f cur W) (hfg : ∀ x, x ≤ s → f x = g x)
    (hr : ∀ ρ cp g, lo ≤ ρ → ρ ≠ B → ρ ≠ N → Row W ρ cp L g → ρ ≠ B' ∧ ρ ≠ N' ∧ Row W' ρ cp L g) : Rows61 L s B' N' lo g cur W' := fun x hx => by
  rw [← hfg x hx]
  rcases h x hx with h1 | ⟨h1, ρ, cp, h2, h3, h4, h5, h6⟩
  · exact .inl h1
  · obtain ⟨a, b, c⟩ := hr ρ cp _ h3 h4 h5 h6
    exact .inr ⟨h1, ρ, cp, h2, h3, a, b, c⟩
theorem Rows61.below {L s B N lo : Nat} {f : Nat → List Int} {cur : Array Value} {W W' : World} (h : Rows61 L s B N lo f cur W) (hB : Below W.heap.size W W') : Rows61 L s B N lo f cur W' :=
  h.map (fun _ _ => rfl) fun ρ cp g _ a b r => ⟨a, b, r.below hB r.lt⟩

/-- In the midst of a round: B the table so far, N the new one. -/
structure St61 (w : World) (L s B N : Nat) (cb cn : Array Value) (f g : Nat → List Int) (W : World) : Prop where
  bb : Blk W B cb 22
  sb : cb.size = s + 1
  nb : Blk W N cn 22
  sn : cn.size = s + 1
  rb : Rows61 L s B N w.heap.size f cb W
  rn : Rows61 L s B N w.heap.size g cn W
  low : Below w.heap.size w W
  hB : w.heap.size ≤ B
  hN : w.heap.size ≤ N
  hBN : B ≠ N
theorem St61.below {w : World} {L s B N : Nat} {cb cn : Array Value} {f g : Nat → List Int} {W W' : World} (h : St61 w L s B N cb cn f g W) (hB : Below W.heap.size W W') : St61 w L s B N cb cn f g W' :=
  ⟨h.bb.below hB h.bb.lt, h.sb, h.nb.below hB h.nb.lt, h.sn, h.rb.below hB, h.rn.below hB, h.low.trans (hB.mono (Nat.le_trans h.hB (Nat.le_of_lt h.bb.lt))), h.hB, h.hN, h.hBN⟩
theorem St61.congr {w : World} {L s B N : Nat} {cb cn : Array Value} {f g g' : Nat → List Int} {W : World} (h : St61 w L s B N cb cn f g W) (e : ∀ x, x ≤ s → g x = g' x) : St61 w L s B N cb cn f g' W :=
  ⟨h.bb, h.sb, h.nb, h.sn, h.rb, h.rn.map e fun ρ cp g _ a b r => ⟨a, b, r⟩, h.low, h.hB, h.hN, h.hBN⟩

theorem row_of61 {w1 : World} {L r cp : Nat} {cur : Array Value} {l : List Int} (hgg : Blk w1 r cur 3) (hlc : L ≤ cp) (hsz : cp ≤ cur.size) (htk : cur.toList.take L = l.map (Value.int .i64)) (hll : l.length = L) : Row w1 r cp L (fun i => l[i]?.getD 0) :=
  ⟨cur, 3, hgg, hlc, hsz, fun i hi => by
    have h1 := congrArg (fun l => l[i]?) htk
    simp only [List.getElem?_take, if_pos hi, List.getElem?_map] at h1
    rw [← Array.getElem?_toList, h1]
    show _ = some (Value.int .i64 (l[i]?.getD 0))
    rw [List.getElem?_eq_getElem (by omega)]
    rfl⟩
theorem put_congr61 {F : Nat → List Int} {x : Nat} {cv nv : List Int} (y : Nat) : (if y = x then nv else if y < x then F y else if y = x then cv else []) = if y < x then F y else if y = x then nv else [] := by
  by_cases e : y = x
  · subst e
    rw [if_pos rfl, if_neg (Nat.lt_irrefl y), if_pos rfl]
  · rw [if_neg e, if_neg e, if_neg e]
theorem St61.put {w : World} {L s B N : Nat} {cb cn : Array Value} {f g : Nat → List Int} {wl w1 : World} (hS : St61 w L s B N cb cn f g wl) {x r cp : Nat} {cur : Array Value} {l : List Int} (hx : x ≤ s) (hgrow : (wl.alloc (.cells #[] 3)).grownBy w1 (some wl.heap.size)) (hr : wl.heap.size ≤ r)
    (hgg : Blk w1 r cur 3) (hlc : L ≤ cp) (hsz : cp ≤ cur.size) (htk : cur.toList.take L = l.map (Value.int .i64)) (hll : l.length = L) (k : Nat) (n : Int) :
    St61 w L s B N cb (cn.setIfInBounds x (.slice (some ⟨r, 0, none⟩) L cp)) f (fun y => if y = x then l.set k n else g y) ((w1.setCell ⟨N, x, none⟩ (.slice (some ⟨r, 0, none⟩) L cp)).setCell ⟨r, k, none⟩ (.int .i64 n)) := by
  have hbl := hS.bb.lt
  have hnl := hS.nb.lt
  have hBw := hS.hB
  have hNw := hS.hN
  have kb : ∀ {b : Nat} {c : Array Value} {t : TypeId}, Blk wl b c t → Blk w1 b c t := fun {b c t} h => (h.alloc _).kept hgrow (by have := h.lt; simp; omega)
  have kr : ∀ {ρ c : Nat} {g : Nat → Int}, Row wl ρ c L g → ρ ≠ N → Row ((w1.setCell ⟨N, x, none⟩ (.slice (some ⟨r, 0, none⟩) L cp)).setCell ⟨r, k, none⟩ (.int .i64 n)) ρ c L g := fun {ρ c g} h hne =>
    ((((h.kept (World.grownBy_alloc _ _ none) (by simp)).kept hgrow (by have := h.lt; simp; omega)).other x _ hne).other k _ (by have := h.lt; omega))
  have hrow := row_of61 hgg hlc hsz htk hll
  refine ⟨(kb hS.bb |>.other x _ hS.hBN).other k _ (by omega), hS.sb, ((kb hS.nb).set x _).other k _ (by omega), by rw [Array.size_setIfInBounds]; exact hS.sn, ?_, fun y hy => ?_, ?_, hS.hB, hS.hN, hS.hBN⟩
  · exact hS.rb.map (fun _ _ => rfl) fun ρ cp g _ a b h => ⟨a, b, kr h b⟩
  · by_cases e : y = x
    · subst e
      right
      simp only [if_true]
      refine ⟨by simpa using hll, r, cp, Array.getElem?_setIfInBounds_self_of_lt (by rw [hS.sn]; omega), by omega, by omega, by omega, ((hrow.other y _ (by omega)).set k n).congr fun j hj => ?_⟩
      rw [List.getElem?_set]
      by_cases e2 : j = k
      · subst e2
        rw [if_pos rfl, if_pos rfl, if_pos (by omega)]
        rfl
      · rw [if_neg e2, if_neg (fun h => e2 h.symm)]
    · simp only [if_neg e]
      rcases hS.rn y hy with ⟨g1, g2⟩ | ⟨g1, ρ, cp', g2, g3, g4, g5, g6⟩
      · exact .inl ⟨g1, by rw [Array.getElem?_setIfInBounds_ne (fun h => e h.symm)]; exact g2⟩
      · exact .inr ⟨g1, ρ, cp', by rw [Array.getElem?_setIfInBounds_ne (fun h => e h.symm)]; exact g2, g3, g4, g5, kr g6 g5⟩
  · exact ((((hS.low.alloc (by omega) _).grown hgrow (by simp; omega) (fun k e => by cases e; omega)).setCell (p := ⟨N, x, none⟩) hNw _)).setCell (p := ⟨r, k, none⟩) (by show w.heap.size ≤ r; omega) _
theorem own_made61 (wl : World) : (wl.alloc (.cells #[] 3)).ownsRow wl.heap.size 3 1 (.slice (some ⟨wl.heap.size, 0, none⟩) 0 0) 0 [] := by
  refine ⟨rfl, .inr ⟨wl.heap.size, 0, #[], rfl, Nat.le_refl _, ?_, Nat.le_refl _, Nat.zero_le _, rfl, rfl⟩⟩
  exact Blk.new wl #[] 3

section
attribute [local go_sem] Oper.semAt_some

set_option maxHeartbeats 8000000 in
theorem paid_in (n : Nat) (hn : 3 ≤ n)
    (b off cap b' off' cap' : Nat) (zs ps : List Int) (s : Nat) (w : World) (hb : b < w.heap.size) (hb' : b' < w.heap.size)
    (hcs : ∀ j (h : j < zs.length), w.cell? ⟨b, off + j, none⟩ = some (.int .i64 zs[j])) (hps : ∀ j (h : j < ps.length), w.cell? ⟨b', off' + j, none⟩ = some (.int .i64 ps[j]))
    (h0 : 0 < zs.length) (hl : zs.length ≤ 6) (hpl : ps.length = zs.length) (hcc : ∀ c ∈ zs, 1 ≤ c ∧ c ≤ 40) (hpp : ∀ q ∈ ps, 0 ≤ q ∧ q ≤ 200) (hs1 : s ≤ 200)
    (htot : ∀ W (l : List Int) r cp, Row W r cp zs.length (fun i => l[i]?.getD 0) → l.length = zs.length → (∀ y ∈ l, 0 ≤ y ∧ y ≤ 200) → CallsIn Fence.wide (n - 1) Try.prog 70 #[.slice (some ⟨r, 0, none⟩) zs.length cp] W fun e w' => e = .returned (.int .i64 (tot l)) ∧ Below W.heap.size W w') :
    CallsIn Fence.wide n Try.prog 61 #[.slice (some ⟨b, off, none⟩) zs.length cap, .slice (some ⟨b', off', none⟩) zs.length cap', .int .i64 s] w fun e w' => Below w.heap.size w w' ∧
      ((tb61 zs.length zs ps 0 s = [] ∧ e = .returned (.slice none 0 0)) ∨
        ((tb61 zs.length zs ps 0 s).length = zs.length ∧ ∃ ρ cp, e = .returned (.slice (some ⟨ρ, 0, none⟩) zs.length cp) ∧ w.heap.size ≤ ρ ∧ Row w' ρ cp zs.length (fun i => (tb61 zs.length zs ps 0 s)[i]?.getD 0))) := by
  have h1 : 1 ≤ n := by omega
  have hmk : ∀ W : World, (Instr.makeSlice 75 (.int .i64 ((s : Int) + 1)) (.int .i64 ((s : Int) + 1))).run Try.prog W = .ok (.slice (some ⟨W.heap.size, 0, none⟩) (s + 1) (s + 1)) (W.alloc (.cells (List.replicate (s + 1) (Value.slice none 0 0)).toArray 22)) := fun W => by
    obtain ⟨i0, hi, hz0, hz1, hz2⟩ := info_parts (show (Try.prog.info? 22).map (fun i => (i.zero, i.size, i.bytes)) = some (some (.slice none 0 0), 1, 24) by kernel_rfl)
    have h := run_make (P := Try.prog) W 75 22 i0 (.slice none 0 0) (by kernel_rfl) hi hz0 .i64 .i64 ((s : Int) + 1) ((s : Int) + 1) (by omega) (Int.le_refl _) (by rw [hz2]; omega) (by omega)
    have e1 : ((s : Int) + 1).toNat = s + 1 := by omega
    simp only [e1, hz1, Nat.mul_one] at h
    rw [h]
    have : madeCells (Value.slice none 0 0).cells (s + 1) = (List.replicate (s + 1) (Value.slice none 0 0)).toArray := by
      apply Array.toList_inj.1
      rw [show (Value.slice none 0 0).cells = #[.slice none 0 0] from rfl, toList_madeCells_one]
    rw [this]
  have hmk2 : ∀ W : World, (Instr.makeSlice 22 (.int .i64 (zs.length : Int)) (.int .i64 (zs.length : Int))).run Try.prog W = .ok (.slice (some ⟨W.heap.size, 0, none⟩) zs.length zs.length) (W.alloc (.cells (List.replicate zs.length (Value.int .i64 0)).toArray 3)) := fun W => by
    obtain ⟨i0, hi, hz0, hz1, hz2⟩ := info_parts (show (Try.prog.info? 3).map (fun i => (i.zero, i.size, i.bytes)) = some (some (.int .i64 0), 1, 8) by kernel_rfl)
    have h := run_make (P := Try.prog) W 22 3 i0 (.int .i64 0) (by kernel_rfl) hi hz0 .i64 .i64 (zs.length : Int) (zs.length : Int) (by omega) (Int.le_refl _) (by rw [hz2]; omega) (by omega)
    have e1 : (zs.length : Int).toNat = zs.length := by omega
    simp only [e1, hz1, Nat.mul_one] at h
    rw [h]
    have : madeCells (Value.int .i64 0).cells zs.length = (List.replicate zs.length (Value.int .i64 0)).toArray := by
      apply Array.toList_inj.1
      rw [show (Value.int .i64 0).cells = #[.int .i64 0] from rfl, toList_madeCells_one]
    rw [this]
  obtain ⟨i0, hi0, hz0, hz1, hz2⟩ := info_parts (show (Try.prog.info? 3).map (fun i => (i.zero, i.size, i.bytes)) = some (some (.int .i64 0), 1, 8) by kernel_rfl)
  have hu22 : Try.prog.underlying 22 = some (.slice 3) := by kernel_rfl
  refine callsIn_of_wp Try.func61 rfl trivial ?_ rfl
  simp only [Try.ntmps61, List.size_toArray, List.length_cons, List.length_nil, Nat.reduceAdd, Nat.reduceSub, Array.replicate_succ, Array.replicate_zero, List.push_toArray, List.append_toArray, List.nil_append, List.cons_append]
  gi_wp2
  generalize hW0 : World.alloc (World.alloc w _) _ = W0
  have b0 : Blk W0 w.heap.size ((Array.replicate (s + 1) (Value.slice none 0 0)).setIfInBounds 0 (Value.slice (some ⟨w.heap.size + 1, 0, none⟩) zs.length zs.length)) 22 := by
    rw [← hW0]
    exact (Blk.new w _ _).alloc _
  have r0 : Row W0 (w.heap.size + 1) zs.length zs.length (fun _ => 0) := by
    rw [← hW0]
    have := Blk.new (w.alloc (.cells ((Array.replicate (s + 1) (Value.slice none 0 0)).setIfInBounds 0 (Value.slice (some ⟨w.heap.size + 1, 0, none⟩) zs.length zs.length)) 22)) (Array.replicate zs.length (Value.int .i64 0)) 3
    rw [World.size_alloc] at this
    exact ⟨_, 3, this, Nat.le_refl _, by simp, fun i hi => by simp [hi]⟩
  have hB0 : Below w.heap.size w W0 := by rw [← hW0]; exact ((Below.refl _ w).alloc (Nat.le_refl _) _).alloc (by simp) _
  have hR0 : Rows61 zs.length s w.heap.size w.heap.size w.heap.size (fun x => tb61 zs.length (zs.drop zs.length) (ps.drop zs.length) zs.length x) ((Array.replicate (s + 1) (Value.slice none 0 0)).setIfInBounds 0 (Value.slice (some ⟨w.heap.size + 1, 0, none⟩) zs.length zs.length)) W0 := fun x hx => by
    rw [List.drop_of_length_le (Nat.le_refl zs.length)]
    by_cases e : x = 0
    · subst e
      right
      simp only [tb61]
      refine ⟨by simp, w.heap.size + 1, zs.length, by simp [Array.getElem?_setIfInBounds_self_of_lt], by omega, by omega, by omega, r0.congr fun i hi => ?_⟩
      simp [List.getElem?_replicate, hi]
    · left
      simp only [tb61]
      refine ⟨by rw [if_neg (by omega)], ?_⟩
      rw [Array.getElem?_setIfInBounds_ne (by omega), Array.getElem?_replicate, if_pos (by omega)]
  clear r0 hW0
  have hzc : ((Array.replicate (s + 1) (Value.slice none 0 0)).setIfInBounds 0 (Value.slice (some ⟨w.heap.size + 1, 0, none⟩) zs.length zs.length)).size = s + 1 := by rw [Array.size_setIfInBounds, Array.size_replicate]
  gi_loopw [8, 7] (fun kv bv wr => ∃ (m B : Nat) (cb : Array Value), kv = .int .i64 ((m : Int) - 1) ∧ m ≤ zs.length ∧ bv = .slice (some ⟨B, 0, none⟩) (s + 1) (s + 1) ∧ Blk wr B cb 22 ∧ cb.size = s + 1 ∧
      Rows61 zs.length s B B w.heap.size (fun x => tb61 zs.length (zs.drop m) (ps.drop m) m x) cb wr ∧ Below w.heap.size w wr ∧ w.heap.size ≤ B)
    (fun kv _ _ => (intOf kv + 1).toNat)
  case atStart => exact ⟨zs.length, w.heap.size, _, rfl, Nat.le_refl _, rfl, b0, hzc, hR0, hB0, Nat.le_refl _⟩
  case round =>
    clear b0 hR0 hB0
    obtain ⟨m, B, cb, rfl, hm, rfl, hbb, hsb, hrb, hlow, hBw⟩ := hrel
    obtain ⟨wi, rfl⟩ : ∃ wi, wi = wr := ⟨wr, rfl⟩
    have hszw := hlow.size
    cases m with
    | zero =>
      simp only [List.drop_zero] at hrb
      rcases hrb s (Nat.le_refl s) with ⟨e1, e2⟩ | ⟨e1, ρ, cp, e2, e3, e4, e5, e6⟩
      · have jc := hbb.cell s e2
        have e1 : tb61 zs.length zs ps 0 s = [] := e1
        clear hrb
        gi_wp2
        go_ret
        first | exact ⟨hlow, .inl rfl⟩ | exact ⟨hlow, .inl ⟨e1, rfl⟩⟩
      · have jc := hbb.cell s e2
        have e1 : (tb61 zs.length zs ps 0 s).length = zs.length := e1
        have e6 : Row wi ρ cp zs.length (fun i => (tb61 zs.length zs ps 0 s)[i]?.getD 0) := e6
        clear hrb
        gi_wp2
        go_ret
        refine ⟨hlow, .inr ?_⟩
        first | exact ⟨ρ, cp, rfl, e3, e6⟩ | exact ⟨e1, ρ, cp, rfl, e3, e6⟩
    | succ k =>
      rw [show ((k + 1 : Nat) : Int) - 1 = (k : Int) by omega]
      have hk : k < zs.length := by omega
      have hkp : k < ps.length := by omega
      obtain ⟨hc1, hc2⟩ := hcc zs[k] (List.getElem_mem _)
      obtain ⟨hq1, hq2⟩ := hpp ps[k] (List.getElem_mem _)
      obtain ⟨c, hcz⟩ := Int.eq_ofNat_of_zero_le (show 0 ≤ zs[k] by omega)
      obtain ⟨q, hqz⟩ := Int.eq_ofNat_of_zero_le hq1
      have hG : ∀ x : Nat, qst61 (tb61 zs.length (zs.drop (k + 1)) (ps.drop (k + 1)) (k + 1)) k q c x (x + 1) 0 [] = tb61 zs.length (zs.drop k) (ps.drop k) k x := fun x => by
        symm
        rw [List.drop_eq_getElem_cons hk, List.drop_eq_getElem_cons hkp, tb61, hcz]
        simp [hqz]
      have hfo := tb61_ok (L := zs.length) (zs.drop (k + 1)) (ps.drop (k + 1)) (k + 1) (fun q hq => hpp q (List.mem_of_mem_drop hq))
      have hcc1 : ∀ wr, Below w.heap.size w wr → wr.cell? ⟨b, off + k, none⟩ = some (.int .i64 c) := fun wr hwr => by
        have := (hwr.cell (p := ⟨b, off + k, none⟩) hb).trans (hcs k hk)
        rw [hcz] at this
        exact this
      have hpc : ∀ wr, Below w.heap.size w wr → wr.cell? ⟨b', off' + k, none⟩ = some (.int .i64 q) := fun wr hwr => by
        have := (hwr.cell (p := ⟨b', off' + k, none⟩) hb').trans (hps k hkp)
        rw [hqz] at this
        exact this
      rw [hcz] at hc1 hc2
      rw [hqz] at hq2
      generalize hf : tb61 zs.length (zs.drop (k + 1)) (ps.drop (k + 1)) (k + 1) = f at hG hfo hrb
      gi_wp2
      have hbl := hbb.lt
      have hSt : St61 w zs.length s B wi.heap.size cb (Array.replicate (s + 1) (Value.slice none 0 0)) (fun x => f x) (fun _ => []) (wi.alloc (.cells (Array.replicate (s + 1) (Value.slice none 0 0)) 22)) := by
        refine ⟨hbb.alloc _, hsb, Blk.new wi _ _, Array.size_replicate, ?_, fun x hx => .inl ⟨rfl, by rw [Array.getElem?_replicate, if_pos (by omega)]⟩, hlow.alloc hszw _, hBw, hszw, by omega⟩
        exact hrb.map (fun _ _ => rfl) fun ρ cp g _ a _ r => ⟨a, by have := r.lt; omega, r.kept (World.grownBy_alloc _ _ none) (by simp)⟩
      generalize wi.heap.size = N at *
      generalize World.alloc wi _ = W1 at *
      clear hbb hrb hlow
      gi_loopw [10] (fun xv wr => ∃ (x : Nat) (cn : Array Value), xv = .int .i64 x ∧ x ≤ s + 1 ∧ St61 w zs.length s B N cb cn (fun x => f x) (fun y => if y < x then tb61 zs.length (zs.drop k) (ps.drop k) k y else []) wr)
        (fun xv _ => s + 1 - (intOf xv).toNat)
      case atStart => exact ⟨0, _, rfl, by omega, hSt.congr fun x _ => (if_neg (Nat.not_lt_zero x)).symm⟩
      case round =>
        clear hSt
        obtain ⟨x, cn, rfl, hx, hS⟩ := hrel
        obtain ⟨wj, rfl⟩ : ∃ wj, wj = wr := ⟨wr, rfl⟩
        by_cases hxs : x < s + 1
        · have hxs2 : x ≤ s := by omega
          gi_wp2
          gi_loopw [11] (fun nv wr => ∃ (m : Nat) (cv : List Int) (cn : Array Value), nv = .int .i64 m ∧ m ≤ x + 1 ∧ qst61 f k q c x (x + 1 - m) m cv = tb61 zs.length (zs.drop k) (ps.drop k) k x ∧ Okl zs.length cv ∧
              St61 w zs.length s B N cb cn (fun x => f x) (fun y => if y < x then tb61 zs.length (zs.drop k) (ps.drop k) k y else if y = x then cv else []) wr)
            (fun nv _ => x + 2 - (intOf nv).toNat)
          case atStart =>
            refine ⟨0, [], cn, rfl, by omega, hG x, .inl rfl, hS.congr fun y _ => ?_⟩
            by_cases e : y < x
            · rw [if_pos e, if_pos e]
            · rw [if_neg e, if_neg e]
              split <;> rfl
          case round =>
            clear hS
            obtain ⟨m, cv, cn, rfl, hm, hpv, hcv, hS⟩ := hrel
            obtain ⟨wk, rfl⟩ : ∃ wk, wk = wr := ⟨wr, rfl⟩
            have jc := hcc1 wk hS.low
            have jp := hpc wk hS.low
            obtain ⟨p, hp⟩ : ∃ p : Nat, (m : Int) * (c : Int) = p := ⟨m * c, by simp⟩
            have hp1 : m ≤ p := by
              have : (m : Int) * 1 ≤ (m : Int) * (c : Int) := Int.mul_le_mul_of_nonneg_left hc1 (by omega)
              omega
            have hp2 : p ≤ 8040 := by
              have : (m : Int) * (c : Int) ≤ 201 * 40 := Int.mul_le_mul (by omega) hc2 (by omega) (by omega)
              omega
            by_cases hmq : m ≤ q
            · by_cases hmp : p ≤ x
              · obtain ⟨d, hd⟩ : ∃ d : Nat, (x : Int) - (p : Int) = d := ⟨x - p, by omega⟩
                have hgo := qst61_go (f := f) (k := k) (cur := cv) (show (m : Int) ≤ (q : Int) by omega) (show (m : Int) * (c : Int) ≤ (x : Int) by omega) (x - m)
                rw [show (x : Int) - (m : Int) * (c : Int) = (d : Int) by omega, show x - m + 1 = x + 1 - m by omega, hpv] at hgo
                have hfd := hfo d (by omega)
                rcases hS.rb d (by omega) with ⟨e1, e2⟩ | ⟨e1, ρ, cp, e2, e3, e4, e5, e6⟩
                · have jb := hS.bb.cell d e2
                  have e1 : f d = [] := e1
                  have hu : upd61 (f d) cv k m = cv := by unfold upd61; rw [if_pos e1]
                  rw [hu] at hgo
                  gi_wp2
                  exact ⟨⟨m + 1, cv, cn, by simp, by omega, by (try rw [hgo]); rw [show x + 1 - (m + 1) = x - m by omega]; simp, hcv, hS⟩, by simp [intOf]; omega⟩
                · have jb := hS.bb.cell d e2
                  have e1 : (f d).length = zs.length := e1
                  have e6 : Row wk ρ cp zs.length (fun i => (f d)[i]?.getD 0) := e6
                  have hfd2 : ∀ y ∈ f d, 0 ≤ y ∧ y ≤ 200 := by
                    rcases hfd with h9 | h9
                    · rw [h9] at e1; simp at e1; omega
                    · exact h9.2
                  have hfn : f d ≠ [] := fun h9 => by rw [h9] at e1; simp at e1; omega
                  obtain ⟨ta0, ta1⟩ := tot_nn61 hfd2
                  have hmL : (200 : Int) * ((f d).length : Int) ≤ 1200 := by omega
                  rcases hS.rn x (by omega) with ⟨g1, g2⟩ | ⟨g1, r, cpn, g2, g3, g4, g5, g6⟩
                  · have g1 : cv = [] := by simpa using g1
                    have jn := hS.nb.cell x g2
                    have hu : upd61 (f d) cv k m = (f d).set k m := by unfold upd61; rw [if_neg hfn, if_pos (.inl g1)]
                    rw [hu] at hgo
                    gi_wp2
                    refine reg15a (x := x) (by omega) jn ?_
                    go_at_K
                    have hS := hS.below (Below.refl wk.heap.size wk).drew
                    have e6 := e6.drew
                    clear jn jc jp jb
                    generalize wk.drew = wl at *
                    gi_wp2_with (gi_at_builtin; go_loud (refine wpListIn_append_own _ rfl _ _ 22 rfl wl.heap.size 3 i0 (.int .i64 0) 1 8 hu22 hi0 hz0 hz1 hz2 rfl (by decide) _ _ _ rfl (own_made61 wl) ⟨ρ, 0, none⟩ zs.length cp ((f d).map (Value.int .i64)) rfl (by simp [e1]) ?c1 ?c2 ?c3 ?c4 ?c5 ?_))
                    case c1 =>
                      intro j u hj
                      rw [List.getElem?_map] at hj
                      obtain ⟨y, hy, rfl⟩ := Option.map_eq_some_iff.1 hj
                      have := (e6.kept (World.grownBy_alloc wl (.cells #[] 3) none) (by simp)).cell (i := j) (by rw [← e1]; exact (List.getElem?_eq_some_iff.1 hy).1)
                      rw [hy] at this
                      by_cases hj0 : j = 0
                      · subst hj0; simpa [Addr.add] using this
                      · simpa [Addr.add, hj0] using this
                    case c2 => intro u hu; obtain ⟨y, _, rfl⟩ := List.mem_map.1 hu; rfl
                    case c3 => unfold maxLen; omega
                    case c4 => omega
                    case c5 => simp
                    · intro v' w1 hown hgrow _
                      have hgrow : (wl.alloc (.cells #[] 3)).grownBy w1 (some wl.heap.size) := hgrow
                      try simp only [Nat.zero_add, List.nil_append] at hown
                      rcases hown.2 with ⟨_, hn0⟩ | ⟨r', cp', cur, rfl, hg', hgg, hlc, hmx, hsz, htk⟩
                      · omega
                      · rw [Nat.mul_one] at hsz htk
                        have hput := hS.put (x := x) (by omega) hgrow hg' hgg hlc (by omega) htk e1 k m
                        have hnl := hS.nb.lt
                        have kN : Blk w1 N cn 22 := (hS.nb.alloc _).kept hgrow (by simp; omega)
                        have krow := (row_of61 hgg hlc (by omega) htk e1).other (b' := N) x (.slice (some ⟨r', 0, none⟩) zs.length cp') (by omega)
                        have f1 := kN.cell x g2
                        have f2 := kN.frozen x
                        have f3 := (kN.set x (.slice (some ⟨r', 0, none⟩) zs.length cp')).cell x (Array.getElem?_setIfInBounds_self_of_lt (by rw [hS.sn]; omega))
                        have f4 := krow.cell hk
                        have f5 := krow.frozen k
                        have hok := upd61_ok (k := k) (n := m) hfd hcv ⟨by omega, by omega⟩
                        rw [hu] at hok
                        have hput2 := hput.congr (g' := fun y => if y < x then tb61 zs.length (zs.drop k) (ps.drop k) k y else if y = x then (f d).set k m else []) (fun y _ => put_congr61 (F := fun y => tb61 zs.length (zs.drop k) (ps.drop k) k y) y)
                        clear hput hown hgrow krow kN hgg htk
                        have hxs2 : x ≤ s := by omega
                        gi_wp2
                        first
                          | exact ⟨⟨m + 1, (f d).set k m, _, by simp, by omega, by (try rw [hgo]); rw [show x + 1 - (m + 1) = x - m by omega]; simp, hok, hput2⟩, by simp [intOf]; omega⟩
                          | exact ⟨⟨m + 1, by omega, by omega, (f d).set k m, by (try rw [hgo]); rw [show x + 1 - (m + 1) = x - m by omega]; simp, hok, _, hput2⟩, by simp [intOf]; omega⟩
                  · have g8 : cv.length = zs.length := by simpa using g1
                    have g7 : Row wk r cpn zs.length (fun i => cv[i]?.getD 0) := by simpa using g6
                    clear g6
                    have jn := hS.nb.cell x g2
                    have hcv2 : ∀ y ∈ cv, 0 ≤ y ∧ y ≤ 200 := by
                      rcases hcv with h9 | h9
                      · rw [h9] at g8; simp at g8; omega
                      · exact h9.2
                    have hcn : cv ≠ [] := fun h9 => by rw [h9] at g8; simp at g8; omega
                    clear g1
                    gi_wp2
                    refine reg15b h1 (x := x) (r := r) (cp := cpn) (a := tot (f d)) (b := tot cv) (by omega) h0 hS.nb.lt (by omega) (by omega) ta0 (by omega) jn (fun W hW => htot W (f d) ρ cp (e6.below hW e6.lt) e1 hfd2) (fun W hW => htot W cv r cpn (g7.below hW g7.lt) g8 hcv2) ?_
                    intro wl hwl
                    go_at_K
                    have hS := hS.below hwl
                    have e6 := e6.below hwl e6.lt
                    clear jn jc jp jb hwl
                    by_cases hlt : (m : Int) + tot (f d) < tot cv
                    · have hu : upd61 (f d) cv k m = (f d).set k m := by unfold upd61; rw [if_neg hfn, if_pos (.inr (by omega))]
                      rw [hu] at hgo
                      rw [decide_eq_true hlt]
                      gi_wp2_with (gi_at_builtin; refine wpListIn_append_own _ rfl _ _ 22 rfl wl.heap.size 3 i0 (.int .i64 0) 1 8 hu22 hi0 hz0 hz1 hz2 rfl (by decide) _ _ _ rfl (own_made61 wl) ⟨ρ, 0, none⟩ zs.length cp ((f d).map (Value.int .i64)) rfl (by simp [e1]) ?c1 ?c2 ?c3 ?c4 ?c5 ?_)
                      case c1 =>
                        intro j u hj
                        rw [List.getElem?_map] at hj
                        obtain ⟨y, hy, rfl⟩ := Option.map_eq_some_iff.1 hj
                        have := (e6.kept (World.grownBy_alloc wl (.cells #[] 3) none) (by simp)).cell (i := j) (by rw [← e1]; exact (List.getElem?_eq_some_iff.1 hy).1)
                        rw [hy] at this
                        by_cases hj0 : j = 0
                        · subst hj0; simpa [Addr.add] using this
                        · simpa [Addr.add, hj0] using this
                      case c2 => intro u hu; obtain ⟨y, _, rfl⟩ := List.mem_map.1 hu; rfl
                      case c3 => unfold maxLen; omega
                      case c4 => omega
                      case c5 => simp
                      · intro v' w1 hown hgrow _
                        have hgrow : (wl.alloc (.cells #[] 3)).grownBy w1 (some wl.heap.size) := hgrow
                        try simp only [Nat.zero_add, List.nil_append] at hown
                        rcases hown.2 with ⟨_, hn0⟩ | ⟨r', cp', cur, rfl, hg', hgg, hlc, hmx, hsz, htk⟩
                        · omega
                        · rw [Nat.mul_one] at hsz htk
                          have hput := hS.put (x := x) (by omega) hgrow hg' hgg hlc (by omega) htk e1 k m
                          have hnl := hS.nb.lt
                          have kN : Blk w1 N cn 22 := (hS.nb.alloc _).kept hgrow (by simp; omega)
                          have krow := (row_of61 hgg hlc (by omega) htk e1).other (b' := N) x (.slice (some ⟨r', 0, none⟩) zs.length cp') (by omega)
                          have f1 := kN.cell x g2
                          have f2 := kN.frozen x
                          have f3 := (kN.set x (.slice (some ⟨r', 0, none⟩) zs.length cp')).cell x (Array.getElem?_setIfInBounds_self_of_lt (by rw [hS.sn]; omega))
                          have f4 := krow.cell hk
                          have f5 := krow.frozen k
                          have hok := upd61_ok (k := k) (n := m) hfd hcv ⟨by omega, by omega⟩
                          rw [hu] at hok
                          have hput2 := hput.congr (g' := fun y => if y < x then tb61 zs.length (zs.drop k) (ps.drop k) k y else if y = x then (f d).set k m else []) (fun y _ => put_congr61 (F := fun y => tb61 zs.length (zs.drop k) (ps.drop k) k y) y)
                          clear hput hown hgrow krow kN hgg htk
                          have hxs2 : x ≤ s := by omega
                          gi_wp2
                          first
                            | exact ⟨⟨m + 1, (f d).set k m, _, by simp, by omega, by (try rw [hgo]); rw [show x + 1 - (m + 1) = x - m by omega]; simp, hok, hput2⟩, by simp [intOf]; omega⟩
                            | exact ⟨⟨m + 1, by omega, by omega, (f d).set k m, by (try rw [hgo]); rw [show x + 1 - (m + 1) = x - m by omega]; simp, hok, _, hput2⟩, by simp [intOf]; omega⟩
                    · have hu : upd61 (f d) cv k m = cv := by unfold upd61; rw [if_neg hfn, if_neg (by rintro (h | h); exact hcn h; omega)]
                      rw [hu] at hgo
                      rw [decide_eq_false hlt]
                      gi_wp2
                      first | exact ⟨⟨m + 1, cv, cn, by simp, by omega, by (try rw [hgo]); rw [show x + 1 - (m + 1) = x - m by omega]; simp, hcv, hS⟩, by simp [intOf]; omega⟩ | exact ⟨⟨m + 1, by omega, by omega, cv, by (try rw [hgo]); rw [show x + 1 - (m + 1) = x - m by omega]; simp, hcv, cn, hS⟩, by simp [intOf]; omega⟩
              · rw [qst61_stop (by omega)] at hpv
                gi_wp2
                refine ⟨⟨x + 1, cn, by simp, by omega, hS.congr fun y _ => row_next61 (F := fun y => tb61 zs.length (zs.drop k) (ps.drop k) k y) hpv y⟩, by simp [intOf]; omega⟩
            · rw [qst61_stop (by omega)] at hpv
              gi_wp2
              refine ⟨⟨x + 1, cn, by simp, by omega, hS.congr fun y _ => row_next61 (F := fun y => tb61 zs.length (zs.drop k) (ps.drop k) k y) hpv y⟩, by simp [intOf]; omega⟩
        · obtain rfl : x = s + 1 := by omega
          gi_wp2
          exact ⟨⟨k, N, cn, rfl, by omega, rfl, hS.nb, hS.sn, hS.rn.map (fun y hy => if_pos (by omega)) (fun ρ cp g _ a b r => ⟨b, b, r⟩), hS.low, hS.hN⟩, by simp only [intOf]; omega⟩
end
end Go.Proofs.Ytjgmfdgpgdaclaa
/-
  The reference's payments: the contract.
-/
set_option linter.unusedVariables false
set_option linter.unusedSimpArgs false
set_option maxRecDepth 100000
namespace Go.Proofs.Ytjgmfdgpgdaclaa
open Go.RowKit Go.Shelf

open Classical in
noncomputable def HF61 (T : List Int → Option Int) (l p : List Int) (s : Int) : Option (List Int) :=
  if (∀ c ∈ l, 1 ≤ c ∧ c ≤ 40) ∧ (0 < l.length ∧ l.length ≤ 6) ∧ (0 ≤ s ∧ s ≤ 200) ∧ p.length = l.length ∧ (∀ q ∈ p, 0 ≤ q ∧ q ≤ 200) ∧ (∀ x : List Int, x.length = l.length → (∀ y ∈ x, 0 ≤ y ∧ y ≤ 200) → T x = some (tot x)) then some (tb61 l.length l p 0 s) else none

open Go.Vi
set_option maxHeartbeats 2000000 in
theorem HC61 (n : Nat × Nat) (xs : pksDen [.c (.sl (.int .i64)), .c (.sl (.int .i64)), .c (.int .i64)]) (r : rksDen [.own (.int .i64) 0]) (h : HF61 (S70 n) xs.1 xs.2.1 xs.2.2.1 = some r) (vs : List V) (hv : pksArg [.c (.sl (.int .i64)), .c (.sl (.int .i64)), .c (.int .i64)] vs = some xs) :
    FC Try.prog 61 vs (rets [.own (.int .i64) 0] r) := by
  obtain ⟨zs, ps, s, ⟨⟩⟩ := xs
  unfold HF61 at h
  split at h
  case isFalse => cases h
  rename_i hd
  have h9 := Option.some.inj h
  subst h9
  clear h
  obtain ⟨hc, ⟨hl0, hl1⟩, ⟨hs0, hs1⟩, hpl, hpp, hT⟩ := hd
  simp only at hc hl0 hl1 hs0 hs1 hpl hpp hT
  intro w A0 args hA hargs
  have hv2 := pksArg_VR _ _ _ _ hv hargs
  match args, hv2 with
  | [v0, v1, v2], ⟨g0, g1, g2, _⟩ =>
    have g2 : v2 = .int .i64 s := g2
    subst g2
    have g0 : CR w A0 (.sl (.int .i64) zs false) v0 := g0
    have g1 : CR w A0 (.sl (.int .i64) ps false) v1 := g1
    obtain ⟨b, off, cap, rfl, hb, hcs⟩ := CR_ints (zs := zs) (t := false) g0 hl0 hA
    obtain ⟨b', off', cap', rfl, hb', hps⟩ := CR_ints (zs := ps) (t := false) g1 (by omega) hA
    rw [hpl]
    obtain ⟨s', rfl⟩ := Int.eq_ofNat_of_zero_le hs0
    have htot : ∀ W (l : List Int) r cp, Row W r cp zs.length (fun i => l[i]?.getD 0) → l.length = zs.length → (∀ y ∈ l, 0 ≤ y ∧ y ≤ 200) → Calls Try.prog 70 #[.slice (some ⟨r, 0, none⟩) zs.length cp] W fun e w' => e = .returned (.int .i64 (tot l)) ∧ Below W.heap.size W w' := fun W l r cp hrow hll hlx => by
      rw [← hll] at hrow ⊢
      exact fc_int (w := W) (A := fun x => x = r) (args := [.slice (some ⟨r, 0, none⟩) l.length cp]) (fcs_FC (rks := [.c (.int .i64) 2]) (FC70 n) (vs := [.c (.sl (.int .i64) l false)]) (xs := (l, ())) rfl (hT l hll hlx)) (fun b hb => by subst hb; exact hrow.lt) ⟨CR_row hrow, trivial⟩
    have key := (callsIn_wide (n := 3)).1 (paid_in 3 (by omega) b off cap b' off' cap' zs ps s' w hb hb' hcs hps hl0 hl1 hpl hc hpp (by omega) (fun W l r cp a b c => callsIn_wide.2 (htot W l r cp a b c)))
    refine key.mono ?_
    rintro x w2 ⟨hB, ⟨h3, rfl⟩ | ⟨hn, ρ, cp, rfl, hρ, hrow⟩⟩
    · show Grows w w2 ∧ RetR w w2 A0 (rets [.own (.int .i64) 0] (tb61 zs.length zs ps 0 s')) _
      rw [h3]
      exact ⟨Grows.of_below hB, [.emp], [_], rfl, ⟨rfl, ⟨none, rfl, fun _ => rfl, rfl, fun _ _ h => (by cases h)⟩, fun b c h => (by cases h)⟩, fun b c h => (by cases h), trivial⟩
    · show Grows w w2 ∧ RetR w w2 A0 (rets [.own (.int .i64) 0] (tb61 zs.length zs ps 0 s')) _
      generalize tb61 zs.length zs ps 0 s' = l at *
      rw [← hn] at hrow ⊢
      obtain ⟨cur, ty, k1, k2, k3, k4⟩ := hrow
      have hout := out_ints (w := w) (W' := w2) (A1 := newA w w2 A0 [.at ρ cp]) (b := ρ) (cap := cp) (l := l) (cur := cur) (t := ty) k1 hρ k2 k3 (fun i x hx => by
        have : cur[i]? = some (.int .i64 (l[i]?.getD 0)) := k4 i (List.getElem?_eq_some_iff.1 hx).1
        rw [hx] at this
        exact this)
      exact ⟨Grows.of_below hB, [.at ρ cp], [_], rfl, hout, fun b c hb j hj c' => by simp at hj, trivial⟩
end Go.Proofs.Ytjgmfdgpgdaclaa
set_option linter.unusedVariables false
set_option linter.unusedSimpArgs false
set_option maxRecDepth 100000
namespace Go.Proofs.Ytjgmfdgpgdaclaa
open Go.Vi
/- headword/headwordref12.paid -/
abbrev R61 := List Int
def pk61 : List PK := [.c (.sl (.int .i64)), .c (.sl (.int .i64)), .c (.int .i64)]
def rk61 : List RK := [.own (.int .i64) 0]
noncomputable def S61 (n : Nat × Nat) (coins0 : List Int) (purse1 : List Int) (sum2 : Int) : Option R61 := HF61 (S70 n) coins0 purse1 sum2
noncomputable def P61 (n : Nat × Nat) := phiOf pk61 rk61 (fun xs => S61 n xs.1 xs.2.1 xs.2.2.1)
theorem call61 : CallOK Try.prog 61 := callOK_of Try.func61 (by kernel_rfl) (by kernel_rfl)
theorem FC61 (n : Nat × Nat) : FCs Try.prog 61 (P61 n) := phiOf_FCs fun xs r h vs hv => HC61 n xs r h vs hv
end Go.Proofs.Ytjgmfdgpgdaclaa
set_option linter.unusedVariables false
set_option linter.unusedSimpArgs false
set_option maxRecDepth 100000
namespace Go.Proofs.Ytjgmfdgpgdaclaa
open Go.Vi
/- headword/headwordref12.Purse -/
abbrev R42 := List Int × Int
noncomputable def c42 : Code := bodyOf Try.f42
noncomputable def an42 : Ann := (.s .l (.s .l (.s (.s .l (.j [0, 1, 2, 8] .l .l)) (.s (.s .l (.j [0, 1, 2] .l .l)) (.s .l (.s (.s .l (.j [9] .l .l)) .l))))))
def pk42 : List PK := [.c (.sl (.int .i64)), .c (.sl (.int .i64)), .c (.int .i64)]
def rk42 : List RK := [.own (.int .i64) 6, .c (.int .i64) 7]
noncomputable def rt42 (st : St) : Option R42 := rtG rk42 st
noncomputable def E42 (n : Nat × Nat) : Env := { T := tab, phi := (consPhi 58 (fun _ => true) (P58 n) (consPhi 61 (fun _ => true) (P61 n) (consPhi 69 (fun _ => true) (P69 n) noPhi))), eff := fun _ => false, fuel := n.1, hold := n.2 }
noncomputable def kq42_1 (n : Nat × Nat) : St → Option R42 := run (E42 n) (cB (cB (cB c42))) (Ann.snd (Ann.snd (Ann.snd an42))) rt42 (fun _ _ => none) rt42
noncomputable def kc42_2 (n : Nat × Nat) : St → Option R42 := fun s => normC [0, 1, 2, 8] s (kq42_1 n)
noncomputable def kq42_3 (n : Nat × Nat) : St → Option R42 := run (E42 n) (cB (cB (cB (cB c42)))) (Ann.snd (Ann.snd (Ann.snd (Ann.snd an42)))) rt42 (fun _ _ => none) rt42
noncomputable def kc42_4 (n : Nat × Nat) : St → Option R42 := fun s => normC [0, 1, 2] s (kq42_3 n)
noncomputable def kq42_5 (n : Nat × Nat) : St → Option R42 := run (E42 n) (cB (cB (cB (cB (cB (cB c42)))))) (Ann.snd (Ann.snd (Ann.snd (Ann.snd (Ann.snd (Ann.snd an42)))))) rt42 (fun _ _ => none) rt42
noncomputable def kc42_6 (n : Nat × Nat) : St → Option R42 := fun s => normC [9] s (kq42_5 n)
noncomputable def S42 (n : Nat × Nat) (coins0 : List Int) (purse1 : List Int) (sum2 : Int) : Option R42 := run (E42 n) c42 an42 rt42 (fun _ _ => none) rt42 { tm := [.c (.sl (.int .i64) coins0 false), .c (.sl (.int .i64) purse1 false), .c (.int .i64 sum2), uu, uu, uu, uu, uu, uu, uu, uu, uu, uu, uu, uu, uu, uu, uu, uu, uu, uu, uu, uu, uu, uu, uu, uu, uu, uu], hp := emp }
theorem S42_eq (n : Nat × Nat) (coins0 : List Int) (purse1 : List Int) (sum2 : Int) : S42 n coins0 purse1 sum2 =
    (S58 n coins0 sum2).bind fun r1' =>
    (bif (r1' == 0) then (S69 n coins0 purse1).bind fun r2' =>
      (bif (r2' != 0) then some ([], r2')
      else (S61 n coins0 purse1 sum2).bind fun r3' =>
        (bif ((r3'.length : Int) == 0) then some ([], 12)
        else some (r3', 0)))
    else (bif (r1' != 0) then some ([], r1')
      else (S61 n coins0 purse1 sum2).bind fun r4' =>
        (bif ((r4'.length : Int) == 0) then some ([], 12)
        else some (r4', 0)))) := by kernel_rfl
theorem S42_run (n : Nat × Nat) (xs : pksDen pk42) : S42 n xs.1 xs.2.1 xs.2.2.1 = runG (E42 n) noScope c42 an42 (rtG rk42) (fun _ _ => none) (rtG rk42) (st0 pk42 xs Try.f42.ntmps) := by kernel_rfl
noncomputable def P42 (n : Nat × Nat) := phiOf pk42 rk42 (fun xs => S42 n xs.1 xs.2.1 xs.2.2.1)
theorem call42 : CallOK Try.prog 42 := callOK_of Try.func42 (by kernel_rfl) (by kernel_rfl)
theorem env42 (n : Nat × Nat) : EnvOK Try.prog (E42 n) := envOK0 (consPhi_ok (FC58 n) call58 (consPhi_ok (FC61 n) call61 (consPhi_ok (FC69 n) call69 noPhi_ok))) rfl rfl
theorem par42 (n : Nat × Nat) : EnvPar (E42 n) := envPar0 (consPhi_par phiOf_Par1 (consPhi_par phiOf_Par1 (consPhi_par phiOf_Par1 noPhi_par))) rfl
theorem FC42 (n : Nat × Nat) : FCs Try.prog 42 (P42 n) := phiOf_FCs fun xs r h vs hv => FC.of_runG tabOK eqsOK (env42 n) (par42 n) mixed (fun _ => noScope_ok) Try.func42 (c := c42) (an := an42) (pks := pk42) (rks := rk42) (by kernel_rfl) (by kernel_rfl) hv ((S42_run n xs).symm.trans h)
end Go.Proofs.Ytjgmfdgpgdaclaa
set_option linter.unusedVariables false
set_option linter.unusedSimpArgs false
set_option maxRecDepth 100000
namespace Go.Proofs.Ytjgmfdgpgdaclaa
open Go.Vi
/- headword/headwordlaw12.CoinPaid -/
abbrev R6 := Bool
noncomputable def c6 : Code := bodyOf Try.f6
noncomputable def an6 : Ann := (.s .l (.s (.s .l (.j [0, 1, 2, 74, 75, 76, 79, 80, 81, 84, 85, 86, 89, 90, 91, 94, 95, 96, 99, 100, 101, 104] .l .l)) .l))
def pk6 : List PK := [.c (.sl (.int .i64)), .c (.sl (.int .i64)), .c (.int .i64)]
def rk6 : List RK := [.c .bool 6]
noncomputable def rt6 (st : St) : Option R6 := rtG rk6 st
noncomputable def E6 (n : Nat × Nat) : Env := { T := tab, phi := (consPhi 17 (fun _ => true) (P17 n) (consPhi 24 (fun _ => true) (P24 n) (consPhi 37 (fun _ => true) (P37 n) (consPhi 38 (fun _ => true) (P38 n) (consPhi 39 (fun _ => true) (P39 n) (consPhi 40 (fun _ => true) (P40 n) (consPhi 41 (fun _ => true) (P41 n) (consPhi 42 (fun _ => true) (P42 n) noPhi)))))))), eff := fun _ => false, fuel := n.1, hold := n.2 }
noncomputable def kq6_1 (n : Nat × Nat) : St → Option R6 := run (E6 n) (cB (cB c6)) (Ann.snd (Ann.snd an6)) rt6 (fun _ _ => none) rt6
noncomputable def kc6_2 (n : Nat × Nat) : St → Option R6 := fun s => normC [0, 1, 2, 74, 75, 76, 79, 80, 81, 84, 85, 86, 89, 90, 91, 94, 95, 96, 99, 100, 101, 104] s (kq6_1 n)
noncomputable def S6 (n : Nat × Nat) (coins0 : List Int) (purse1 : List Int) (sum2 : Int) : Option R6 := run (E6 n) c6 an6 rt6 (fun _ _ => none) rt6 { tm := [.c (.sl (.int .i64) coins0 false), .c (.sl (.int .i64) purse1 false), .c (.int .i64 sum2), uu, uu, uu, uu, uu, uu, uu, uu, uu, uu, uu, uu, uu, uu, uu, uu, uu, uu, uu, uu, uu, uu, uu, uu, uu, uu, uu, uu, uu, uu, uu, uu, uu, uu, uu, uu, uu, uu, uu, uu, uu, uu, uu, uu, uu, uu, uu, uu, uu, uu, uu, uu, uu, uu, uu, uu, uu, uu, uu, uu, uu, uu, uu, uu, uu, uu, uu, uu, uu, uu, uu, uu, uu, uu, uu, uu, uu, uu, uu, uu, uu, uu, uu, uu, uu, uu, uu, uu, uu, uu, uu, uu, uu, uu, uu, uu, uu, uu, uu, uu, uu, uu, uu], hp := emp }
theorem S6_eq (n : Nat × Nat) (coins0 : List Int) (purse1 : List Int) (sum2 : Int) : S6 n coins0 purse1 sum2 =
    ((bif (decide ((coins0.length : Int) > 40) == false) then some (decide ((purse1.length : Int) > 40))
      else some true)).bind fun b1' =>
    (bif b1' then (S17 n).bind fun r2' =>
      some r2'
    else (S37 n coins0 sum2).bind fun r3' =>
      (S38 n coins0 sum2).bind fun r4' =>
      (S39 n coins0 sum2).bind fun r5' =>
      (S40 n coins0 sum2).bind fun r6' =>
      (S41 n coins0 purse1 sum2).bind fun r7' =>
      (S42 n coins0 purse1 sum2).bind fun r8' =>
      ((bif ((r3'.1 == r4'.1) == true) then some (r3'.2 == r4'.2)
        else some false)).bind fun b9' =>
      ((bif (b9' == true) then some (r5'.1 == r6'.1)
        else some false)).bind fun b10' =>
      ((bif (b10' == true) then some (r5'.2.1 == r6'.2.1)
        else some false)).bind fun b11' =>
      ((bif (b11' == true) then some (r5'.2.2 == r6'.2.2)
        else some false)).bind fun b12' =>
      ((bif (b12' == true) then (S24 n r7'.1 r8'.1).bind fun r13' =>
          some r13'
        else some false)).bind fun b14' =>
      ((bif (b14' == true) then some (r7'.2 == r8'.2)
        else some false)).bind fun b15' =>
      ((bif (b15' == true) then (S17 n).bind fun r16' =>
          some r16'
        else some false)).bind fun b17' =>
      some b17') := by kernel_rfl
theorem S6_run (n : Nat × Nat) (xs : pksDen pk6) : S6 n xs.1 xs.2.1 xs.2.2.1 = runG (E6 n) noScope c6 an6 (rtG rk6) (fun _ _ => none) (rtG rk6) (st0 pk6 xs Try.f6.ntmps) := by kernel_rfl
noncomputable def P6 (n : Nat × Nat) := phiOf pk6 rk6 (fun xs => S6 n xs.1 xs.2.1 xs.2.2.1)
theorem call6 : CallOK Try.prog 6 := callOK_of Try.func6 (by kernel_rfl) (by kernel_rfl)
theorem env6 (n : Nat × Nat) : EnvOK Try.prog (E6 n) := envOK0 (consPhi_ok (FC17 n) call17 (consPhi_ok (FC24 n) call24 (consPhi_ok (FC37 n) call37 (consPhi_ok (FC38 n) call38 (consPhi_ok (FC39 n) call39 (consPhi_ok (FC40 n) call40 (consPhi_ok (FC41 n) call41 (consPhi_ok (FC42 n) call42 noPhi_ok)))))))) rfl rfl
theorem par6 (n : Nat × Nat) : EnvPar (E6 n) := envPar0 (consPhi_par phiOf_Par1 (consPhi_par phiOf_Par1 (consPhi_par phiOf_Par1 (consPhi_par phiOf_Par1 (consPhi_par phiOf_Par1 (consPhi_par phiOf_Par1 (consPhi_par phiOf_Par1 (consPhi_par phiOf_Par1 noPhi_par)))))))) rfl
theorem FC6 (n : Nat × Nat) : FCs Try.prog 6 (P6 n) := phiOf_FCs fun xs r h vs hv => FC.of_runG tabOK eqsOK (env6 n) (par6 n) mixed (fun _ => noScope_ok) Try.func6 (c := c6) (an := an6) (pks := pk6) (rks := rk6) (by kernel_rfl) (by kernel_rfl) hv ((S6_run n xs).symm.trans h)
end Go.Proofs.Ytjgmfdgpgdaclaa
set_option linter.unusedVariables false
set_option linter.unusedSimpArgs false
set_option maxRecDepth 100000
namespace Go.Proofs.Ytjgmfdgpgdaclaa
open Go.Vi
/-D 61 -/
noncomputable def D61 (n : Nat × Nat) (coins0 : List Int) (purse1 : List Int) (sum2 : Int) : Option R61 := HF61 (D70 n) coins0 purse1 sum2
theorem S61_D (n : Nat × Nat) (hn : n.2 = 1) : S61 n = D61 n := by unfold S61 D61; rw [S70_D n hn]
end Go.Proofs.Ytjgmfdgpgdaclaa
set_option linter.unusedVariables false
set_option linter.unusedSimpArgs false
set_option maxRecDepth 100000
namespace Go.Proofs.Ytjgmfdgpgdaclaa
open Go.Vi
/-D 42 -/
noncomputable def D42 (n : Nat × Nat) (coins0 : List Int) (purse1 : List Int) (sum2 : Int) : Option R42 :=
    (D58 n coins0 sum2).bind fun r1' =>
    (bif (r1' == 0) then (D69 n coins0 purse1).bind fun r2' =>
      (bif (r2' != 0) then some ([], r2')
      else (D61 n coins0 purse1 sum2).bind fun r3' =>
        (bif ((r3'.length : Int) == 0) then some ([], 12)
        else some (r3', 0)))
    else (bif (r1' != 0) then some ([], r1')
      else (D61 n coins0 purse1 sum2).bind fun r4' =>
        (bif ((r4'.length : Int) == 0) then some ([], 12)
        else some (r4', 0))))
theorem S42_D (n : Nat × Nat) (hn : n.2 = 1) : S42 n = D42 n := by
  funext coins0 purse1 sum2; refine (S42_eq n coins0 purse1 sum2).trans ?_
  unfold D42
  (try simp only [S58_D n hn, S61_D n hn, S69_D n hn]) <;> first | with_reducible rfl | rfl
end Go.Proofs.Ytjgmfdgpgdaclaa
set_option linter.unusedVariables false
set_option linter.unusedSimpArgs false
set_option maxRecDepth 100000
namespace Go.Proofs.Ytjgmfdgpgdaclaa
open Go.Vi
/-D 6 -/
noncomputable def D6 (n : Nat × Nat) (coins0 : List Int) (purse1 : List Int) (sum2 : Int) : Option R6 :=
    ((bif (decide ((coins0.length : Int) > 40) == false) then some (decide ((purse1.length : Int) > 40))
      else some true)).bind fun b1' =>
    (bif b1' then (D17 n).bind fun r2' =>
      some r2'
    else (D37 n coins0 sum2).bind fun r3' =>
      (D38 n coins0 sum2).bind fun r4' =>
      (D39 n coins0 sum2).bind fun r5' =>
      (D40 n coins0 sum2).bind fun r6' =>
      (D41 n coins0 purse1 sum2).bind fun r7' =>
      (D42 n coins0 purse1 sum2).bind fun r8' =>
      ((bif ((r3'.1 == r4'.1) == true) then some (r3'.2 == r4'.2)
        else some false)).bind fun b9' =>
      ((bif (b9' == true) then some (r5'.1 == r6'.1)
        else some false)).bind fun b10' =>
      ((bif (b10' == true) then some (r5'.2.1 == r6'.2.1)
        else some false)).bind fun b11' =>
      ((bif (b11' == true) then some (r5'.2.2 == r6'.2.2)
        else some false)).bind fun b12' =>
      ((bif (b12' == true) then (D24 n r7'.1 r8'.1).bind fun r13' =>
          some r13'
        else some false)).bind fun b14' =>
      ((bif (b14' == true) then some (r7'.2 == r8'.2)
        else some false)).bind fun b15' =>
      ((bif (b15' == true) then (D17 n).bind fun r16' =>
          some r16'
        else some false)).bind fun b17' =>
      some b17')
theorem S6_D (n : Nat × Nat) (hn : n.2 = 1) : S6 n = D6 n := by
  funext coins0 purse1 sum2; refine (S6_eq n coins0 purse1 sum2).trans ?_
  unfold D6
  (try simp only [S17_D n hn, S24_D n hn, S37_D n hn, S38_D n hn, S39_D n hn, S40_D n hn, S41_D n hn, S42_D n hn]) <;> first | with_reducible rfl | rfl
end Go.Proofs.Ytjgmfdgpgdaclaa
/-
  Coins: what is paid is not below 0.
-/
set_option linter.unusedVariables false
set_option linter.unusedSimpArgs false
namespace Go.Proofs.Ytjgmfdgpgdaclaa
theorem Pay.nn : ∀ {l ps : List Int} {x : Int} {p : List Int}, (∀ c ∈ l, 1 ≤ c) → Pay l ps x p → 0 ≤ x
  | [], _, x, p, _, h => by rw [h.1]; exact Int.le_refl 0
  | c :: l, ps, x, p, hp, ⟨n, p', h1, h2, h3, h4⟩ => by
    have := h4.nn (fun c h => hp c (by simp [h]))
    have := Int.mul_nonneg h2 (show 0 ≤ c by have := hp c (by simp); omega)
    omega
end Go.Proofs.Ytjgmfdgpgdaclaa
/-
  Coins: the reference's payments are the first ones with the fewest coins.
-/
set_option linter.unusedVariables false
set_option linter.unusedSimpArgs false
namespace Go.Proofs.Ytjgmfdgpgdaclaa
open Go.Vi

theorem tot_zeros : ∀ (k : Nat) (p : List Int), tot (List.replicate k 0 ++ p) = tot p
  | 0, p => rfl
  | k + 1, p => by
    rw [List.replicate_succ, List.cons_append]
    simp only [tot]
    rw [tot_zeros k p]
    omega
theorem set_zeros : ∀ (k : Nat) (n : Int) (p : List Int), (List.replicate (k + 1) 0 ++ p).set k n = List.replicate k 0 ++ n :: p
  | 0, n, p => rfl
  | k + 1, n, p => by
    rw [List.replicate_succ, List.cons_append, List.set_cons_succ, set_zeros k n p, List.replicate_succ (n := k), List.cons_append]
/-- Payments whose first number is below n. -/
def Low (A : List Int → Prop) (n : Int) (p : List Int) : Prop := A p ∧ p.headD 0 < n
/-- A list is the best of these, behind so many zeros, or there is none. -/
def Best (k : Nat) (A : List Int → Prop) (cur : List Int) : Prop := (cur = [] ∧ ∀ p, ¬ A p) ∨ ∃ p, cur = List.replicate k 0 ++ p ∧ IsBst A p
theorem IsBst.iff {A B : List Int → Prop} {p : List Int} (h : IsBst A p) (e : ∀ p, A p ↔ B p) : IsBst B p := ⟨(e p).1 h.1, fun p' h' => h.2 p' ((e p').2 h')⟩
theorem Best.iff {k : Nat} {A B : List Int → Prop} {cur : List Int} (h : Best k A cur) (e : ∀ p, A p ↔ B p) : Best k B cur := by
  rcases h with ⟨h1, h2⟩ | ⟨p, h1, h2⟩
  · exact .inl ⟨h1, fun p hp => h2 p ((e p).2 hp)⟩
  · exact .inr ⟨p, h1, h2.iff e⟩
theorem best_step {c x n : Int} {l ps : List Int} {k : Nat} {cur lv : List Int} (hn : 0 ≤ n) (hq : n ≤ ps.headD 0) (hcur : Best k (Low (Pay (c :: l) ps x) n) cur) (hne : ∀ p, Pay (c :: l) ps x p → p ≠ []) (hlv : Best (k + 1) (Pay l ps.tail (x - n * c)) lv) :
    Best k (Low (Pay (c :: l) ps x) (n + 1)) (upd61 lv cur k n) := by
  unfold upd61
  rcases hlv with ⟨rfl, hno⟩ | ⟨p', rfl, hb⟩
  · rw [if_pos rfl]
    refine hcur.iff fun p => ⟨fun h => ⟨h.1, by have := h.2; omega⟩, fun h => ⟨h.1, ?_⟩⟩
    obtain ⟨⟨j, q, rfl, j0, jq, j4⟩, h2⟩ := h
    have h2 : j < n + 1 := h2
    show j < n
    by_cases e : j = n
    · subst e; exact absurd j4 (hno q)
    · omega
  · rw [if_neg (by simp)]
    have hin : Low (Pay (c :: l) ps x) (n + 1) (n :: p') := ⟨⟨n, p', rfl, hn, hq, hb.1⟩, by show n < n + 1; omega⟩
    rw [set_zeros, tot_zeros]
    rcases hcur with ⟨rfl, hno⟩ | ⟨p, rfl, hb2⟩
    · rw [if_pos (.inl rfl)]
      refine .inr ⟨n :: p', rfl, hin, ?_⟩
      rintro p'' ⟨⟨j, q, rfl, j0, jq, j4⟩, h2⟩
      have h2 : j < n + 1 := h2
      by_cases e : j = n
      · subst e
        rcases hb.2 q j4 with h | ⟨h, h'⟩
        · left; simp only [tot]; omega
        · right; exact ⟨by simp only [tot]; omega, .inr ⟨rfl, h'⟩⟩
      · exact absurd ⟨⟨j, q, rfl, j0, jq, j4⟩, show j < n by omega⟩ (hno (j :: q))
    · rw [tot_zeros]
      by_cases hlt : n + tot p' < tot p
      · rw [if_pos (.inr hlt)]
        refine .inr ⟨n :: p', rfl, hin, ?_⟩
        rintro p'' ⟨⟨j, q, rfl, j0, jq, j4⟩, h2⟩
        have h2 : j < n + 1 := h2
        by_cases e : j = n
        · subst e
          rcases hb.2 q j4 with h | ⟨h, h'⟩
          · left; simp only [tot]; omega
          · right; exact ⟨by simp only [tot]; omega, .inr ⟨rfl, h'⟩⟩
        · have := hb2.2 (j :: q) ⟨⟨j, q, rfl, j0, jq, j4⟩, show j < n by omega⟩
          left
          simp only [tot] at this ⊢
          omega
      · have hpne : p ≠ [] := hne p hb2.1.1
        rw [if_neg (by rintro (h | h); exact hpne (List.append_eq_nil_iff.1 h).2; exact hlt h)]
        refine .inr ⟨p, rfl, ⟨hb2.1.1, by have := hb2.1.2; omega⟩, ?_⟩
        rintro p'' ⟨⟨j, q, rfl, j0, jq, j4⟩, h2⟩
        have h2 : j < n + 1 := h2
        by_cases e : j = n
        · subst e
          have h3 : tot p' ≤ tot q := by rcases hb.2 q j4 with h | ⟨h, _⟩ <;> omega
          by_cases h4 : tot p < j + tot q
          · left; simp only [tot]; omega
          · right
            refine ⟨by simp only [tot]; omega, ?_⟩
            obtain ⟨⟨i, t, rfl, _⟩, h5⟩ := hb2.1
            exact .inl h5
        · exact hb2.2 (j :: q) ⟨⟨j, q, rfl, j0, jq, j4⟩, show j < n by omega⟩
theorem qst61_best {c x : Int} {l ps : List Int} {k : Nat} {f : Int → List Int} (hc : 1 ≤ c) (hnn : ∀ s p, Pay l ps.tail s p → 0 ≤ s) (hf : ∀ y, 0 ≤ y → Best (k + 1) (Pay l ps.tail y) (f y)) : ∀ (m : Nat) (n : Int) (cur : List Int), 0 ≤ n → x < n + m → Best k (Low (Pay (c :: l) ps x) n) cur →
    Best k (Pay (c :: l) ps x) (qst61 f k (ps.headD 0) c x m n cur) := by
  have hstop : ∀ (n : Int) (cur : List Int), 0 ≤ n → ¬ (n ≤ ps.headD 0 ∧ n * c ≤ x) → Best k (Low (Pay (c :: l) ps x) n) cur → Best k (Pay (c :: l) ps x) cur := fun n cur hn hx h => h.iff fun p => ⟨fun h => h.1, fun h => ⟨h, by
    obtain ⟨j, q, rfl, j0, jq, j4⟩ := h
    have := hnn _ _ j4
    show j < n
    by_cases e : n ≤ j
    · have : n * c ≤ j * c := Int.mul_le_mul_of_nonneg_right e (by omega)
      exact absurd ⟨by omega, by omega⟩ hx
    · omega⟩⟩
  intro m
  induction m with
  | zero =>
    intro n cur hn hx h
    have : n * 1 ≤ n * c := Int.mul_le_mul_of_nonneg_left hc hn
    exact hstop n cur hn (by omega) h
  | succ m ih =>
    intro n cur hn hx h
    unfold qst61
    split
    · rename_i hg
      exact ih (n + 1) _ (by omega) (by omega) (best_step hn hg.1 h (fun p hp => by obtain ⟨j, q, rfl, _⟩ := hp; simp) (hf _ (by omega)))
    · rename_i hg
      exact hstop n cur hn hg h
theorem tb61_best {L : Nat} : ∀ {l : List Int} (hp : ∀ c ∈ l, 1 ≤ c) (ps : List Int) (k : Nat), k + l.length = L → ∀ x, 0 ≤ x → Best k (Pay l ps x) (tb61 L l ps k x)
  | [], _, ps, k, hk, x, hx => by
    unfold tb61
    have hk : k = L := by simpa using hk
    subst hk
    by_cases e : x = 0
    · subst e
      rw [if_pos rfl]
      exact .inr ⟨[], by simp, ⟨rfl, rfl⟩, fun p' h' => .inr ⟨by rw [h'.2], by rw [h'.2]; exact Lx.refl _⟩⟩
    · rw [if_neg e]
      exact .inl ⟨rfl, fun p h => e h.1⟩
  | c :: l, hp, ps, k, hk, x, hx => by
    unfold tb61
    have hpl : ∀ c ∈ l, 1 ≤ c := fun c h => hp c (by simp [h])
    refine qst61_best (hp c (by simp)) (fun s p h => h.nn hpl) (fun y hy => tb61_best hpl ps.tail (k + 1) (by simp at hk; omega) y hy) (x.toNat + 1) 0 [] (Int.le_refl _) (by omega) (.inl ⟨rfl, ?_⟩)
    rintro p ⟨⟨j, q, rfl, j0, _⟩, h2⟩
    have h2 : j < 0 := h2
    omega
end Go.Proofs.Ytjgmfdgpgdaclaa
/-
  Coins: two payments are the same.
-/
set_option linter.unusedVariables false
set_option linter.unusedSimpArgs false
namespace Go.Proofs.Ytjgmfdgpgdaclaa
open Go.Vi
theorem same_loop (n : Nat × Nat) (a b : List Int) (hab : a.length = b.length) (hl : a.length ≤ 100) : ∀ (m i : Nat), i ≤ a.length → a.length - i < m → DL24_1 n m a b (i : Int) = some (decide (a.drop i = b.drop i))
  | 0, i, _, h => by omega
  | m + 1, i, hi, h => by
    rw [DL24_1_succ]
    unfold DF24_1
    by_cases hlt : i < a.length
    · rw [decide_eq_true (show (i : Int) < (a.length : Int) by omega), cond_true, idx_nat hlt, idx_nat (show i < b.length by omega), drop_cons hlt, drop_cons (show i < b.length by omega)]
      simp only [Option.bind_some]
      have ih := same_loop n a b hab hl m (i + 1) (by omega) (by omega)
      rw [show ((i + 1 : Nat) : Int) = wr .i64 ((i : Int) + 1) by rw [wr_ok (by omega) (by omega)]; omega] at ih
      by_cases e : a[i] = b[i]
      · rw [show (a[i] != b[i]) = false by simp [e], cond_false, ih]
        congr 1
        rw [e]
        by_cases e2 : a.drop (i + 1) = b.drop (i + 1)
        · rw [decide_eq_true e2, decide_eq_true (by rw [e2])]
        · rw [decide_eq_false e2, decide_eq_false (fun h => e2 (List.cons.inj h).2)]
      · rw [show (a[i] != b[i]) = true by simpa using e, cond_true]
        congr 1
        symm
        exact decide_eq_false fun h => e (List.cons.inj h).1
    · rw [decide_eq_false (show ¬ (i : Int) < (a.length : Int) by omega), cond_false, List.drop_of_length_le (by omega), List.drop_of_length_le (by omega)]
      simp
theorem same_eq {n : Nat × Nat} (hn : 1000 ≤ n.1) (a b : List Int) (hl : a.length ≤ 100) : D24 n a b = some (decide (a = b)) := by
  unfold D24
  by_cases h : a.length = b.length
  · rw [show ((a.length : Int) != (b.length : Int)) = false by simp [h], cond_false]
    have := same_loop n a b h hl n.1 0 (by omega) (by omega)
    simpa using this
  · rw [show ((a.length : Int) != (b.length : Int)) = true by simpa using (show ¬ (a.length : Int) = (b.length : Int) by omega), cond_true]
    congr 1
    symm
    exact decide_eq_false fun e => h (by rw [e])

theorem hN1 : 1000 ≤ N.1 := by decide
theorem hN2 : 2000 ≤ N.1 := by decide
end Go.Proofs.Ytjgmfdgpgdaclaa
/-
  Coins: what the reference pays.
-/
set_option linter.unusedVariables false
set_option linter.unusedSimpArgs false
namespace Go.Proofs.Ytjgmfdgpgdaclaa
open Go.Vi
/-- What the reference pays out of a purse. -/
theorem rpaid_eq {n : Nat × Nat} (hn : 1000 ≤ n.1) {cs ps : List Int} {s : Int} (hv : Vld cs) (s0 : 0 ≤ s) (s1 : s ≤ 200) (hl : ps.length = cs.length) (hq : ∀ q ∈ ps, 0 ≤ q ∧ q ≤ 200) :
    (D61 n cs ps s = some [] ∧ ∀ p, ¬ Pay cs ps s p) ∨ ∃ p, D61 n cs ps s = some p ∧ IsBst (Pay cs ps s) p := by
  have h : D61 n cs ps s = some (tb61 cs.length cs ps 0 s) := by
    unfold D61 HF61
    rw [if_pos]
    exact ⟨fun c hc => hv.rng c hc, ⟨hv.pos, hv.len⟩, ⟨s0, s1⟩, hl, hq, fun x h1 h2 => total_eq hn x (by have := hv.len; omega) (fun y hy => by have := h2 y hy; omega)⟩
  rw [h]
  rcases tb61_best hv.mnt.pos ps 0 (Nat.zero_add _) s s0 with ⟨h1, h2⟩ | ⟨p, h1, h2⟩
  · exact .inl ⟨by rw [h1], h2⟩
  · refine .inr ⟨p, ?_, h2⟩
    rw [h1]
    rfl
end Go.Proofs.Ytjgmfdgpgdaclaa
/-
  Coins: what a payment is worth.
-/
set_option linter.unusedVariables false
set_option linter.unusedSimpArgs false
namespace Go.Proofs.Ytjgmfdgpgdaclaa
open Go.Vi
theorem PayU.dot : ∀ {cs : List Int} {s : Int} {p : List Int}, PayU cs s p → Ytjgmfdgpgdaclaa.dot cs p = s
  | [], s, p, h => by rw [h.2, h.1]; rfl
  | c :: cs, s, p, ⟨n, p', h1, h2, h4⟩ => by
    rw [h1]
    simp only [Ytjgmfdgpgdaclaa.dot]
    rw [h4.dot]
    omega
theorem PayU.mem {cs : List Int} : ∀ (hp : ∀ c ∈ cs, 1 ≤ c) {s : Int} {p : List Int}, PayU cs s p → ∀ x ∈ p, 0 ≤ x ∧ x ≤ tot p := by
  induction cs with
  | nil => intro hp s p h x hx; rw [h.2] at hx; cases hx
  | cons c cs ih =>
    intro hp s p ⟨n, p', h1, h2, h4⟩ x hx
    have h5 := (PayU.sum (fun c h => hp c (by simp [h])) h4).1
    rw [h1] at hx ⊢
    simp only [tot]
    rcases List.mem_cons.1 hx with rfl | hx
    · omega
    · have := ih (fun c h => hp c (by simp [h])) h4 x hx
      omega
theorem pay_cnt {cs : List Int} (hv : Vld cs) {s : Int} {p : List Int} (h : PayU cs s p) (hs : s ≤ 200) : cnt cs p = 0 := by
  unfold cnt
  rw [if_neg (by simpa using h.length), if_pos]
  intro x hx
  have h1 := h.mem hv.mnt.pos x hx
  have h2 := PayU.sum hv.mnt.pos h
  omega
theorem worth_loop {n : Nat × Nat} {cs : List Int} (hv : Vld cs) {p : List Int} (hpl : p.length = cs.length) (hp : ∀ x ∈ p, 0 ≤ x ∧ x ≤ 1000) : ∀ (m i : Nat) (w t : Int), i ≤ p.length → p.length - i < m → 0 ≤ w → w ≤ 40000 * i → 0 ≤ t → t ≤ 1000 * i →
    DL51_1 n m cs w t p (p.length : Int) (i : Int) = some (w + dot (cs.drop i) (p.drop i), t + tot (p.drop i), true)
  | 0, i, w, t, _, h, _, _, _, _ => by omega
  | m + 1, i, w, t, hi, h, a, b, c, d => by
    have hl := hv.len
    rw [DL51_1_succ]
    unfold DF51_1
    by_cases hlt : i < p.length
    · have hlc : i < cs.length := by omega
      have hx := hp p[i] (List.getElem_mem _)
      have hc := hv.rng cs[i] (List.getElem_mem _)
      have hm1 := Int.mul_nonneg hx.1 (show 0 ≤ cs[i] by omega)
      have hm2 : p[i] * cs[i] ≤ 1000 * 40 := Int.mul_le_mul hx.2 hc.2 (by omega) (by omega)
      rw [decide_eq_true (show (i : Int) < (p.length : Int) by omega), cond_true, idx_nat hlt, idx_nat hlc, drop_cons hlt, drop_cons hlc]
      simp only [Option.bind_some, dot, tot]
      rw [decide_eq_false (show ¬ p[i] < 0 by omega), decide_eq_false (show ¬ p[i] > 1000 by omega)]
      simp only [show (false == false) = true from rfl, cond_true, cond_false, Option.bind_some]
      rw [wr_ok (x := p[i] * cs[i]) (by omega) (by omega), wr_ok (x := w + p[i] * cs[i]) (by omega) (by omega), wr_ok (x := t + p[i]) (by omega) (by omega)]
      have ih := worth_loop (n := n) hv hpl hp m (i + 1) (w + p[i] * cs[i]) (t + p[i]) (by omega) (by omega) (by omega) (by omega) (by omega) (by omega)
      rw [show ((i + 1 : Nat) : Int) = wr .i64 ((i : Int) + 1) by rw [wr_ok (by omega) (by omega)]; omega] at ih
      rw [ih, show w + p[i] * cs[i] + dot (cs.drop (i + 1)) (p.drop (i + 1)) = w + (p[i] * cs[i] + dot (cs.drop (i + 1)) (p.drop (i + 1))) by omega, show t + p[i] + tot (p.drop (i + 1)) = t + (p[i] + tot (p.drop (i + 1))) by omega]
    · rw [decide_eq_false (show ¬ (i : Int) < (p.length : Int) by omega), cond_false]
      rw [List.drop_of_length_le (show p.length ≤ i by omega), List.drop_of_length_le (show cs.length ≤ i by omega)]
      simp [dot, tot]
theorem worth_eq {n : Nat × Nat} (hn : 1000 ≤ n.1) {cs : List Int} (hv : Vld cs) {p : List Int} (hpl : p.length = cs.length) (hp : ∀ x ∈ p, 0 ≤ x ∧ x ≤ 1000) : D51 n cs p = some (dot cs p, tot p, true) := by
  unfold D51
  have hl := hv.len
  rw [show ((p.length : Int) != (cs.length : Int)) = false by simp [hpl], cond_false]
  have := worth_loop (n := n) hv hpl hp n.1 0 0 0 (by omega) (by omega) (by omega) (by omega) (by omega) (by omega)
  simpa using this
end Go.Proofs.Ytjgmfdgpgdaclaa
/-
  Coins: what a purse pays is the first of its payments with the fewest coins.
-/
set_option linter.unusedVariables false
set_option linter.unusedSimpArgs false
namespace Go.Proofs.Ytjgmfdgpgdaclaa
open Go.Vi

theorem pcell_spec {f : Int → Int} {q c x : Int} (hc : 1 ≤ c) : ∀ (k : Nat) (n cur : Int), 0 ≤ n → x < n + k →
    (pcell f q c x k n cur = cur ∨ ∃ m, n ≤ m ∧ m ≤ q ∧ m * c ≤ x ∧ 0 ≤ f (x - m * c) ∧ pcell f q c x k n cur = f (x - m * c) + m) ∧ (0 ≤ cur → 0 ≤ pcell f q c x k n cur ∧ pcell f q c x k n cur ≤ cur) ∧
    (∀ m, n ≤ m → m ≤ q → m * c ≤ x → 0 ≤ f (x - m * c) → 0 ≤ pcell f q c x k n cur ∧ pcell f q c x k n cur ≤ f (x - m * c) + m)
  | 0, n, cur, hn, hx => by
    refine ⟨.inl rfl, fun h => ⟨h, Int.le_refl _⟩, fun m h1 h2 h3 h4 => ?_⟩
    have : m * 1 ≤ m * c := Int.mul_le_mul_of_nonneg_left hc (by omega)
    omega
  | k + 1, n, cur, hn, hx => by
    by_cases h : n ≤ q ∧ n * c ≤ x
    · rw [pcell_go h.1 h.2]
      obtain ⟨a, b, d⟩ := pcell_spec (f := f) (q := q) (x := x) hc k (n + 1) (upd1 cur (f (x - n * c)) n) (by omega) (by omega)
      have hu : upd1 cur (f (x - n * c)) n = cur ∨ (0 ≤ f (x - n * c) ∧ upd1 cur (f (x - n * c)) n = f (x - n * c) + n) := by
        unfold upd1
        cases hb : (decide (0 ≤ f (x - n * c)) && (decide (cur < 0) || decide (f (x - n * c) + n < cur))) with
        | true => simp only [Bool.and_eq_true, decide_eq_true_eq] at hb; exact .inr ⟨hb.1, rfl⟩
        | false => exact .inl rfl
      have hu2 : 0 ≤ cur → 0 ≤ upd1 cur (f (x - n * c)) n ∧ upd1 cur (f (x - n * c)) n ≤ cur := fun h0 => by
        unfold upd1
        cases hb : (decide (0 ≤ f (x - n * c)) && (decide (cur < 0) || decide (f (x - n * c) + n < cur))) with
        | true =>
          simp only [Bool.and_eq_true, Bool.or_eq_true, decide_eq_true_eq] at hb
          rw [cond_true]
          omega
        | false => rw [cond_false]; omega
      have hu3 : 0 ≤ f (x - n * c) → 0 ≤ upd1 cur (f (x - n * c)) n ∧ upd1 cur (f (x - n * c)) n ≤ f (x - n * c) + n := fun h0 => by
        unfold upd1
        cases hb : (decide (0 ≤ f (x - n * c)) && (decide (cur < 0) || decide (f (x - n * c) + n < cur))) with
        | true => rw [cond_true]; omega
        | false =>
          rw [cond_false]
          rw [decide_eq_true h0, Bool.true_and, Bool.or_eq_false_iff] at hb
          have h1 := of_decide_eq_false hb.1
          have h2 := of_decide_eq_false hb.2
          omega
      generalize upd1 cur (f (x - n * c)) n = u at *
      refine ⟨?_, fun h0 => ?_, fun m h1 h2 h3 h4 => ?_⟩
      · rcases a with a | ⟨m, m1, m2, m3, m4, m5⟩
        · rcases hu with hu | ⟨hu, hu'⟩
          · exact .inl (by omega)
          · exact .inr ⟨n, Int.le_refl n, h.1, h.2, hu, by omega⟩
        · exact .inr ⟨m, by omega, m2, m3, m4, m5⟩
      · have := hu2 h0
        have := b this.1
        omega
      · by_cases e : m = n
        · subst e
          have := hu3 h4
          have := b this.1
          omega
        · exact d m (by omega) h2 h3 h4
    · rw [pcell_stop (by omega)]
      refine ⟨.inl rfl, fun h => ⟨h, Int.le_refl _⟩, fun m h1 h2 h3 h4 => ?_⟩
      have : n * c ≤ m * c := Int.mul_le_mul_of_nonneg_right h1 (by omega)
      omega
theorem bc_pay : ∀ {l : List Int} (hp : ∀ c ∈ l, 1 ≤ c) {ps : List Int} {x : Int}, 0 ≤ x → 0 ≤ bc l ps x → ∃ p, Pay l ps x p ∧ tot p = bc l ps x
  | [], _, ps, x, h0, h => by
    unfold bc at h ⊢
    cases hx : x == 0 with
    | true => exact ⟨[], ⟨by simpa using hx, rfl⟩, rfl⟩
    | false => rw [hx] at h; simp at h
  | c :: l, hp, ps, x, h0, h => by
    unfold bc at h ⊢
    obtain ⟨a, _, _⟩ := pcell_spec (f := bc l ps.tail) (q := ps.headD 0) (x := x) (hp c (by simp)) (x.toNat + 1) 0 (-1) (Int.le_refl 0) (by omega)
    rcases a with a | ⟨m, m1, m2, m3, m4, m5⟩
    · omega
    · obtain ⟨p, h1, h2⟩ := bc_pay (fun c h => hp c (by simp [h])) (by omega) m4
      exact ⟨m :: p, ⟨m, p, rfl, m1, m2, h1⟩, by simp only [tot]; omega⟩
theorem bc_le : ∀ {l : List Int} (hp : ∀ c ∈ l, 1 ≤ c) {ps : List Int} {x : Int} {p : List Int}, Pay l ps x p → 0 ≤ bc l ps x ∧ bc l ps x ≤ tot p
  | [], _, ps, x, p, h => by
    rw [h.1, h.2]
    unfold bc
    simp [tot]
  | c :: l, hp, ps, x, p, h => by
    have hx := h.nn hp
    obtain ⟨n, p', rfl, h2, h3, h4⟩ := h
    obtain ⟨a, b⟩ := bc_le (fun c h => hp c (by simp [h])) h4
    have hx2 := h4.nn (fun c h => hp c (by simp [h]))
    obtain ⟨_, _, d⟩ := pcell_spec (f := bc l ps.tail) (q := ps.headD 0) (x := x) (hp c (by simp)) (x.toNat + 1) 0 (-1) (Int.le_refl 0) (by omega)
    have := d n h2 h3 (by omega) a
    unfold bc
    simp only [tot]
    omega
theorem pfind_spec {f : Int → Int} {c t s : Int} (hc : 1 ≤ c) : ∀ (k : Nat) (n : Int), 0 ≤ n → s < n + k → ∀ m, n ≤ m → m * c ≤ s → 0 ≤ f (s - m * c) → f (s - m * c) + m = t → ∃ m', pfind f c t s k n = some m' ∧ n ≤ m' ∧ m' ≤ m ∧ m' * c ≤ s ∧ 0 ≤ f (s - m' * c) ∧ f (s - m' * c) + m' = t ∧ ∀ j, n ≤ j → j < m' → j * c ≤ s → 0 ≤ f (s - j * c) → f (s - j * c) + j ≠ t
  | 0, n, hn, hs, m, h1, h2, h3, h4 => by
    have : m * 1 ≤ m * c := Int.mul_le_mul_of_nonneg_left hc (by omega)
    omega
  | k + 1, n, hn, hs, m, h1, h2, h3, h4 => by
    have hnc : n * c ≤ m * c := Int.mul_le_mul_of_nonneg_right h1 (by omega)
    by_cases h : 0 ≤ f (s - n * c) ∧ f (s - n * c) + n = t
    · exact ⟨n, pfind_hit (by omega) h.1 h.2 k, Int.le_refl n, h1, by omega, h.1, h.2, fun j h1 h2 => by omega⟩
    · rw [pfind_go (by omega) h]
      have hne : m ≠ n := fun e => h (e ▸ ⟨h3, h4⟩)
      obtain ⟨m', a, b, d, e, g, i, j⟩ := pfind_spec hc k (n + 1) (by omega) (by omega) m (by omega) h2 h3 h4
      refine ⟨m', a, by omega, d, e, g, i, fun y y1 y2 y3 y4 => ?_⟩
      by_cases hy : y = n
      · subst hy; exact fun e => h ⟨y4, e⟩
      · exact j y (by omega) y2 y3 y4
theorem pout_best : ∀ {l : List Int} (hp : ∀ c ∈ l, 1 ≤ c) {ps : List Int} {x : Int}, 0 ≤ x → 0 ≤ bc l ps x → IsBst (Pay l ps x) (pout l ps x) ∧ tot (pout l ps x) = bc l ps x
  | [], _, ps, x, h0, h => by
    have hx : x = 0 := by
      unfold bc at h
      cases hx : x == 0 with
      | true => simpa using hx
      | false => rw [hx] at h; simp at h
    subst hx
    exact ⟨⟨⟨rfl, rfl⟩, fun p' h' => .inr ⟨by rw [h'.2]; rfl, by rw [h'.2]; exact Lx.refl _⟩⟩, rfl⟩
  | c :: l, hp, ps, x, h0, h => by
    have hc := hp c (by simp)
    have hpl : ∀ c ∈ l, 1 ≤ c := fun c h => hp c (by simp [h])
    obtain ⟨p, h1, h2⟩ := bc_pay hp h0 h
    obtain ⟨n, p', rfl, n0, nq, h4⟩ := h1
    simp only [tot] at h2
    obtain ⟨a, b⟩ := bc_le hpl h4
    have hx2 := h4.nn hpl
    obtain ⟨_, _, d⟩ := pcell_spec (f := bc l ps.tail) (q := ps.headD 0) (x := x) hc (x.toNat + 1) 0 (-1) (Int.le_refl 0) (by omega)
    have hmin : bc (c :: l) ps x = pcell (bc l ps.tail) (ps.headD 0) c x (x.toNat + 1) 0 (-1) := rfl
    have hn := d n n0 nq (by omega) a
    rw [← hmin] at hn
    obtain ⟨m, e1, e2, e3, e4, e5, e6, e7⟩ := pfind_spec (f := bc l ps.tail) (t := bc (c :: l) ps x) hc (x.toNat + 1) 0 (Int.le_refl 0) (by omega) n n0 (by omega) a (by omega)
    obtain ⟨⟨i1, i2⟩, i3⟩ := pout_best hpl (ps := ps.tail) (x := x - m * c) (by omega) e5
    have hpo : pout (c :: l) ps x = m :: pout l ps.tail (x - m * c) := by
      rw [pout, e1]
    rw [hpo]
    refine ⟨⟨⟨m, _, rfl, e2, by omega, i1⟩, ?_⟩, by simp only [tot]; omega⟩
    rintro q ⟨j, q', rfl, j0, jq, j4⟩
    obtain ⟨k1, k2⟩ := bc_le hpl j4
    have hx3 := j4.nn hpl
    have hj := d j j0 jq (by omega) k1
    rw [← hmin] at hj
    simp only [tot]
    by_cases hlt : m + tot (pout l ps.tail (x - m * c)) < j + tot q'
    · exact .inl hlt
    · right
      refine ⟨by omega, ?_⟩
      by_cases hjm : j < m
      · exact absurd (by omega) (e7 j j0 hjm (by omega) k1)
      · by_cases e : m = j
        · subst e
          refine .inr ⟨rfl, ?_⟩
          rcases i2 q' j4 with h9 | ⟨_, h9⟩
          · omega
          · exact h9
        · exact .inl (by omega)

theorem clone_eq2 {n : Nat × Nat} {cs : List Int} (h : 0 < cs.length) (hl : cs.length ≤ 1000) : D46 n cs = some cs := by
  unfold D46
  cases cs with
  | nil => simp at h
  | cons a l =>
    rw [decide_eq_true (show ([] : List Int).length + (a :: l).length ≤ lim by simp [lim]; simp at hl; omega)]
    rfl
theorem repB200 : repB 200 7 = true := by kernel_rfl
theorem rep200 {k : Nat} (h : k < 7) : D52 N [200] (k : Int) = some (List.replicate k 200) := by
  have := List.all_eq_true.1 repB200 k (by simpa using h)
  simpa using this
/-- What a purse pays. -/
theorem purse_eq {cs ps : List Int} {s : Int} (hv : Vld cs) (s0 : 0 ≤ s) (s1 : s ≤ 200) (hl : ps.length = cs.length) (hq : ∀ q ∈ ps, 0 ≤ q ∧ q ≤ 200) :
    (D41 N cs ps s = some ([], 12) ∧ ∀ p, ¬ Pay cs ps s p) ∨ ∃ p, D41 N cs ps s = some (p, 0) ∧ IsBst (Pay cs ps s) p := by
  unfold D41 HF41
  have hcl := hv.len
  have hcp := hv.pos
  have hc0 : cnt cs ps = 0 := by unfold cnt; rw [if_neg (by simpa using hl), if_pos hq]
  rw [smd_eq hN1, smd_ok hv s0 s1]
  simp only [Option.bind_some, show ((0 : Int) != 0) = false from rfl, cond_false]
  rw [cnt_eq hN1 cs ps hcp (by omega), hc0]
  simp only [Option.bind_some, show ((0 : Int) != 0) = false from rfl, cond_false]
  obtain ⟨s', rfl⟩ := Int.eq_ofNat_of_zero_le s0
  rw [show (s' : Int) + 1 = ((s' + 1 : Nat) : Int) by omega, rep_eq (by omega)]
  simp only [Option.bind_some]
  rw [clone_eq2 (by simp) (by simp; omega)]
  simp only [Option.bind_some]
  have hb : ((cs.all fun c => decide (1 ≤ c) && decide (c ≤ 40)) && (decide (0 < cs.length) && decide (cs.length ≤ 6)) && (decide (0 ≤ (s' : Int)) && decide ((s' : Int) ≤ 200)) && (decide (ps.length = cs.length) && ps.all fun q => decide (0 ≤ q) && decide (q ≤ 200)) &&
      (decide (List.replicate (s' + 1) (-1 : Int) = List.replicate ((s' : Int).toNat + 1) (-1)) && decide True)) = true := by
    simp only [Bool.and_eq_true, decide_eq_true_eq, List.all_eq_true, Int.toNat_natCast]
    exact ⟨⟨⟨⟨fun c hc => hv.rng c hc, hcp, hcl⟩, s0, s1⟩, hl, hq⟩, trivial, trivial⟩
  rw [hb, cond_true]
  by_cases hn : bc cs ps s' < 0
  · left
    rw [decide_eq_true hn, cond_true]
    refine ⟨rfl, fun p hp => ?_⟩
    have := bc_le hv.mnt.pos hp
    omega
  · right
    rw [decide_eq_false hn, cond_false]
    exact ⟨_, rfl, (pout_best hv.mnt.pos s0 (by omega)).1⟩

/-- A payment out of itself is the only one. -/
theorem Pay.self : ∀ {cs : List Int} (hp : ∀ c ∈ cs, 1 ≤ c) {f : List Int} {s s' : Int} {p : List Int}, Pay cs f s p → PayU cs s' f → s ≤ s' ∧ (s = s' → p = f)
  | [], _, f, s, s', p, h, k => by
    rw [h.1, k.1]
    exact ⟨Int.le_refl 0, fun _ => by rw [h.2, k.2]⟩
  | c :: l, hp, f, s, s', p, ⟨n, p', h1, h2, h3, h4⟩, ⟨m, f', k1, k2, k3⟩ => by
    subst h1
    subst k1
    have h3 : n ≤ m := h3
    obtain ⟨a, b⟩ := Pay.self (fun c h => hp c (by simp [h])) (f := f') h4 k3
    have hc := hp c (by simp)
    have hm : n * c ≤ m * c := Int.mul_le_mul_of_nonneg_right h3 (by omega)
    refine ⟨by omega, fun e => ?_⟩
    have hmn : m = n := by
      by_cases e2 : n < m
      · have : (n + 1) * c ≤ m * c := Int.mul_le_mul_of_nonneg_right (by omega) (by omega)
        rw [Int.add_mul] at this
        omega
      · omega
    subst hmn
    rw [b (by omega)]
theorem PayU.own : ∀ {cs : List Int} {s : Int} {f : List Int}, PayU cs s f → Pay cs f s f
  | [], s, f, h => h
  | c :: l, s, f, ⟨n, p', h1, h2, h3⟩ => by
    subst h1
    exact ⟨n, p', rfl, h2, Int.le_refl n, h3.own⟩
theorem purse_self {cs f : List Int} {s : Int} (hv : Vld cs) (s0 : 0 ≤ s) (s1 : s ≤ 200) (hf : PayU cs s f) : D41 N cs f s = some (f, 0) := by
  have hb : ∀ q ∈ f, 0 ≤ q ∧ q ≤ 200 := fun q hq => by
    have h1 := hf.mem hv.mnt.pos q hq
    have h2 := PayU.sum hv.mnt.pos hf
    omega
  rcases purse_eq hv s0 s1 hf.length hb with ⟨_, h⟩ | ⟨p, h1, h2⟩
  · exact absurd hf.own (h f)
  · rw [h1, (h2.1.self hv.mnt.pos hf).2 rfl]
theorem Pay.more : ∀ {cs : List Int} {a b : List Int} {s : Int} {p : List Int}, (∀ i : Nat, a[i]?.getD 0 ≤ b[i]?.getD 0) → Pay cs a s p → Pay cs b s p
  | [], _, _, _, _, _, h => h
  | c :: l, a, b, s, p, hab, ⟨n, p', h1, h2, h3, h4⟩ => by
    have h0 := hab 0
    have ha : a.headD 0 = a[0]?.getD 0 := by cases a <;> rfl
    have hb : b.headD 0 = b[0]?.getD 0 := by cases b <;> rfl
    refine ⟨n, p', h1, h2, by omega, Pay.more (fun i => ?_) h4⟩
    have h5 := hab (i + 1)
    have ta : a.tail[i]? = a[i + 1]? := by cases a <;> simp
    have tb : b.tail[i]? = b[i + 1]? := by cases b <;> simp
    rw [ta, tb]
    exact h5
theorem bst_le {A B : List Int → Prop} {p q : List Int} (h : IsBst A p) (k : IsBst B q) (hAB : ∀ p, A p → B p) : tot q ≤ tot p := by
  rcases k.2 p (hAB p h.1) with h1 | ⟨h1, _⟩ <;> omega
end Go.Proofs.Ytjgmfdgpgdaclaa
/-
  Coins: one coin more, how far sums are paid, change: both sides.
-/
set_option linter.unusedVariables false
set_option linter.unusedSimpArgs false
namespace Go.Proofs.Ytjgmfdgpgdaclaa
open Go.Vi

/-! ### One coin more -/
def lastC (cs : List Int) : Int := cs[cs.length - 1]?.getD 0
theorem lastC_get {cs : List Int} (h : 0 < cs.length) : lastC cs = cs[cs.length - 1]'(by omega) := by
  unfold lastC
  rw [List.getElem?_eq_getElem (by omega), Option.getD_some]
theorem idx_last {cs : List Int} (h : 0 < cs.length) (hl : cs.length ≤ 100) : idx cs (wr .i64 ((cs.length : Int) - 1)) = some (lastC cs) := by
  rw [idx_int (k := cs.length - 1) (by rw [wr_ok (by omega) (by omega)]; omega) (by omega), lastC_get h]
theorem lastC_rng {cs : List Int} (h : Vld cs) : 1 ≤ lastC cs ∧ lastC cs ≤ 40 := by
  rw [lastC_get h.pos]
  exact h.rng _ (List.getElem_mem _)
noncomputable def withS (cs : List Int) (c : Int) : Bool × Int :=
  if chk cs ≠ 0 then (false, chk cs) else if cs.length = 6 then (false, 3) else if 40 < c then (false, 1) else if c ≤ lastC cs then (false, 7) else if 0 < fbad cs then (false, 13) else (decide (fbad (cs ++ [c]) = 0), 0)
theorem fbad_nn {cs : List Int} (h : Vld cs) : 0 ≤ fbad cs := by
  rcases fbad_spec h.mnt with ⟨e, _⟩ | ⟨e, _⟩ <;> omega
theorem with_eq {n : Nat × Nat} (hn : 1000 ≤ n.1) (cs : List Int) (c : Int) : D33 n cs c = some (withS cs c) := by
  unfold D33 withS
  rw [chk_eq hn]
  simp only [Option.bind_some]
  by_cases h : chk cs = 0
  · have hv := chk_vld h
    have hp := hv.pos
    have hl := hv.len
    rw [show (chk cs != 0) = false by simp [h], cond_false, if_neg (by simpa using h)]
    by_cases h6 : cs.length = 6
    · rw [show ((cs.length : Int) == 6) = true by simp [h6], cond_true, if_pos h6]
    rw [show ((cs.length : Int) == 6) = false by simpa using (show ¬ (cs.length : Int) = 6 by omega), cond_false, if_neg h6]
    by_cases h40 : 40 < c
    · rw [decide_eq_true (show c > 40 from h40), cond_true, if_pos h40]
    rw [decide_eq_false (show ¬ c > 40 from h40), cond_false, if_neg h40, idx_last hp (by omega)]
    simp only [Option.bind_some]
    by_cases hcl : c ≤ lastC cs
    · rw [decide_eq_true hcl, cond_true, if_pos hcl]
    rw [decide_eq_false hcl, cond_false, if_neg hcl, bad_eq hn hv]
    simp only [Option.bind_some]
    have hfn := fbad_nn hv
    by_cases hfb : 0 < fbad cs
    · rw [decide_eq_true (show fbad cs > 0 from hfb), cond_true, if_pos hfb]
    rw [decide_eq_false (show ¬ fbad cs > 0 from hfb), cond_false, if_neg hfb]
    have hd := lastC_rng hv
    rw [show (lastC cs == 0) = false by simpa using (show lastC cs ≠ 0 by omega), cond_false]
    have h46 : D46 n cs = some cs := by
      unfold D46
      cases cs with
      | nil => simp at hp
      | cons a l =>
        rw [decide_eq_true (show ([] : List Int).length + (a :: l).length ≤ lim by simp [lim]; simp at hl; omega)]
        rfl
    rw [h46]
    simp only [Option.bind_some]
    rw [decide_eq_true (show cs.length + [c].length ≤ lim by simp [lim]; omega), cond_true]
    have hvs := hv.snoc (by omega) (show cs[cs.length - 1]?.getD 0 < c by show lastC cs < c; omega) (show c ≤ 40 by omega)
    generalize hlc : lastC cs = d at *
    rw [wr_ok (x := c + d) (by omega) (by omega), wr_ok (x := c + d - 1) (by omega) (by omega), Int.tdiv_eq_ediv_of_nonneg (by omega)]
    have hm4 := Int.mul_ediv_add_emod (c + d - 1) d
    have hm5 := Int.emod_nonneg (c + d - 1) (show d ≠ 0 by omega)
    have hm6 := Int.emod_lt_of_pos (c + d - 1) (show 0 < d by omega)
    have hm7 := Int.ediv_nonneg (show 0 ≤ c + d - 1 by omega) (show 0 ≤ d by omega)
    have hm8 : (c + d - 1) / d * 1 ≤ (c + d - 1) / d * d := Int.mul_le_mul_of_nonneg_left hd.1 hm7
    rw [Int.mul_comm] at hm4
    generalize (c + d - 1) / d = m at *
    rw [wr_ok (x := m) (by omega) (by omega), wr_ok (x := m * d) (by omega) (by omega), great_eq hvs (by omega) (by omega)]
    simp only [Option.bind_some]
    have hone := one_iff hv hvs (show cs[cs.length - 1]?.getD 0 = d from hlc) (show d < c by omega) (show fbad cs = 0 by omega) (m := m) (by omega) (by omega)
    by_cases hx : (gr (cs ++ [c]) (m * d)).2.1 ≤ m
    · rw [decide_eq_true hx, decide_eq_true (hone.1 hx)]
    · rw [decide_eq_false hx, decide_eq_false (fun e => hx (hone.2 e))]
  · rw [show (chk cs != 0) = true by simpa using h, cond_true, if_pos h]
theorem rwith_eq {n : Nat × Nat} (hn : 1000 ≤ n.1) (cs : List Int) (c : Int) : D34 n cs c = some (withS cs c) := by
  unfold D34 withS
  rw [chkr_eq hn]
  simp only [Option.bind_some]
  by_cases h : chk cs = 0
  · have hv := chk_vld h
    have hp := hv.pos
    have hl := hv.len
    rw [if_neg (by simpa using h), h]
    simp only [show ((0 : Int) == 0) = true from rfl, show (true == true) = true from rfl, cond_true, Option.bind_some, show ((0 : Int) != 0) = false from rfl]
    by_cases h6 : cs.length = 6
    · rw [show ((cs.length : Int) == 6) = true by simp [h6], cond_true, if_pos h6]
      rfl
    rw [show ((cs.length : Int) == 6) = false by simpa using (show ¬ (cs.length : Int) = 6 by omega), cond_false, if_neg h6]
    by_cases h40 : 40 < c
    · rw [decide_eq_true (show c > 40 from h40), cond_true, if_pos h40]
      rfl
    rw [decide_eq_false (show ¬ c > 40 from h40), cond_false, if_neg h40, idx_last hp (by omega)]
    simp only [Option.bind_some]
    by_cases hcl : c ≤ lastC cs
    · rw [decide_eq_true hcl, cond_true, if_pos hcl]
      rfl
    rw [decide_eq_false hcl, cond_false, if_neg hcl, rbad_eq hn hv]
    simp only [Option.bind_some]
    by_cases hfb : 0 < fbad cs
    · rw [decide_eq_true (show fbad cs > 0 from hfb), cond_true, if_pos hfb]
      rfl
    rw [decide_eq_false (show ¬ fbad cs > 0 from hfb), cond_false, if_neg hfb]
    have hvs := hv.snoc (by omega) (show cs[cs.length - 1]?.getD 0 < c by show lastC cs < c; omega) (show c ≤ 40 by omega)
    rw [decide_eq_true (show ([] : List Int).length + cs.length ≤ lim by simp [lim]; omega), decide_eq_true (show (([] : List Int) ++ cs).length + [c].length ≤ lim by simp [lim]; omega), cond_false, cond_true, cond_true, List.nil_append, rbad_eq hn hvs]
    simp only [Option.bind_some]
    by_cases h2 : fbad (cs ++ [c]) = 0 <;> simp [h2]
  · rw [if_pos h]
    simp only [show (chk cs == 0) = false by simpa using h, show (false == true) = false from rfl, cond_false, Option.bind_some, show (chk cs != 0) = true by simpa using h, cond_true]

/-! ### How far -/
theorem rs_iff {l : List Int} : ∀ (k : Nat) (x : Int), rs l k x = true ↔ ∃ m, m ≤ k ∧ Rch l m x
  | 0, x => by
    simp only [rs, beq_iff_eq]
    constructor
    · intro h; exact ⟨0, Nat.le_refl 0, h⟩
    · rintro ⟨m, hm, h⟩
      obtain rfl : m = 0 := by omega
      exact h
  | k + 1, x => by
    simp only [rs, Bool.or_eq_true, List.any_eq_true, rs_iff k]
    constructor
    · rintro (⟨m, hm, h⟩ | ⟨c, hc, m, hm, h⟩)
      · exact ⟨m, by omega, h⟩
      · exact ⟨m + 1, by omega, c, hc, h⟩
    · rintro ⟨m, hm, h⟩
      cases m with
      | zero => exact .inl ⟨0, by omega, h⟩
      | succ m =>
        obtain ⟨c, hc, h⟩ := h
        exact .inr ⟨c, hc, m, by omega, h⟩
theorem rs_opt {l : List Int} (h : Mnt l) {k : Nat} {x : Int} (hx : 0 ≤ x) : rs l k x = decide (opt l x ≤ (k : Int)) := by
  rw [Bool.eq_iff_iff, rs_iff, decide_eq_true_eq]
  constructor
  · rintro ⟨m, hm, h1⟩
    have := opt_le h h1
    omega
  · intro h1
    obtain ⟨m, a, b, _⟩ := opt_spec h hx
    exact ⟨m, by omega, b⟩
theorem rch_top {cs : List Int} (hv : Vld cs) : ∀ {n : Nat} {s : Int}, Rch cs n s → s ≤ 40 * n
  | 0, s, h => by have h : s = 0 := h; omega
  | n + 1, s, ⟨c, hc, h⟩ => by have := rch_top hv h; have := hv.rng c hc; omega
theorem opt_top {cs : List Int} (hv : Vld cs) {s : Int} (hs : 0 ≤ s) : s ≤ 40 * opt cs s := by
  obtain ⟨m, a, b, _⟩ := opt_spec hv.mnt hs
  have := rch_top hv b
  omega
noncomputable def reachS (cs : List Int) (many : Int) : Int × Int := if chk cs ≠ 0 then (0, chk cs) else if many < 0 ∨ 5 < many then (0, 1) else (upTo (rs cs many.toNat) 300 0, 0)
theorem reach_eq {n : Nat × Nat} (hn : 1000 ≤ n.1) (cs : List Int) (many : Int) : D35 n cs many = some (reachS cs many) := by
  unfold D35 HF35 reachS
  rw [chk_eq hn]
  simp only [Option.bind_some]
  by_cases h : chk cs = 0
  · have hv := chk_vld h
    rw [show (chk cs != 0) = false by simp [h], cond_false, if_neg (by simpa using h)]
    by_cases h1 : many < 0
    · rw [decide_eq_true h1, Bool.true_or, cond_true, if_pos (.inl h1)]
    · by_cases h2 : many > 5
      · rw [decide_eq_true h2, Bool.or_true, cond_true, if_pos (.inr h2)]
      · rw [decide_eq_false h1, decide_eq_false h2, Bool.or_self, cond_false, if_neg (by omega)]
        have hb : ((cs.all fun c => decide (1 ≤ c) && decide (c ≤ 40)) && (decide (0 < cs.length) && decide (cs.length ≤ 6))) = true := by
          simp only [Bool.and_eq_true, decide_eq_true_eq, List.all_eq_true]
          exact ⟨fun c hc => hv.rng c hc, hv.pos, hv.len⟩
        rw [hb, cond_true]
  · rw [show (chk cs != 0) = true by simpa using h, cond_true, if_pos h]
theorem rreach_loop (n : Nat × Nat) {cs : List Int} (hv : Vld cs) (k : Nat) (hk : k ≤ 5) : ∀ (m s : Nat), s ≤ 200 → 200 - s < m → ∀ K, 200 - s < K → DL36_1 n m (k : Int) (s : Int) (ftab cs 201) = some (upTo (rs cs k) K s, 0)
  | 0, s, _, h, _, _ => by omega
  | m + 1, s, hs, h, 0, hK => by omega
  | m + 1, s, hs, h, K + 1, hK => by
    rw [DL36_1_succ]
    unfold DF36_1
    have hsl : s + 1 < (ftab cs 201).length := by rw [ftab_length]; omega
    rw [show wr .i64 ((s : Int) + 1) = ((s + 1 : Nat) : Int) by rw [wr_ok (by omega) (by omega)]; omega, inB_nat hsl, cond_true, idx_nat hsl, ftab_get]
    simp only [Option.bind_some, upTo]
    have hro := rs_opt hv.mnt (k := k) (x := (s : Int) + 1) (by omega)
    rw [hro, show ((s + 1 : Nat) : Int) = (s : Int) + 1 by omega]
    by_cases h1 : opt cs ((s : Int) + 1) ≤ (k : Int)
    · rw [decide_eq_true h1, cond_true, cond_true]
      have ht := opt_top hv (s := (s : Int) + 1) (by omega)
      have ih := rreach_loop n hv k hk m (s + 1) (by omega) (by omega) K (by omega)
      rw [show ((s + 1 : Nat) : Int) = (s : Int) + 1 by omega] at ih
      exact ih
    · rw [decide_eq_false h1, cond_false, cond_false]
theorem rreach_eq {n : Nat × Nat} (hn : 1000 ≤ n.1) (cs : List Int) (many : Int) : D36 n cs many = some (reachS cs many) := by
  unfold D36 reachS
  rw [chkr_eq hn]
  simp only [Option.bind_some, in_eq]
  by_cases h : chk cs = 0
  · have hv := chk_vld h
    rw [if_neg (by simpa using h), h]
    simp only [show ((0 : Int) == 0) = true from rfl, show (true == true) = true from rfl, cond_true, Option.bind_some, show ((0 : Int) != 0) = false from rfl, show ((1 : Int) != 0) = true from rfl, cond_false]
    by_cases h1 : many < 0 ∨ 5 < many
    · have hx : (!(decide (0 ≤ many) && decide (many ≤ 5))) = true := by
        rcases h1 with h1 | h1
        · rw [decide_eq_false (by omega)]; rfl
        · rw [decide_eq_false (show ¬ many ≤ 5 by omega), Bool.and_false]; rfl
      rw [if_pos h1, hx, cond_true]
      rfl
    · rw [if_neg h1, decide_eq_true (show 0 ≤ many by omega), decide_eq_true (show many ≤ 5 by omega)]
      simp only [Bool.and_self, Bool.not_true, cond_false]
      have hf := rfew_eq hn hv 201 (by omega)
      rw [show ((201 : Nat) : Int) = 201 from rfl] at hf
      rw [hf]
      simp only [Option.bind_some]
      obtain ⟨k, rfl⟩ := Int.eq_ofNat_of_zero_le (show 0 ≤ many by omega)
      exact rreach_loop n hv k (by omega) n.1 0 (by omega) (by omega) 300 (by omega)
  · rw [if_pos h]
    simp only [show (chk cs == 0) = false by simpa using h, show (false == true) = false from rfl, cond_false, Option.bind_some, show (chk cs != 0) = true by simpa using h, cond_true]

/-! ### Change -/
noncomputable def chgL (cs : List Int) (s : Int) : Nat → Int → Int → Int → Int × Int
  | 0, _, pay, back => (pay, back)
  | k + 1, x, pay, back =>
    if opt cs (s + x) + opt cs x < pay + back ∨ (opt cs (s + x) + opt cs x = pay + back ∧ opt cs x < back) then chgL cs s k (x + 1) (opt cs (s + x)) (opt cs x) else chgL cs s k (x + 1) pay back
noncomputable def changeS (cs : List Int) (s : Int) : Int × Int × Int := if smd cs s ≠ 0 then (0, 0, smd cs s) else ((chgL cs s (lastC cs).toNat 1 (opt cs s) 0).1, (chgL cs s (lastC cs).toNat 1 (opt cs s) 0).2, 0)
theorem chg_loop (n : Nat × Nat) {cs : List Int} (hv : Vld cs) (s M L : Nat) (hM : M ≤ 900) (hL : s + L ≤ M) : ∀ (m x : Nat) (pay back : Int), x ≤ L + 1 → L + 1 - x < m → 0 ≤ pay → pay ≤ 1000 → 0 ≤ back → back ≤ 1000 →
    DL39_1 n m (s : Int) pay back 0 (L + 1) ((L + 1 : Nat) : Int) (x : Int) (ftab cs M) = some ((chgL cs s (L + 1 - x) x pay back).1, (chgL cs s (L + 1 - x) x pay back).2, 0)
  | 0, x, pay, back, _, h, _, _, _, _ => by omega
  | m + 1, x, pay, back, hx, h, p0, p1, b0, b1 => by
    rw [DL39_1_succ]
    unfold DF39_1
    by_cases hlt : x < L + 1
    · have hvl : (((ftab cs M).drop 0).take (L + 1)).length = L + 1 := by simp [ftab_length]; omega
      have hxl : x < (((ftab cs M).drop 0).take (L + 1)).length := by omega
      have hsl : s + x < (ftab cs M).length := by rw [ftab_length]; omega
      rw [decide_eq_true (show (x : Int) < ((L + 1 : Nat) : Int) by omega), cond_true, inB_nat hxl, cond_true, idx_nat hxl]
      simp only [Option.bind_some]
      rw [show wr .i64 ((s : Int) + (x : Int)) = ((s + x : Nat) : Int) by rw [wr_ok (by omega) (by omega)]; omega, inB_nat hsl, cond_true, idx_nat hsl, ftab_get]
      simp only [Option.bind_some, List.getElem_take, List.drop_zero, ftab_get, DL39_2]
      have o1 := opt_nonneg hv.mnt (s := ((s + x : Nat) : Int)) (by omega)
      have o2 := opt_self hv.mnt (s := ((s + x : Nat) : Int)) (by omega)
      have o3 := opt_nonneg hv.mnt (s := (x : Int)) (by omega)
      have o4 := opt_self hv.mnt (s := (x : Int)) (by omega)
      rw [show L + 1 - x = (L + 1 - (x + 1)) + 1 by omega]
      simp only [chgL]
      rw [show (s : Int) + (x : Int) = ((s + x : Nat) : Int) by omega]
      have ih := chg_loop n hv s M L hM hL m (x + 1)
      rw [show ((x + 1 : Nat) : Int) = wr .i64 ((x : Int) + 1) by rw [wr_ok (by omega) (by omega)]; omega] at ih
      have hw1 : wr .i64 ((x : Int) + 1) = (x : Int) + 1 := wr_ok (by omega) (by omega)
      generalize opt cs ((s + x : Nat) : Int) = a at *
      generalize opt cs (x : Int) = b at *
      rw [wr_ok (x := a + b) (by omega) (by omega), wr_ok (x := a + b - pay) (by omega) (by omega), wr_ok (x := a + b - pay - back) (by omega) (by omega)]
      by_cases c1 : a + b - pay - back < 0
      · rw [decide_eq_true c1, if_pos (.inl (by omega))]
        simp only [show (true == false) = false from rfl, cond_false, Option.bind_some, cond_true]
        rw [ih a b (by omega) (by omega) o1 (by omega) o3 (by omega), hw1]
      · rw [decide_eq_false c1]
        simp only [show (false == false) = true from rfl, cond_true]
        by_cases c2 : a + b - pay - back = 0
        · rw [show (a + b - pay - back == 0) = true by simpa using c2]
          simp only [show (true == true) = true from rfl, cond_true, Option.bind_some]
          by_cases c3 : b < back
          · rw [decide_eq_true c3, if_pos (.inr ⟨by omega, c3⟩)]
            simp only [cond_true]
            rw [ih a b (by omega) (by omega) o1 (by omega) o3 (by omega), hw1]
          · rw [decide_eq_false c3, if_neg (by omega)]
            simp only [cond_false]
            rw [ih pay back (by omega) (by omega) p0 p1 b0 b1, hw1]
        · rw [show (a + b - pay - back == 0) = false by simpa using c2, if_neg (by omega)]
          simp only [show (false == true) = false from rfl, cond_false, Option.bind_some]
          rw [ih pay back (by omega) (by omega) p0 p1 b0 b1, hw1]
    · rw [decide_eq_false (show ¬ (x : Int) < ((L + 1 : Nat) : Int) by omega), cond_false, show L + 1 - x = 0 by omega]
      rfl
theorem chgL_zero {cs : List Int} (hv : Vld cs) {s : Int} (k : Nat) : chgL cs s (k + 1) 0 (opt cs s) 0 = chgL cs s k 1 (opt cs s) 0 := by
  simp only [chgL]
  rw [Int.add_zero, opt_zero hv.mnt, if_neg (by omega), Int.zero_add]
theorem change_eq {n : Nat × Nat} (hn : 1000 ≤ n.1) (cs : List Int) (s : Int) : D39 n cs s = some (changeS cs s) := by
  unfold D39 changeS
  rw [smd_eq hn]
  simp only [Option.bind_some]
  by_cases h : smd cs s = 0
  · obtain ⟨hv, h0, h1⟩ := smd_zero h
    have hp := hv.pos
    have hl := hv.len
    have hd := lastC_rng hv
    rw [show (smd cs s != 0) = false by simp [h], cond_false, if_neg (by simpa using h), idx_last hp (by omega)]
    simp only [Option.bind_some]
    obtain ⟨s', rfl⟩ := Int.eq_ofNat_of_zero_le h0
    obtain ⟨L, hL⟩ := Int.eq_ofNat_of_zero_le (show 0 ≤ lastC cs by omega)
    rw [hL] at hd ⊢
    rw [show wr .i64 ((s' : Int) + (L : Int)) = ((s' + L : Nat) : Int) by rw [wr_ok (by omega) (by omega)]; omega, few_eq hn hv (s' + L) (by omega)]
    simp only [Option.bind_some]
    have hsl : s' < (ftab cs (s' + L)).length := by rw [ftab_length]; omega
    rw [inB_nat hsl, cond_true, idx_nat hsl, ftab_get]
    simp only [Option.bind_some]
    have hw : wr .i64 ((L : Int) + 1) = ((L + 1 : Nat) : Int) := by rw [wr_ok (by omega) (by omega)]; omega
    rw [hw, show bounds none (some ((L + 1 : Nat) : Int)) none (ftab cs (s' + L)).length = true by first | (simp [bounds, ftab_length]; done) | (simp [bounds, ftab_length]; omega), cond_true]
    rw [show (Int.toNat ((L + 1 : Nat) : Int)) - 0 = L + 1 by omega, show (0 + 0 : Nat) = 0 from rfl, show ((((ftab cs (s' + L)).drop 0).take (L + 1)).length : Int) = ((L + 1 : Nat) : Int) by first | (simp [ftab_length]; done) | (simp [ftab_length]; omega)]
    have ho := opt_nonneg hv.mnt (s := (s' : Int)) (by omega)
    have ho2 := opt_self hv.mnt (s := (s' : Int)) (by omega)
    have := chg_loop n hv s' (s' + L) L (by omega) (Nat.le_refl _) n.1 0 (opt cs s') 0 (by omega) (by omega) ho (by omega) (Int.le_refl 0) (by omega)
    rw [Nat.sub_zero, show ((0 : Nat) : Int) = 0 from rfl, chgL_zero hv] at this
    rw [Int.toNat_natCast]
    exact this
  · rw [show (smd cs s != 0) = true by simpa using h, cond_true, if_pos h]
theorem rchg_loop (n : Nat × Nat) {cs : List Int} (hv : Vld cs) (s M L : Nat) (hM : M ≤ 900) (hL : s + L ≤ M) : ∀ (m x : Nat) (pay back : Int), 1 ≤ x → x ≤ L + 1 → L + 1 - x < m → 0 ≤ pay → pay ≤ 1000 → 0 ≤ back → back ≤ 1000 →
    DL40_1 n m (s : Int) (L : Int) pay back (x : Int) (ftab cs M) = some ((chgL cs s (L + 1 - x) x pay back).1, (chgL cs s (L + 1 - x) x pay back).2, 0)
  | 0, x, pay, back, _, _, h, _, _, _, _ => by omega
  | m + 1, x, pay, back, hx1, hx, h, p0, p1, b0, b1 => by
    rw [DL40_1_succ]
    unfold DF40_1
    by_cases hlt : x < L + 1
    · have hxl : x < (ftab cs M).length := by rw [ftab_length]; omega
      have hsl : s + x < (ftab cs M).length := by rw [ftab_length]; omega
      rw [decide_eq_true (show (x : Int) ≤ (L : Int) by omega), cond_true]
      rw [show wr .i64 ((s : Int) + (x : Int)) = ((s + x : Nat) : Int) by rw [wr_ok (by omega) (by omega)]; omega, inB_nat hsl, cond_true, idx_nat hsl, ftab_get]
      simp only [Option.bind_some]
      rw [inB_nat hxl, cond_true, idx_nat hxl, ftab_get]
      simp only [Option.bind_some, DL40_2]
      have o1 := opt_nonneg hv.mnt (s := ((s + x : Nat) : Int)) (by omega)
      have o2 := opt_self hv.mnt (s := ((s + x : Nat) : Int)) (by omega)
      have o3 := opt_nonneg hv.mnt (s := (x : Int)) (by omega)
      have o4 := opt_self hv.mnt (s := (x : Int)) (by omega)
      rw [show L + 1 - x = (L + 1 - (x + 1)) + 1 by omega]
      simp only [chgL]
      rw [show (s : Int) + (x : Int) = ((s + x : Nat) : Int) by omega]
      have ih := rchg_loop n hv s M L hM hL m (x + 1)
      rw [show ((x + 1 : Nat) : Int) = wr .i64 ((x : Int) + 1) by rw [wr_ok (by omega) (by omega)]; omega] at ih
      have hw1 : wr .i64 ((x : Int) + 1) = (x : Int) + 1 := wr_ok (by omega) (by omega)
      generalize opt cs ((s + x : Nat) : Int) = a at *
      generalize opt cs (x : Int) = b at *
      rw [wr_ok (x := a + b) (by omega) (by omega), wr_ok (x := pay + back) (by omega) (by omega)]
      by_cases c1 : a + b < pay + back
      · rw [decide_eq_true c1, if_pos (.inl c1)]
        simp only [show (true == false) = false from rfl, cond_false, Option.bind_some, cond_true]
        rw [ih a b (by omega) (by omega) (by omega) o1 (by omega) o3 (by omega), hw1]
      · rw [decide_eq_false c1]
        simp only [show (false == false) = true from rfl, cond_true]
        by_cases c2 : a + b = pay + back
        · rw [show (a + b == pay + back) = true by simpa using c2]
          simp only [show (true == true) = true from rfl, cond_true, Option.bind_some]
          by_cases c3 : b < back
          · rw [decide_eq_true c3, if_pos (.inr ⟨c2, c3⟩)]
            simp only [cond_true]
            rw [ih a b (by omega) (by omega) (by omega) o1 (by omega) o3 (by omega), hw1]
          · rw [decide_eq_false c3, if_neg (by omega)]
            simp only [cond_false]
            rw [ih pay back (by omega) (by omega) (by omega) p0 p1 b0 b1, hw1]
        · rw [show (a + b == pay + back) = false by simpa using c2, if_neg (by omega)]
          simp only [show (false == true) = false from rfl, cond_false, Option.bind_some]
          rw [ih pay back (by omega) (by omega) (by omega) p0 p1 b0 b1, hw1]
    · rw [decide_eq_false (show ¬ (x : Int) ≤ (L : Int) by omega), cond_false, show L + 1 - x = 0 by omega]
      rfl
theorem rchange_eq {n : Nat × Nat} (hn : 1000 ≤ n.1) (cs : List Int) (s : Int) : D40 n cs s = some (changeS cs s) := by
  unfold D40 changeS
  rw [smdr_eq hn]
  simp only [Option.bind_some]
  by_cases h : smd cs s = 0
  · obtain ⟨hv, h0, h1⟩ := smd_zero h
    have hp := hv.pos
    have hl := hv.len
    have hd := lastC_rng hv
    rw [show (smd cs s != 0) = false by simp [h], cond_false, if_neg (by simpa using h), idx_last hp (by omega)]
    simp only [Option.bind_some]
    obtain ⟨s', rfl⟩ := Int.eq_ofNat_of_zero_le h0
    obtain ⟨L, hL⟩ := Int.eq_ofNat_of_zero_le (show 0 ≤ lastC cs by omega)
    rw [hL] at hd ⊢
    rw [show wr .i64 ((s' : Int) + (L : Int)) = ((s' + L : Nat) : Int) by rw [wr_ok (by omega) (by omega)]; omega, rfew_eq hn hv (s' + L) (by omega)]
    simp only [Option.bind_some]
    have hsl : s' < (ftab cs (s' + L)).length := by rw [ftab_length]; omega
    rw [inB_nat hsl, cond_true, idx_nat hsl, ftab_get]
    simp only [Option.bind_some]
    have ho := opt_nonneg hv.mnt (s := (s' : Int)) (by omega)
    have ho2 := opt_self hv.mnt (s := (s' : Int)) (by omega)
    have := rchg_loop n hv s' (s' + L) L (by omega) (Nat.le_refl _) n.1 1 (opt cs s') 0 (Nat.le_refl 1) (by omega) (by omega) ho (by omega) (Int.le_refl 0) (by omega)
    rw [show L + 1 - 1 = L by omega] at this
    rw [Int.toNat_natCast]
    exact this
  · rw [show (smd cs s != 0) = true by simpa using h, cond_true, if_pos h]
end Go.Proofs.Ytjgmfdgpgdaclaa
/-
  Coins: how many payments: both sides; with one coin more.
-/
set_option linter.unusedVariables false
set_option linter.unusedSimpArgs false
namespace Go.Proofs.Ytjgmfdgpgdaclaa
open Go.Vi

/-- f at x, x - c, x - 2c and so on, together. -/
def tsum (c : Int) (f : Int → Int) (x : Int) : Int := cws c f (x.toNat + 1) x
theorem cws_neg {c : Int} {f : Int → Int} {x : Int} (h : x < 0) (k : Nat) : cws c f k x = 0 := by
  cases k with
  | zero => rfl
  | succ k => simp only [cws, decide_eq_true h, cond_true]
theorem cws_fuel {c : Int} {f : Int → Int} (hc : 1 ≤ c) : ∀ (k m : Nat) (x : Int), x < k → x < m → cws c f k x = cws c f m x
  | 0, m, x, h1, h2 => by rw [cws_neg (by omega), cws_neg (by omega)]
  | k + 1, 0, x, h1, h2 => by rw [cws_neg (by omega), cws_neg (by omega)]
  | k + 1, m + 1, x, h1, h2 => by
    simp only [cws]
    by_cases h : x < 0
    · rw [decide_eq_true h, cond_true, cond_true]
    · rw [decide_eq_false h, cond_false, cond_false, cws_fuel hc k m (x - c) (by omega) (by omega)]
theorem tsum_neg {c : Int} {f : Int → Int} {x : Int} (h : x < 0) : tsum c f x = 0 := cws_neg h _
theorem tsum_eq {c : Int} {f : Int → Int} (hc : 1 ≤ c) (hf : ∀ x, x < 0 → f x = 0) (x : Int) : tsum c f x = f x + tsum c f (x - c) := by
  by_cases h : x < 0
  · rw [tsum_neg h, tsum_neg (by omega), hf x h]
    omega
  · have e : cws c f (x.toNat + 1) x = f x + cws c f x.toNat (x - c) := by
      simp only [cws, decide_eq_false h, cond_false]
    unfold tsum
    rw [e, cws_fuel hc x.toNat ((x - c).toNat + 1) (x - c) (by omega) (by omega)]
theorem tsum_comm {c d : Int} {f : Int → Int} (hc : 1 ≤ c) (hd : 1 ≤ d) (hf : ∀ x, x < 0 → f x = 0) (x : Int) : tsum c (tsum d f) x = tsum d (tsum c f) x := by
  have key : ∀ k : Nat, ∀ x : Int, x < k → tsum c (tsum d f) x = tsum d (tsum c f) x := by
    intro k
    induction k with
    | zero => intro x hx; rw [tsum_neg (by omega), tsum_neg (by omega)]
    | succ k ih =>
      intro x hx
      have nd : ∀ x, x < 0 → tsum d f x = 0 := fun x h => tsum_neg h
      have nc : ∀ x, x < 0 → tsum c f x = 0 := fun x h => tsum_neg h
      have e1 := tsum_eq hc nd x
      have e2 := tsum_eq hd nc x
      have e3 := tsum_eq hd hf x
      have e4 := tsum_eq hc hf x
      have e5 := tsum_eq hd nc (x - c)
      have e6 := tsum_eq hc nd (x - d)
      have i1 := ih (x - c) (by omega)
      have i2 := ih (x - d) (by omega)
      have i3 := ih (x - c - d) (by omega)
      rw [show x - d - c = x - c - d by omega] at e6
      omega
  exact key (x.toNat + 1) x (by omega)
theorem cw_cons (c : Int) (l : List Int) (x : Int) : cw (c :: l) x = tsum c (cw l) x := rfl
theorem cw_neg : ∀ (l : List Int) {x : Int}, x < 0 → cw l x = 0
  | [], x, h => by
    unfold cw
    rw [show (x == 0) = false by simpa using (show x ≠ 0 by omega)]
    rfl
  | c :: l, x, h => tsum_neg h
theorem tsum_congr {c : Int} {f g : Int → Int} (h : ∀ x, f x = g x) (x : Int) : tsum c f x = tsum c g x := by
  have : f = g := funext h
  rw [this]
theorem cw_snoc : ∀ {l : List Int} (hp : ∀ c ∈ l, 1 ≤ c) {d : Int}, 1 ≤ d → ∀ x, cw (l ++ [d]) x = tsum d (cw l) x
  | [], _, d, hd, x => rfl
  | c :: l, hp, d, hd, x => by
    have hc := hp c (by simp)
    rw [List.cons_append, cw_cons, tsum_congr (fun x => cw_snoc (l := l) (fun c h => hp c (by simp [h])) hd x), tsum_comm hc hd (fun x h => cw_neg l h)]
    rfl
theorem tsum_nn {c : Int} {f : Int → Int} (hc : 1 ≤ c) (hf : ∀ x, x < 0 → f x = 0) (h0 : ∀ x, 0 ≤ f x) : ∀ x, 0 ≤ tsum c f x := by
  have key : ∀ k : Nat, ∀ x : Int, x < k → 0 ≤ tsum c f x := by
    intro k
    induction k with
    | zero => intro x hx; rw [tsum_neg (by omega)]; omega
    | succ k ih => intro x hx; rw [tsum_eq hc hf]; have := ih (x - c) (by omega); have := h0 x; omega
  intro x
  exact key (x.toNat + 1) x (by omega)
theorem cw_nn : ∀ {l : List Int} (hp : ∀ c ∈ l, 1 ≤ c) (x : Int), 0 ≤ cw l x
  | [], _, x => by unfold cw; cases (x == 0) <;> simp
  | c :: l, hp, x => tsum_nn (hp c (by simp)) (fun x h => cw_neg l h) (fun x => cw_nn (fun c h => hp c (by simp [h])) x) x
theorem tsum_le {c B : Int} {f : Int → Int} (hc : 1 ≤ c) (hf : ∀ x, x < 0 → f x = 0) (hB : 0 ≤ B) {S : Int} (h0 : ∀ x, x ≤ S → f x ≤ B) : ∀ x, x ≤ S → 0 ≤ S → tsum c f x ≤ B * (S + 1) := by
  have key : ∀ k : Nat, ∀ x : Int, x < k → x ≤ S → tsum c f x ≤ B * k := by
    intro k
    induction k with
    | zero => intro x hx _; rw [tsum_neg (by omega)]; simp
    | succ k ih =>
      intro x hx hS
      rw [tsum_eq hc hf]
      have a := ih (x - c) (by omega) (by omega)
      have b := h0 x hS
      rw [Int.natCast_add, Int.mul_add]
      omega
  intro x hx hS
  have := key (S.toNat + 1) x (by omega) hx
  rwa [show ((S.toNat + 1 : Nat) : Int) = S + 1 by omega] at this
/-- So many coins, sums up to 240: no more than 241 to their number. -/
theorem cw_le : ∀ {l : List Int} (hp : ∀ c ∈ l, 1 ≤ c) (x : Int), x ≤ 240 → cw l x ≤ 241 ^ l.length
  | [], _, x, _ => by unfold cw; cases (x == 0) <;> simp
  | c :: l, hp, x, hx => by
    have := tsum_le (hp c (by simp)) (fun x h => cw_neg l h) (B := 241 ^ l.length) (Int.pow_nonneg (by omega)) (S := 240) (fun x hx => cw_le (fun c h => hp c (by simp [h])) x hx) x hx (by omega)
    rw [cw_cons, List.length_cons, Int.pow_succ]
    exact this
theorem cw_lim {l : List Int} (hp : ∀ c ∈ l, 1 ≤ c) (hl : l.length ≤ 6) {x : Int} (hx : x ≤ 240) : cw l x ≤ 195930594145441 := by
  have h := cw_le hp x hx
  have : (241 : Int) ^ l.length ≤ 241 ^ 6 := by
    have h9 : l.length = 0 ∨ l.length = 1 ∨ l.length = 2 ∨ l.length = 3 ∨ l.length = 4 ∨ l.length = 5 ∨ l.length = 6 := by omega
    rcases h9 with h | h | h | h | h | h | h <;> rw [h] <;> decide
  have e : (241 : Int) ^ 6 = 195930594145441 := by decide
  omega

noncomputable def waysS (cs : List Int) (s : Int) : Int × Int := if smd cs s ≠ 0 then (0, smd cs s) else (cw cs s, 0)
theorem ways_eq {n : Nat × Nat} (hn : 1000 ≤ n.1) (cs : List Int) (s : Int) : D37 n cs s = some (waysS cs s) := by
  unfold D37 HF37 waysS
  rw [smd_eq hn]
  simp only [Option.bind_some]
  by_cases h : smd cs s = 0
  · obtain ⟨hv, h0, h1⟩ := smd_zero h
    rw [show (smd cs s != 0) = false by simp [h], cond_false, if_neg (by simpa using h)]
    have hb : ((cs.all fun c => decide (1 ≤ c) && decide (c ≤ 40)) && (decide (0 < cs.length) && decide (cs.length ≤ 6)) && (decide (0 ≤ s) && decide (s ≤ 200))) = true := by
      simp only [Bool.and_eq_true, decide_eq_true_eq, List.all_eq_true]
      exact ⟨⟨fun c hc => hv.rng c hc, hv.pos, hv.len⟩, h0, h1⟩
    rw [hb, cond_true]
  · rw [show (smd cs s != 0) = true by simpa using h, cond_true, if_pos h]

theorem cw_one : ∀ (x : Int), 0 ≤ x → cw [1] x = 1 := by
  have key : ∀ k : Nat, cw [1] (k : Int) = 1 := by
    intro k
    induction k with
    | zero => rw [cw_cons, tsum_eq (by omega) (fun x h => cw_neg [] h), tsum_neg (by omega)]; rfl
    | succ k ih =>
      rw [cw_cons, tsum_eq (by omega) (fun x h => cw_neg [] h)]
      rw [cw_cons] at ih
      rw [show ((k + 1 : Nat) : Int) - 1 = (k : Int) by omega, ih]
      have : cw [] ((k + 1 : Nat) : Int) = 0 := by
        unfold cw
        rw [show (((k + 1 : Nat) : Int) == 0) = false by simpa using (show ((k + 1 : Nat) : Int) ≠ 0 by omega)]
        rfl
      rw [this]
      rfl
  intro x hx
  have := key x.toNat
  rwa [Int.toNat_of_nonneg hx] at this
theorem rways_loop (n : Nat × Nat) {l : List Int} {d : Int} (hp : ∀ c ∈ l, 1 ≤ c) (hd : 1 ≤ d) (hd2 : d ≤ 40) (hl : l.length ≤ 5) (SS : List Int → Int → Option R73) (hSS : ∀ x, 0 ≤ x → x ≤ 200 → SS l x = some (cw l x)) :
    ∀ (m : Nat) (s v : Int), s ≤ 200 → -100 ≤ s → s + 1 < m → 0 < m → 0 ≤ v → v + tsum d (cw l) s ≤ 1000000000000000 → DL73_1 n SS m (l ++ [d]) s (l.length : Int) v = some (v + tsum d (cw l) s)
  | 0, s, v, h0, _, _, h, _, _ => by omega
  | m + 1, s, v, h0, h9, h, _, v0, v1 => by
    rw [DL73_1_succ]
    unfold DF73_1
    by_cases hs : s ≥ 0
    · rw [decide_eq_true hs, cond_true]
      have hb : bounds none (some (l.length : Int)) none (l ++ [d]).length = true := by simp [bounds]; omega
      rw [hb, cond_true, Int.toNat_natCast, List.take_left, hSS s hs h0]
      simp only [Option.bind_some]
      have hlt : l.length < (l ++ [d]).length := by simp
      rw [idx_nat hlt]
      simp only [Option.bind_some]
      have hg : (l ++ [d])[l.length] = d := by simp
      rw [hg]
      have he := tsum_eq (f := cw l) hd (fun x h => cw_neg l h) s
      have hn1 := tsum_nn (f := cw l) hd (fun x h => cw_neg l h) (fun x => cw_nn hp x) (s - d)
      have hn2 := cw_nn hp s
      rw [wr_ok (x := s - d) (by omega) (by omega), wr_ok (x := v + cw l s) (by omega) (by omega)]
      rw [rways_loop n hp hd hd2 hl SS hSS m (s - d) (v + cw l s) (by omega) (by omega) (by omega) (by omega) (by omega) (by omega), he]
      congr 1
      omega
    · rw [decide_eq_false hs, cond_false, tsum_neg (by omega)]
      simp
theorem rways_eq {n : Nat × Nat} (hn : 1000 ≤ n.1) : ∀ (d : Nat) {cs : List Int}, (∀ c ∈ cs, 1 ≤ c ∧ c ≤ 40) → cs.headD 0 = 1 → 0 < cs.length → cs.length ≤ d → cs.length ≤ 6 → ∀ {s : Int}, 0 ≤ s → s ≤ 200 → DT73 n d cs s = some (cw cs s)
  | 0, cs, _, _, h0, hd, _, s, _, _ => by omega
  | d + 1, cs, hr, h1, h0, hd, h6, s, s0, s1 => by
    rw [DT73_succ]
    unfold DB73
    by_cases hl : cs.length = 1
    · rw [show ((cs.length : Int) == 1) = true by simp [hl], cond_true]
      match cs, hl, h1 with
      | [x], _, h1 =>
        have : x = 1 := h1
        rw [this, cw_one s s0]
    · rw [show ((cs.length : Int) == 1) = false by simpa using (show ¬ (cs.length : Int) = 1 by omega), cond_false]
      obtain ⟨l, x, rfl⟩ : ∃ l x, cs = l ++ [x] := ⟨cs.dropLast, cs.getLast (by intro e; rw [e] at h0; simp at h0), (List.dropLast_concat_getLast _).symm⟩
      simp only [List.length_append, List.length_singleton] at hl hd h0 h6
      have hx := hr x (by simp)
      have hp : ∀ c ∈ l, 1 ≤ c := fun c hc => (hr c (by simp [hc])).1
      have hSS : ∀ x, 0 ≤ x → x ≤ 200 → DT73 n d l x = some (cw l x) := fun y y0 y1 => rways_eq hn d (fun c hc => hr c (by simp [hc])) (by
        cases l with
        | nil => simp at hl
        | cons a l => exact h1) (by omega) (by omega) (by omega) y0 y1
      have hlim := cw_lim (l := l ++ [x]) (fun c hc => (hr c hc).1) (by simp; omega) (x := s) (by omega)
      rw [cw_snoc hp hx.1] at hlim ⊢
      have := rways_loop n hp hx.1 hx.2 (by omega) (DT73 n d) hSS n.1 s 0 s1 (by omega) (by omega) (by omega) (Int.le_refl 0) (by omega)
      rw [Int.zero_add] at this
      rw [show wr .i64 (((l ++ [x]).length : Int) - 1) = (l.length : Int) by rw [wr_ok (by simp only [List.length_append, List.length_singleton]; omega) (by simp only [List.length_append, List.length_singleton]; omega)]; simp]
      exact this
theorem rwaysS_eq {n : Nat × Nat} (hn : 1000 ≤ n.1) (cs : List Int) (s : Int) : D38 n cs s = some (waysS cs s) := by
  unfold D38 waysS
  rw [smdr_eq hn]
  simp only [Option.bind_some]
  by_cases h : smd cs s = 0
  · obtain ⟨hv, h0, h1⟩ := smd_zero h
    have hl := hv.len
    rw [show (smd cs s != 0) = false by simp [h], cond_false, if_neg (by simpa using h)]
    unfold D73
    rw [rways_eq hn n.1 hv.rng hv.one hv.pos (by omega) hv.len h0 h1]
    rfl
  · rw [show (smd cs s != 0) = true by simpa using h, cond_true, if_pos h]
end Go.Proofs.Ytjgmfdgpgdaclaa
/-
  Coins: the law CoinPaid.
-/
set_option linter.unusedVariables false
set_option linter.unusedSimpArgs false
namespace Go.Proofs.Ytjgmfdgpgdaclaa
open Go.Vi
/-- Both purses pay the same. -/
theorem purse_both (cs ps : List Int) (s : Int) : ∃ r : List Int × Int, D41 N cs ps s = some r ∧ D42 N cs ps s = some r ∧ r.1.length ≤ 100 := by
  by_cases h : smd cs s = 0
  · obtain ⟨hv, h0, h1⟩ := smd_zero h
    have hl := hv.len
    by_cases hc : cnt cs ps = 0
    · obtain ⟨hpl, hpq⟩ := cnt_zero hc
      have h42 : D42 N cs ps s = (D61 N cs ps s).bind fun r => bif ((r.length : Int) == 0) then some ([], 12) else some (r, 0) := by
        unfold D42
        rw [smdr_eq hN1, h]
        simp only [Option.bind_some, beq_self_eq_true, cond_true]
        rw [rcnt_eq hN1 cs ps (by omega), hc]
        rfl
      rcases purse_eq hv h0 h1 hpl hpq with ⟨e1, n1⟩ | ⟨p, e1, b1⟩
      · rcases rpaid_eq hN1 hv h0 h1 hpl hpq with ⟨e2, n2⟩ | ⟨q, e2, b2⟩
        · exact ⟨_, e1, by rw [h42, e2]; rfl, by simp⟩
        · exact absurd b2.1 (n1 q)
      · rcases rpaid_eq hN1 hv h0 h1 hpl hpq with ⟨e2, n2⟩ | ⟨q, e2, b2⟩
        · exact absurd b1.1 (n2 p)
        · have := IsBst.uniq (b1.1.length.trans b2.1.length.symm) b1 b2
          subst this
          have hpp := b1.1.length
          have hp0 := hv.pos
          refine ⟨_, e1, ?_, by show p.length ≤ 100; omega⟩
          rw [h42, e2]
          simp only [Option.bind_some]
          rw [show ((p.length : Int) == 0) = false by simpa using (show ¬ p = [] from fun e => by rw [e] at hpp; simp at hpp; omega), cond_false]
    · refine ⟨([], cnt cs ps), ?_, ?_, by simp⟩
      · unfold D41 HF41
        rw [smd_eq hN1, h]
        simp only [Option.bind_some, show ((0 : Int) != 0) = false from rfl, cond_false]
        rw [cnt_eq hN1 cs ps hv.pos (by omega)]
        simp only [Option.bind_some]
        rw [show (cnt cs ps != 0) = true by simpa using hc, cond_true]
      · unfold D42
        rw [smdr_eq hN1, h]
        simp only [Option.bind_some, beq_self_eq_true, cond_true]
        rw [rcnt_eq hN1 cs ps (by omega)]
        simp only [Option.bind_some]
        rw [show (cnt cs ps != 0) = true by simpa using hc, cond_true]
  · refine ⟨([], smd cs s), ?_, ?_, by simp⟩
    · unfold D41 HF41
      rw [smd_eq hN1]
      simp only [Option.bind_some]
      rw [show (smd cs s != 0) = true by simpa using h, cond_true]
    · unfold D42
      rw [smdr_eq hN1]
      simp only [Option.bind_some]
      rw [show (smd cs s == 0) = false by simpa using h, cond_false, show (smd cs s != 0) = true by simpa using h, cond_true]
theorem paid_ok (cs ps : List Int) (s : Int) : S6 N cs ps s = some true := by
  rw [S6_D N rfl]
  unfold D6
  obtain ⟨r, h1, h2, h3⟩ := purse_both cs ps s
  simp only [works_eq, ways_eq hN1, rwaysS_eq hN1, change_eq hN1, rchange_eq hN1, h1, h2, same_eq hN1 _ _ h3, Option.bind_some, beq_self_eq_true, decide_true, cond_true]
  generalize decide ((cs.length : Int) > 40) = x
  generalize decide ((ps.length : Int) > 40) = y
  cases x <;> cases y <;> rfl
end Go.Proofs.Ytjgmfdgpgdaclaa
