/- Texts of this claim, joined: G19 to Co3. -/
import Derived.KernelRfl
import Derived.Test.YtjgmfdgpgdaclaaProg
import Derived.WalkKit
import Derived.Test.YtjgmfdgpgdaclaaP7
set_option linter.unusedVariables false
set_option linter.unusedSimpArgs false
set_option maxRecDepth 100000
namespace Go.Proofs.Ytjgmfdgpgdaclaa
open Go.Vi
/- headword/headwordref12.Few -/
abbrev R19 := Int × Int
noncomputable def c19 : Code := bodyOf Try.f19
noncomputable def an19 : Ann := (.s .l (.s .l (.s (.s .l (.j [0, 1] .l .l)) .l)))
def pk19 : List PK := [.c (.sl (.int .i64)), .c (.int .i64)]
def rk19 : List RK := [.c (.int .i64) 4, .c (.int .i64) 5]
noncomputable def rt19 (st : St) : Option R19 := rtG rk19 st
noncomputable def E19 (n : Nat × Nat) : Env := { T := tab, phi := (consPhi 58 (fun _ => true) (P58 n) (consPhi 59 (fun _ => true) (P59 n) noPhi)), eff := fun _ => false, fuel := n.1, hold := n.2 }
noncomputable def kq19_1 (n : Nat × Nat) : St → Option R19 := run (E19 n) (cB (cB (cB c19))) (Ann.snd (Ann.snd (Ann.snd an19))) rt19 (fun _ _ => none) rt19
noncomputable def kc19_2 (n : Nat × Nat) : St → Option R19 := fun s => normC [0, 1] s (kq19_1 n)
noncomputable def S19 (n : Nat × Nat) (coins0 : List Int) (sum1 : Int) : Option R19 := run (E19 n) c19 an19 rt19 (fun _ _ => none) rt19 { tm := [.c (.sl (.int .i64) coins0 false), .c (.int .i64 sum1), uu, uu, uu, uu, uu, uu, uu, uu, uu, uu, uu, uu, uu, uu, uu, uu, uu], hp := emp }
theorem S19_eq (n : Nat × Nat) (coins0 : List Int) (sum1 : Int) : S19 n coins0 sum1 =
    (S58 n coins0 sum1).bind fun r1' =>
    (bif (r1' != 0) then some (0, r1')
    else (S59 n coins0 sum1).bind fun r2' =>
      (bif inB sum1 r2'.length then (idx r2' sum1).bind fun x3' =>
        some (x3', 0)
      else none)) := by kernel_rfl
theorem S19_run (n : Nat × Nat) (xs : pksDen pk19) : S19 n xs.1 xs.2.1 = runG (E19 n) noScope c19 an19 (rtG rk19) (fun _ _ => none) (rtG rk19) (st0 pk19 xs Try.f19.ntmps) := by kernel_rfl
noncomputable def P19 (n : Nat × Nat) := phiOf pk19 rk19 (fun xs => S19 n xs.1 xs.2.1)
theorem call19 : CallOK Try.prog 19 := callOK_of Try.func19 (by kernel_rfl) (by kernel_rfl)
theorem env19 (n : Nat × Nat) : EnvOK Try.prog (E19 n) := envOK0 (consPhi_ok (FC58 n) call58 (consPhi_ok (FC59 n) call59 noPhi_ok)) rfl rfl
theorem par19 (n : Nat × Nat) : EnvPar (E19 n) := envPar0 (consPhi_par phiOf_Par1 (consPhi_par phiOf_Par1 noPhi_par)) rfl
theorem FC19 (n : Nat × Nat) : FCs Try.prog 19 (P19 n) := phiOf_FCs fun xs r h vs hv => FC.of_runG tabOK eqsOK (env19 n) (par19 n) mixed (fun _ => noScope_ok) Try.func19 (c := c19) (an := an19) (pks := pk19) (rks := rk19) (by kernel_rfl) (by kernel_rfl) hv ((S19_run n xs).symm.trans h)
end Go.Proofs.Ytjgmfdgpgdaclaa
set_option linter.unusedVariables false
set_option linter.unusedSimpArgs false
set_option maxRecDepth 100000
namespace Go.Proofs.Ytjgmfdgpgdaclaa
open Go.Vi
/- headword/headwordref12.full -/
abbrev R62 := List Int
noncomputable def c62 : Code := bodyOf Try.f62
noncomputable def an62 : Ann := (.s .l (.s .l (.s (.s .l (.j [3] (.j [0, 3, 4] (.s (.s .l (.j [0, 3, 4] .l .l)) (.s (.j [0, 3, 4] .l .l) .l)) .l) .l)) .l)))
def pk62 : List PK := [.c (.sl (.int .i64))]
def rk62 : List RK := [.own (.int .i64) 2]
noncomputable def rt62 (st : St) : Option R62 := rtG rk62 st
noncomputable def E62 (n : Nat × Nat) : Env := { T := tab, phi := noPhi, eff := fun _ => false, fuel := n.1, hold := n.2 }
noncomputable def kq62_1 (n : Nat × Nat) : St → Option R62 := run (E62 n) (cB (cB (cB c62))) (Ann.snd (Ann.snd (Ann.snd an62))) rt62 (fun _ _ => none) rt62
noncomputable def kc62_2 (n : Nat × Nat) : St → Option R62 := fun s => normC [3] s (kq62_1 n)
noncomputable def xb62_3 (n : Nat × Nat) : Nat → St → Option R62 := fun j s => bif Nat.beq j 0 then normC [3] s (kq62_1 n) else (fun _ _ => none) j s
noncomputable def F62_4 (n : Nat × Nat) : (St → Option R62) → St → Option R62 := fun K s => run (E62 n) (cA (cA (cB (cA (cB (cB c62)))))) (Ann.fst (Ann.fst (Ann.snd (Ann.fst (Ann.snd (Ann.snd an62)))))) (fun s => normC [0, 3, 4] s K) (xb62_3 n) rt62 s
noncomputable def kq62_5 (n : Nat × Nat) (m1 : Nat) : St → Option R62 := run (E62 n) (cB (cA (cA (cB (cA (cB (cB c62))))))) (Ann.snd (Ann.fst (Ann.fst (Ann.snd (Ann.fst (Ann.snd (Ann.snd an62))))))) (fun s => normC [0, 3, 4] s (loopN (F62_4 n) m1)) (xb62_3 n) rt62
noncomputable def kc62_6 (n : Nat × Nat) (m1 : Nat) : St → Option R62 := fun s => normC [0, 3, 4] s (kq62_5 n m1)
noncomputable def kq62_7 (n : Nat × Nat) (m1 : Nat) : St → Option R62 := run (E62 n) (cB (cB (cA (cA (cB (cA (cB (cB c62)))))))) (Ann.snd (Ann.snd (Ann.fst (Ann.fst (Ann.snd (Ann.fst (Ann.snd (Ann.snd an62)))))))) (fun s => normC [0, 3, 4] s (loopN (F62_4 n) m1)) (xb62_3 n) rt62
noncomputable def kc62_8 (n : Nat × Nat) (m1 : Nat) : St → Option R62 := fun s => normC [0, 3, 4] s (kq62_7 n m1)
noncomputable def xb62_9 (n : Nat × Nat) (m1 : Nat) : Nat → St → Option R62 := fun j s => bif Nat.beq j 1 then normC [0, 3, 4] s (kq62_7 n m1) else (xb62_3 n) j s
noncomputable def L62_1 (n : Nat × Nat) (m : Nat) (coins0 : List Int) (i4 : Int) (out3 : List Int) : Option R62 := loopN (F62_4 n) m { tm := [.c (.sl (.int .i64) coins0 false), uu, uu, .own 3 none false, .c (.int .i64 i4), uu, uu, uu, uu, uu, uu, uu, uu, uu, uu], hp := (upd emp 3 (.arr (.int .i64) out3 false)) }
theorem L62_1_eq (n : Nat × Nat) (m1 : Nat) (coins0 : List Int) (i4 : Int) (out3 : List Int) : L62_1 n (m1 + 1) coins0 i4 out3 =
    (bif decide (i4 < (coins0.length : Int)) then (bif decide (out3.length + [200].length ≤ lim) then L62_1 n m1 coins0 (wr .i64 (i4 + 1)) (out3 ++ [200])
      else none)
    else some out3) := by kernel_rfl
noncomputable def S62 (n : Nat × Nat) (coins0 : List Int) : Option R62 := run (E62 n) c62 an62 rt62 (fun _ _ => none) rt62 { tm := [.c (.sl (.int .i64) coins0 false), uu, uu, uu, uu, uu, uu, uu, uu, uu, uu, uu, uu, uu, uu], hp := emp }
theorem S62_eq (n : Nat × Nat) (coins0 : List Int) : S62 n coins0 =
    L62_1 n n.1 coins0 0 [] := by kernel_rfl
theorem S62_run (n : Nat × Nat) (xs : pksDen pk62) : S62 n xs.1 = runG (E62 n) noScope c62 an62 (rtG rk62) (fun _ _ => none) (rtG rk62) (st0 pk62 xs Try.f62.ntmps) := by kernel_rfl
noncomputable def P62 (n : Nat × Nat) := phiOf pk62 rk62 (fun xs => S62 n xs.1)
theorem call62 : CallOK Try.prog 62 := callOK_of Try.func62 (by kernel_rfl) (by kernel_rfl)
theorem env62 (n : Nat × Nat) : EnvOK Try.prog (E62 n) := envOK0 noPhi_ok rfl rfl
theorem par62 (n : Nat × Nat) : EnvPar (E62 n) := envPar0 noPhi_par rfl
theorem FC62 (n : Nat × Nat) : FCs Try.prog 62 (P62 n) := phiOf_FCs fun xs r h vs hv => FC.of_runG tabOK eqsOK (env62 n) (par62 n) mixed (fun _ => noScope_ok) Try.func62 (c := c62) (an := an62) (pks := pk62) (rks := rk62) (by kernel_rfl) (by kernel_rfl) hv ((S62_run n xs).symm.trans h)
end Go.Proofs.Ytjgmfdgpgdaclaa
/-
  The reference's payments: the region that compares two.
-/
set_option linter.unusedVariables false
set_option linter.unusedSimpArgs false
set_option maxRecDepth 100000
namespace Go.Proofs.Ytjgmfdgpgdaclaa
open Go.RowKit Go.Shelf Go.Vi

noncomputable def c61 : Code := bodyOf Try.f61
noncomputable def r61_15 : Code := (cA (cB (cB (cA (cA (cB (cA (cA (cB (cA (cA (cB (cA (cA (cB (cA (cB (cA (cA (cB (cA (cA (cB (cA (cB (cB (cB c61)))))))))))))))))))))))))))
theorem below_acc {B : Nat} {Wc W w5 : World} (h : Below B Wc W) (hs : B ≤ W.heap.size) (k : Below W.heap.size W w5) : Below B Wc w5 := h.trans (k.mono hs)

theorem any_skip {n : Nat} {P : Program} {ops : Array Oper} {Q : Exit → Act → World → Prop} {md : Region.Mode} {i : Nat} {o : Oper} {fuel : Nat} {listed : Array Bool} {a : Act} {w : World} (hr : Region.ready md ops listed = [i]) (ho : ops[i]? = some o)
    (hw : Region.wanted o (yielded ops a.tmps) = false) (h : wpAnyIn Fence.wide n P md ops Q fuel (listed.setIfInBounds i true) (a.put o.dst undef) w) : wpAnyIn Fence.wide n P md ops Q (fuel + 1) listed a w :=
  wpAnyIn_ready hr (by simp) (AllReadyIn.cons ho (fun K' hK => by rw [if_neg (by rw [hw]; simp)]; exact ⟨fun _ _ => trivial, hK _ _ h⟩) AllReadyIn.nil)

section
attribute [local go_sem] Oper.semAt_some

set_option maxHeartbeats 16000000 in
theorem reg15a {n : Nat} {Wc : World} {N s x : Nat} (hx : x < s + 1) (q : Wc.cell? ⟨N, x, none⟩ = some (.slice none 0 0))
    {K : Act → World → Prop} {Q : Exit → Act → World → Prop} {x0 x1 x2 x3 x4 x5 x6 x7 x8 x11 x12 x13 x14 x15 x16 x17 x18 x19 x20 x21 x22 x23 x24 x25 x26 x27 x28 x29 x30 x31 x32 x33 x34 x35 x36 x37 x38 x39 x40 x41 x42 x43 x44 x45 x46 x47 x48 x49 x50 x51 x52 x53 x54 x55 x56 x57 x58 x59 x60 x61 x62 x63 x64 x65 x66 x67 x68 x69 x70 x71 x72 x73 x74 x75 x76 x77 x78 x79 x80 x81 x82 x83 x84 x85 x86 x87 x88 x89 x90 x91 x92 x93 x94 x95 x96 x97 x98 x99 x100 x101 x102 x103 : Value} {ds : List Deferred} (hR : K { tmps := #[x0, x1, x2, x3, x4, x5, x6, x7, x8, .slice (some ⟨N, 0, none⟩) (s + 1) (s + 1), .int .i64 (x : Nat), x11, x12, x13, x14, x15, x16, x17, x18, x19, x20, x21, x22, x23, x24, x25, x26, x27, x28, x29, x30, x31, x32, x33, x34, x35, x36, x37, x38, x39, x40, x41, x42, x43, x44, x45, x46, x47, x48, x49, x50, x51, x52, x53, x54, x55, x56, x57, x58, x59, x60, x61, x62, x63, x64, x65, x66, x67, .slice (some ⟨N, 0, none⟩) (s + 1) (s + 1), .int .i64 (x : Nat), .pointer (some ⟨N, x, none⟩), .slice none 0 0, .int .i64 0, .bool true, .bool true, undef, undef, undef, undef, undef, undef, undef, undef, undef, undef, .bool true, x86, x87, x88, x89, x90, x91, x92, x93, x94, x95, x96, x97, x98, x99, x100, x101, x102, x103], defers := ds } Wc.drew) :
    r61_15.wpIn Fence.wide n Try.prog (Exit.then K Q) { tmps := #[x0, x1, x2, x3, x4, x5, x6, x7, x8, .slice (some ⟨N, 0, none⟩) (s + 1) (s + 1), .int .i64 (x : Nat), x11, x12, x13, x14, x15, x16, x17, x18, x19, x20, x21, x22, x23, x24, x25, x26, x27, x28, x29, x30, x31, x32, x33, x34, x35, x36, x37, x38, x39, x40, x41, x42, x43, x44, x45, x46, x47, x48, x49, x50, x51, x52, x53, x54, x55, x56, x57, x58, x59, x60, x61, x62, x63, x64, x65, x66, x67, x68, x69, x70, x71, x72, x73, x74, x75, x76, x77, x78, x79, x80, x81, x82, x83, x84, x85, x86, x87, x88, x89, x90, x91, x92, x93, x94, x95, x96, x97, x98, x99, x100, x101, x102, x103], defers := ds } Wc := by
  refine wpIn_nrm (R := K) ?_ (fun _ _ h => h)
  unfold r61_15 c61
  simp only [cA, cB, bodyOf, Try.f61]
  refine wpIn_region_any (by kernel_rfl) ?_
  have step : ∀ {i : Nat} {oi : Oper} {u : Value} {fuel : Nat} {listed : Array Bool} {a : Act} {w : World} {ops : Array Oper}, ops[i]? = some oi → Region.noSelect ops = true → Region.free .any ops listed i = true → (Region.ready .any ops listed).contains i = true → YieldsFenced Try.prog ops oi u a →
      wpAnyIn Fence.wide n Try.prog .any ops (nrm K) fuel (listed.setIfInBounds i true) (a.put oi.dst u) w → wpAnyIn Fence.wide n Try.prog .any ops (nrm K) (fuel + 1) listed a w :=
    fun h1 h2 h3 h4 h5 h6 => wpAnyIn_take rfl h1 h2 h3 h4 (fun c a w h => h) h5 h6
  have q2 : Wc.drew.cell? ⟨N, x, none⟩ = some (.slice none 0 0) := q
  refine step (i := 0) (u := .slice (some ⟨N, 0, none⟩) (s + 1) (s + 1)) (fuel := 17) rfl (by kernel_rfl) (by kernel_rfl) (by kernel_rfl) ⟨.inl ⟨rfl, fun w => rfl⟩, fun w => rfl⟩ ?_
  refine step (i := 1) (u := .int .i64 x) (fuel := 16) rfl (by kernel_rfl) (by kernel_rfl) (by kernel_rfl) ⟨.inl ⟨rfl, fun w => rfl⟩, fun w => rfl⟩ ?_
  refine wpAnyIn_ready (rs := [2]) (by kernel_rfl) (by simp) (BigFrame.allReadyIn_want rfl (by kernel_rfl) ?_ AllReadyIn.nil)
  intro K' hK'
  simp only [List.getElem_toArray, List.getElem_cons_succ, List.getElem_cons_zero, Act.put, List.setIfInBounds_toArray, List.set_cons_succ, List.set_cons_zero]
  first | gi_big_move | gi_big_op
  refine hK' _ _ ?_
  clear hK'
  refine wpAnyIn_ready (rs := [3]) (by kernel_rfl) (by simp) (BigFrame.allReadyIn_want rfl (by kernel_rfl) ?_ AllReadyIn.nil)
  intro K' hK'
  simp only [List.getElem_toArray, List.getElem_cons_succ, List.getElem_cons_zero, Act.put, List.setIfInBounds_toArray, List.set_cons_succ, List.set_cons_zero]
  first | gi_big_move | gi_big_op
  refine hK' _ _ ?_
  clear hK'
  refine step (i := 4) (u := .int .i64 0) (fuel := 13) rfl (by kernel_rfl) (by kernel_rfl) (by kernel_rfl) ⟨.inl ⟨by kernel_rfl, fun w => by kernel_rfl⟩, fun w => by kernel_rfl⟩ ?_
  refine step (i := 5) (u := .bool true) (fuel := 12) rfl (by kernel_rfl) (by kernel_rfl) (by kernel_rfl) ⟨.inl ⟨by kernel_rfl, fun w => by kernel_rfl⟩, fun w => by kernel_rfl⟩ ?_
  refine step (i := 6) (u := .bool true) (fuel := 11) rfl (by kernel_rfl) (by kernel_rfl) (by kernel_rfl) ⟨.inl ⟨rfl, fun w => rfl⟩, fun w => rfl⟩ ?_
  refine step (i := 7) (u := undef) (fuel := 10) rfl (by kernel_rfl) (by kernel_rfl) (by kernel_rfl) ⟨.inr ⟨by kernel_rfl, rfl⟩, fun w => by kernel_rfl⟩ ?_
  refine step (i := 8) (u := undef) (fuel := 9) rfl (by kernel_rfl) (by kernel_rfl) (by kernel_rfl) ⟨.inr ⟨by kernel_rfl, rfl⟩, fun w => by kernel_rfl⟩ ?_
  refine step (i := 11) (u := undef) (fuel := 8) rfl (by kernel_rfl) (by kernel_rfl) (by kernel_rfl) ⟨.inr ⟨by kernel_rfl, rfl⟩, fun w => by kernel_rfl⟩ ?_
  refine step (i := 12) (u := undef) (fuel := 7) rfl (by kernel_rfl) (by kernel_rfl) (by kernel_rfl) ⟨.inr ⟨by kernel_rfl, rfl⟩, fun w => by kernel_rfl⟩ ?_
  refine step (i := 13) (u := undef) (fuel := 6) rfl (by kernel_rfl) (by kernel_rfl) (by kernel_rfl) ⟨.inr ⟨by kernel_rfl, rfl⟩, fun w => by kernel_rfl⟩ ?_
  refine step (i := 14) (u := undef) (fuel := 5) rfl (by kernel_rfl) (by kernel_rfl) (by kernel_rfl) ⟨.inr ⟨by kernel_rfl, rfl⟩, fun w => by kernel_rfl⟩ ?_
  refine any_skip (i := 9) (fuel := 4) (by kernel_rfl) rfl (by kernel_rfl) ?_
  refine step (i := 10) (u := undef) (fuel := 3) rfl (by kernel_rfl) (by kernel_rfl) (by kernel_rfl) ⟨.inr ⟨by kernel_rfl, rfl⟩, fun w => by kernel_rfl⟩ ?_
  refine any_skip (i := 15) (fuel := 2) (by kernel_rfl) rfl (by kernel_rfl) ?_
  refine step (i := 16) (u := undef) (fuel := 1) rfl (by kernel_rfl) (by kernel_rfl) (by kernel_rfl) ⟨.inr ⟨by kernel_rfl, rfl⟩, fun w => by kernel_rfl⟩ ?_
  refine step (i := 17) (u := .bool true) (fuel := 0) rfl (by kernel_rfl) (by kernel_rfl) (by kernel_rfl) ⟨.inl ⟨by kernel_rfl, fun w => by kernel_rfl⟩, fun w => by kernel_rfl⟩ ?_
  refine ⟨by kernel_rfl, ?_⟩
  refine (congrArg (fun a => K a Wc.drew) ?_).mp hR
  simp [Act.put]

theorem y_idx {A : Act} {o : Oper} {i j N x s : Nat} (ho : o.op = .indexAddr 75 (.tmp i) (.tmp j)) (h1 : A.eval (.tmp i) = .slice (some ⟨N, 0, none⟩) (s + 1) (s + 1)) (h2 : A.eval (.tmp j) = .int .i64 (x : Nat)) (hx : x < s + 1) (w : World) :
    (execOp A.eval o).run Try.prog w = .ok (.value (.pointer (some ⟨N, x, none⟩))) w := by
  have h1 : A.tmps[i]?.getD undef = .slice (some ⟨N, 0, none⟩) (s + 1) (s + 1) := by simpa [go_sem] using h1
  have h2 : A.tmps[j]?.getD undef = .int .i64 (x : Nat) := by simpa [go_sem] using h2
  have hx2 : ¬ ((s : Int) + 1 ≤ x) := by omega
  simp [go_sem, ho, h1, h2, hx, hx2]
theorem y_add {A : Act} {o : Oper} {i j : Nat} {x y : Int} (ho : o.op = .binOp .add 3 (.tmp i) (.tmp j) 3) (h1 : A.eval (.tmp i) = .int .i64 x) (h2 : A.eval (.tmp j) = .int .i64 y) (hx : 0 ≤ x ∧ x ≤ 100000) (hy : 0 ≤ y ∧ y ≤ 100000) (w : World) :
    (execOp A.eval o).run Try.prog w = .ok (.value (.int .i64 (x + y))) w := by
  have h1 : A.tmps[i]?.getD undef = .int .i64 x := by simpa [go_sem] using h1
  have h2 : A.tmps[j]?.getD undef = .int .i64 y := by simpa [go_sem] using h2
  have hw : IntKind.wrap .i64 (x + y) = x + y := by simp [IntKind.wrap, IntKind.signed, IntKind.bits]; omega
  simp [go_sem, ho, h1, h2, hw]
theorem y_eql {A : Act} {o : Oper} {i : Nat} {x : Int} (ho : o.op = .binOp .eql 3 (.tmp i) (.const (.int .i64 0)) 3) (h1 : A.eval (.tmp i) = .int .i64 x) (hx : 0 < x) (w : World) :
    (execOp A.eval o).run Try.prog w = .ok (.value (.bool false)) w := by
  have h1 : A.tmps[i]?.getD undef = .int .i64 x := by simpa [go_sem] using h1
  have h3 : ¬ x = 0 := by omega
  simp [go_sem, ho, h1, h3]
theorem y_lss {A : Act} {o : Oper} {i j : Nat} {x y : Int} (ho : o.op = .binOp .lss 3 (.tmp i) (.tmp j) 3) (h1 : A.eval (.tmp i) = .int .i64 x) (h2 : A.eval (.tmp j) = .int .i64 y) (w : World) :
    (execOp A.eval o).run Try.prog w = .ok (.value (.bool (decide (x < y)))) w := by
  have h1 : A.tmps[i]?.getD undef = .int .i64 x := by simpa [go_sem] using h1
  have h2 : A.tmps[j]?.getD undef = .int .i64 y := by simpa [go_sem] using h2
  simp [go_sem, ho, h1, h2]

set_option maxHeartbeats 16000000 in
theorem reg15b {n : Nat} (hn : 1 ≤ n) {Wc : World} {N s x r L cp : Nat} {m a b : Int} {lv : Value} (hx : x < s + 1) (hL : 0 < L) (hN : N < Wc.heap.size) (hm0 : 0 ≤ m) (hm1 : m ≤ 100000) (ha0 : 0 ≤ a) (ha1 : a ≤ 100000) (q : Wc.cell? ⟨N, x, none⟩ = some (.slice (some ⟨r, 0, none⟩) L cp))
    (h1 : ∀ W, Below Wc.heap.size Wc W → CallsIn Fence.wide (n - 1) Try.prog 70 #[lv] W fun e w' => e = .returned (.int .i64 a) ∧ Below W.heap.size W w')
    (h2 : ∀ W, Below Wc.heap.size Wc W → CallsIn Fence.wide (n - 1) Try.prog 70 #[.slice (some ⟨r, 0, none⟩) L cp] W fun e w' => e = .returned (.int .i64 b) ∧ Below W.heap.size W w')
    {K : Act → World → Prop} {Q : Exit → Act → World → Prop} {x0 x1 x2 x3 x4 x5 x6 x7 x8 x13 x14 x15 x16 x17 x18 x19 x20 x21 x22 x23 x24 x25 x26 x27 x28 x29 x30 x31 x32 x33 x34 x35 x36 x37 x38 x39 x40 x41 x42 x43 x44 x45 x46 x47 x48 x49 x50 x51 x52 x53 x54 x55 x56 x57 x58 x59 x60 x61 x62 x63 x64 x65 x66 x67 x68 x69 x70 x71 x72 x73 x74 x75 x76 x77 x78 x79 x80 x81 x82 x83 x84 x85 x86 x87 x88 x89 x90 x91 x92 x93 x94 x95 x96 x97 x98 x99 x100 x101 x102 x103 : Value} {ds : List Deferred} (hR : ∀ w', Below Wc.heap.size Wc w' → K { tmps := #[x0, x1, x2, x3, x4, x5, x6, x7, x8, .slice (some ⟨N, 0, none⟩) (s + 1) (s + 1), .int .i64 (x : Nat), .int .i64 m, lv, x13, x14, x15, x16, x17, x18, x19, x20, x21, x22, x23, x24, x25, x26, x27, x28, x29, x30, x31, x32, x33, x34, x35, x36, x37, x38, x39, x40, x41, x42, x43, x44, x45, x46, x47, x48, x49, x50, x51, x52, x53, x54, x55, x56, x57, x58, x59, x60, x61, x62, x63, x64, x65, x66, x67, .slice (some ⟨N, 0, none⟩) (s + 1) (s + 1), .int .i64 (x : Nat), .pointer (some ⟨N, x, none⟩), .slice (some ⟨r, 0, none⟩) L cp, .int .i64 L, .bool false, .bool false, .int .i64 m, lv, .int .i64 a, .int .i64 (m + a), .slice (some ⟨N, 0, none⟩) (s + 1) (s + 1), .int .i64 (x : Nat), .pointer (some ⟨N, x, none⟩), .slice (some ⟨r, 0, none⟩) L cp, .int .i64 b, .bool (decide (m + a < b)), .bool (decide (m + a < b)), x86, x87, x88, x89, x90, x91, x92, x93, x94, x95, x96, x97, x98, x99, x100, x101, x102, x103], defers := ds } w') :
    r61_15.wpIn Fence.wide n Try.prog (Exit.then K Q) { tmps := #[x0, x1, x2, x3, x4, x5, x6, x7, x8, .slice (some ⟨N, 0, none⟩) (s + 1) (s + 1), .int .i64 (x : Nat), .int .i64 m, lv, x13, x14, x15, x16, x17, x18, x19, x20, x21, x22, x23, x24, x25, x26, x27, x28, x29, x30, x31, x32, x33, x34, x35, x36, x37, x38, x39, x40, x41, x42, x43, x44, x45, x46, x47, x48, x49, x50, x51, x52, x53, x54, x55, x56, x57, x58, x59, x60, x61, x62, x63, x64, x65, x66, x67, x68, x69, x70, x71, x72, x73, x74, x75, x76, x77, x78, x79, x80, x81, x82, x83, x84, x85, x86, x87, x88, x89, x90, x91, x92, x93, x94, x95, x96, x97, x98, x99, x100, x101, x102, x103], defers := ds } Wc := by
  refine wpIn_nrm (R := K) ?_ (fun _ _ h => h)
  unfold r61_15 c61
  simp only [cA, cB, bodyOf, Try.f61]
  refine wpIn_region_any (by kernel_rfl) ?_
  have step : ∀ {i : Nat} {oi : Oper} {u : Value} {fuel : Nat} {listed : Array Bool} {a : Act} {w : World} {ops : Array Oper}, ops[i]? = some oi → Region.noSelect ops = true → Region.free .any ops listed i = true → (Region.ready .any ops listed).contains i = true → YieldsFenced Try.prog ops oi u a →
      wpAnyIn Fence.wide n Try.prog .any ops (nrm K) fuel (listed.setIfInBounds i true) (a.put oi.dst u) w → wpAnyIn Fence.wide n Try.prog .any ops (nrm K) (fuel + 1) listed a w :=
    fun h1 h2 h3 h4 h5 h6 => wpAnyIn_take rfl h1 h2 h3 h4 (fun c a w h => h) h5 h6
  have hB0 : Below Wc.heap.size Wc Wc.drew := (Below.refl _ _).drew
  have q2 : Wc.drew.cell? ⟨N, x, none⟩ = some (.slice (some ⟨r, 0, none⟩) L cp) := q
  refine step (i := 0) (u := .slice (some ⟨N, 0, none⟩) (s + 1) (s + 1)) (fuel := 17) rfl (by kernel_rfl) (by kernel_rfl) (by kernel_rfl) ⟨.inl ⟨by kernel_rfl, fun w => by kernel_rfl⟩, fun w => by kernel_rfl⟩ ?_
  refine step (i := 1) (u := .int .i64 (x : Nat)) (fuel := 16) rfl (by kernel_rfl) (by kernel_rfl) (by kernel_rfl) ⟨.inl ⟨by kernel_rfl, fun w => by kernel_rfl⟩, fun w => by kernel_rfl⟩ ?_
  refine step (i := 2) (u := .pointer (some ⟨N, x, none⟩)) (fuel := 15) rfl (by kernel_rfl) (by kernel_rfl) (by kernel_rfl) ⟨.inl ⟨by kernel_rfl, y_idx rfl (by kernel_rfl) (by kernel_rfl) hx⟩, fun w => by kernel_rfl⟩ ?_
  refine wpAnyIn_ready (rs := [3]) (by kernel_rfl) (by simp) (BigFrame.allReadyIn_want rfl (by kernel_rfl) ?_ AllReadyIn.nil)
  intro K1 hK1
  simp only [List.getElem_toArray, List.getElem_cons_succ, List.getElem_cons_zero, Act.put, List.setIfInBounds_toArray, List.set_cons_succ, List.set_cons_zero]
  first | gi_big_move | gi_big_op
  refine hK1 _ _ ?_
  clear hK1
  refine step (i := 4) (u := .int .i64 L) (fuel := 13) rfl (by kernel_rfl) (by kernel_rfl) (by kernel_rfl) ⟨.inl ⟨by kernel_rfl, fun w => by kernel_rfl⟩, fun w => by kernel_rfl⟩ ?_
  refine step (i := 5) (u := .bool false) (fuel := 12) rfl (by kernel_rfl) (by kernel_rfl) (by kernel_rfl) ⟨.inl ⟨by kernel_rfl, y_eql (x := (L : Int)) rfl (by kernel_rfl) (by omega)⟩, fun w => by kernel_rfl⟩ ?_
  refine step (i := 6) (u := .bool false) (fuel := 11) rfl (by kernel_rfl) (by kernel_rfl) (by kernel_rfl) ⟨.inl ⟨by kernel_rfl, fun w => by kernel_rfl⟩, fun w => by kernel_rfl⟩ ?_
  refine step (i := 7) (u := .int .i64 m) (fuel := 10) rfl (by kernel_rfl) (by kernel_rfl) (by kernel_rfl) ⟨.inl ⟨by kernel_rfl, fun w => by kernel_rfl⟩, fun w => by kernel_rfl⟩ ?_
  refine step (i := 8) (u := lv) (fuel := 9) rfl (by kernel_rfl) (by kernel_rfl) (by kernel_rfl) ⟨.inl ⟨by kernel_rfl, fun w => by kernel_rfl⟩, fun w => by kernel_rfl⟩ ?_
  refine step (i := 11) (u := .slice (some ⟨N, 0, none⟩) (s + 1) (s + 1)) (fuel := 8) rfl (by kernel_rfl) (by kernel_rfl) (by kernel_rfl) ⟨.inl ⟨by kernel_rfl, fun w => by kernel_rfl⟩, fun w => by kernel_rfl⟩ ?_
  refine step (i := 12) (u := .int .i64 (x : Nat)) (fuel := 7) rfl (by kernel_rfl) (by kernel_rfl) (by kernel_rfl) ⟨.inl ⟨by kernel_rfl, fun w => by kernel_rfl⟩, fun w => by kernel_rfl⟩ ?_
  refine step (i := 13) (u := .pointer (some ⟨N, x, none⟩)) (fuel := 6) rfl (by kernel_rfl) (by kernel_rfl) (by kernel_rfl) ⟨.inl ⟨by kernel_rfl, y_idx rfl (by kernel_rfl) (by kernel_rfl) hx⟩, fun w => by kernel_rfl⟩ ?_
  refine wpAnyIn_ready (rs := [9, 14]) (by kernel_rfl) (by simp) (BigFrame.allReadyIn_want rfl (by kernel_rfl) ?_ (BigFrame.allReadyIn_want rfl (by kernel_rfl) ?_ AllReadyIn.nil))
  · intro K1 hK1
    simp only [List.getElem_toArray, List.getElem_cons_succ, List.getElem_cons_zero, Act.put, List.setIfInBounds_toArray, List.set_cons_succ, List.set_cons_zero]
    gi_wp2; refine ⟨trivial, (h1 _ (by assumption)).mono ?_⟩; rintro e w5 ⟨rfl, hB5⟩
    refine hK1 _ _ ?_
    clear hK1
    have hB7 : Below Wc.heap.size Wc _ := below_acc (by assumption) (Below.size (by assumption)) hB5
    clear hB5
    have q3 : w5.cell? ⟨N, x, none⟩ = some (.slice (some ⟨r, 0, none⟩) L cp) := (hB7.cell (p := ⟨N, x, none⟩) hN).trans q
    clear hB0 q2
    refine step (i := 10) (u := .int .i64 (m + a)) (fuel := 4) rfl (by kernel_rfl) (by kernel_rfl) (by kernel_rfl) ⟨.inl ⟨by kernel_rfl, y_add rfl (by kernel_rfl) (by kernel_rfl) ⟨hm0, hm1⟩ ⟨ha0, ha1⟩⟩, fun w => by kernel_rfl⟩ ?_
    refine wpAnyIn_ready (rs := [14]) (by kernel_rfl) (by simp) (BigFrame.allReadyIn_want rfl (by kernel_rfl) ?_ AllReadyIn.nil)
    intro K1 hK1
    simp only [List.getElem_toArray, List.getElem_cons_succ, List.getElem_cons_zero, Act.put, List.setIfInBounds_toArray, List.set_cons_succ, List.set_cons_zero]
    first | gi_big_move | gi_big_op
    refine hK1 _ _ ?_
    clear hK1
    refine wpAnyIn_ready (rs := [15]) (by kernel_rfl) (by simp) (BigFrame.allReadyIn_want rfl (by kernel_rfl) ?_ AllReadyIn.nil)
    intro K1 hK1
    simp only [List.getElem_toArray, List.getElem_cons_succ, List.getElem_cons_zero, Act.put, List.setIfInBounds_toArray, List.set_cons_succ, List.set_cons_zero]
    gi_wp2; refine ⟨trivial, (h2 _ (by assumption)).mono ?_⟩; rintro e w5 ⟨rfl, hB5⟩
    refine hK1 _ _ ?_
    clear hK1
    have hB8 : Below Wc.heap.size Wc _ := below_acc (by assumption) (Below.size (by assumption)) hB5
    clear hB5
    clear hB7
    refine step (i := 16) (u := .bool (decide (m + a < b))) (fuel := 1) rfl (by kernel_rfl) (by kernel_rfl) (by kernel_rfl) ⟨.inl ⟨by kernel_rfl, y_lss rfl (by kernel_rfl) (by kernel_rfl)⟩, fun w => by kernel_rfl⟩ ?_
    refine step (i := 17) (u := .bool (decide (m + a < b))) (fuel := 0) rfl (by kernel_rfl) (by kernel_rfl) (by kernel_rfl) ⟨.inl ⟨by kernel_rfl, fun w => by kernel_rfl⟩, fun w => by kernel_rfl⟩ ?_
    refine ⟨by kernel_rfl, ?_⟩
    refine (congrArg (fun a => K a _) ?_).mp (hR _ (by assumption))
    simp [Act.put]
  · intro K1 hK1
    simp only [List.getElem_toArray, List.getElem_cons_succ, List.getElem_cons_zero, Act.put, List.setIfInBounds_toArray, List.set_cons_succ, List.set_cons_zero]
    first | gi_big_move | gi_big_op
    refine hK1 _ _ ?_
    clear hK1
    refine wpAnyIn_ready (rs := [9]) (by kernel_rfl) (by simp) (BigFrame.allReadyIn_want rfl (by kernel_rfl) ?_ AllReadyIn.nil)
    intro K1 hK1
    simp only [List.getElem_toArray, List.getElem_cons_succ, List.getElem_cons_zero, Act.put, List.setIfInBounds_toArray, List.set_cons_succ, List.set_cons_zero]
    gi_wp2; refine ⟨trivial, (h1 _ (by assumption)).mono ?_⟩; rintro e w5 ⟨rfl, hB5⟩
    refine hK1 _ _ ?_
    clear hK1
    have hB7 : Below Wc.heap.size Wc _ := below_acc (by assumption) (Below.size (by assumption)) hB5
    clear hB5
    clear hB0 q2
    refine step (i := 10) (u := .int .i64 (m + a)) (fuel := 3) rfl (by kernel_rfl) (by kernel_rfl) (by kernel_rfl) ⟨.inl ⟨by kernel_rfl, y_add rfl (by kernel_rfl) (by kernel_rfl) ⟨hm0, hm1⟩ ⟨ha0, ha1⟩⟩, fun w => by kernel_rfl⟩ ?_
    refine wpAnyIn_ready (rs := [15]) (by kernel_rfl) (by simp) (BigFrame.allReadyIn_want rfl (by kernel_rfl) ?_ AllReadyIn.nil)
    intro K1 hK1
    simp only [List.getElem_toArray, List.getElem_cons_succ, List.getElem_cons_zero, Act.put, List.setIfInBounds_toArray, List.set_cons_succ, List.set_cons_zero]
    gi_wp2; refine ⟨trivial, (h2 _ (by assumption)).mono ?_⟩; rintro e w5 ⟨rfl, hB5⟩
    refine hK1 _ _ ?_
    clear hK1
    have hB8 : Below Wc.heap.size Wc _ := below_acc (by assumption) (Below.size (by assumption)) hB5
    clear hB5
    clear hB7
    refine step (i := 16) (u := .bool (decide (m + a < b))) (fuel := 1) rfl (by kernel_rfl) (by kernel_rfl) (by kernel_rfl) ⟨.inl ⟨by kernel_rfl, y_lss rfl (by kernel_rfl) (by kernel_rfl)⟩, fun w => by kernel_rfl⟩ ?_
    refine step (i := 17) (u := .bool (decide (m + a < b))) (fuel := 0) rfl (by kernel_rfl) (by kernel_rfl) (by kernel_rfl) ⟨.inl ⟨by kernel_rfl, fun w => by kernel_rfl⟩, fun w => by kernel_rfl⟩ ?_
    refine ⟨by kernel_rfl, ?_⟩
    refine (congrArg (fun a => K a _) ?_).mp (hR _ (by assumption))
    simp [Act.put]

end
end Go.Proofs.Ytjgmfdgpgdaclaa
/-
  The reference's payments: the walk.
-/
set_option linter.unusedVariables false
set_option linter.unusedSimpArgs false
set_option maxRecDepth 100000
namespace Go.Proofs.Ytjgmfdgpgdaclaa
open Go.RowKit Go.Shelf

/-- One payment more, from a payment of what is left. -/
def upd61 (l cur : List Int) (k : Nat) (n : Int) : List Int := if l = [] then cur else if cur = [] ∨ n + tot l < tot cur then l.set k n else cur
def qst61 (f : Int → List Int) (k : Nat) (q c x : Int) : Nat → Int → List Int → List Int
  | 0, _, cur => cur
  | m + 1, n, cur => if n ≤ q ∧ n * c ≤ x then qst61 f k q c x m (n + 1) (upd61 (f (x - n * c)) cur k n) else cur
def tb61 (L : Nat) : List Int → List Int → Nat → Int → List Int
  | [], _, _, x => if x = 0 then List.replicate L 0 else []
  | c :: l, ps, k, x => qst61 (tb61 L l ps.tail (k + 1)) k (ps.headD 0) c x (x.toNat + 1) 0 []
def Okl (L : Nat) (l : List Int) : Prop := l = [] ∨ (l.length = L ∧ ∀ y ∈ l, 0 ≤ y ∧ y ≤ 200)
theorem upd61_ok {L : Nat} {l cur : List Int} {k : Nat} {n : Int} (h1 : Okl L l) (h2 : Okl L cur) (hn : 0 ≤ n ∧ n ≤ 200) : Okl L (upd61 l cur k n) := by
  unfold upd61
  split
  · exact h2
  · rename_i hl
    split
    · rcases h1 with h1 | ⟨h1, h3⟩
      · exact absurd h1 hl
      · refine .inr ⟨by simpa using h1, fun y hy => ?_⟩
        rcases List.mem_or_eq_of_mem_set hy with h | h
        · exact h3 y h
        · rw [h]; exact hn
    · exact h2
theorem qst61_ok {L : Nat} {f : Int → List Int} {k : Nat} {q c x : Int} (hf : ∀ y, 0 ≤ y → Okl L (f y)) (hq : q ≤ 200) : ∀ (m : Nat) (n : Int) (cur : List Int), 0 ≤ n → Okl L cur → Okl L (qst61 f k q c x m n cur)
  | 0, _, _, _, h => h
  | m + 1, n, cur, hn, h => by
    unfold qst61
    split
    · rename_i hc
      exact qst61_ok hf hq m (n + 1) _ (by omega) (upd61_ok (hf _ (by omega)) h ⟨hn, by omega⟩)
    · exact h
theorem tb61_ok {L : Nat} : ∀ (l ps : List Int) (k : Nat), (∀ q ∈ ps, 0 ≤ q ∧ q ≤ 200) → ∀ x, 0 ≤ x → Okl L (tb61 L l ps k x)
  | [], _, _, _, x, _ => by
    unfold tb61
    split
    · exact .inr ⟨by simp, fun y hy => by rw [List.eq_of_mem_replicate hy]; omega⟩
    · exact .inl rfl
  | c :: l, ps, k, hp, x, hx => by
    unfold tb61
    refine qst61_ok (fun y hy => tb61_ok l ps.tail (k + 1) (fun q hq => hp q (List.mem_of_mem_tail hq)) y hy) ?_ _ 0 [] (Int.le_refl _) (.inl rfl)
    cases ps with
    | nil => simp
    | cons q ps => exact (hp q (by simp)).2
theorem qst61_stop {f : Int → List Int} {k : Nat} {q c x n : Int} {cur : List Int} (h : ¬ (n ≤ q ∧ n * c ≤ x)) (m : Nat) : qst61 f k q c x m n cur = cur := by
  cases m with
  | zero => rfl
  | succ m => unfold qst61; rw [if_neg h]
theorem qst61_go {f : Int → List Int} {k : Nat} {q c x n : Int} {cur : List Int} (h1 : n ≤ q) (h2 : n * c ≤ x) (m : Nat) : qst61 f k q c x (m + 1) n cur = qst61 f k q c x m (n + 1) (upd61 (f (x - n * c)) cur k n) := by
  rw [qst61, if_pos ⟨h1, h2⟩]
theorem row_next61 {F : Nat → List Int} {x : Nat} {cv : List Int} (h : cv = F x) (y : Nat) : (if y < x then F y else if y = x then cv else []) = if y < x + 1 then F y else [] := by
  by_cases h1 : y < x
  · rw [if_pos h1, if_pos (by omega)]
  · rw [if_neg h1]
    by_cases h2 : y = x
    · subst h2
      rw [if_pos rfl, if_pos (by omega), h]
    · rw [if_neg h2, if_neg (by omega)]
theorem tot_nn61 : ∀ {l : List Int} {M : Int}, (∀ y ∈ l, 0 ≤ y ∧ y ≤ M) → 0 ≤ tot l ∧ tot l ≤ M * l.length
  | [], M, _ => by simp [tot]
  | c :: l, M, h => by
    have h1 := tot_nn61 (l := l) (fun y hy => h y (by simp [hy]))
    have h2 := h c (by simp)
    have h3 : M * ((c :: l).length : Int) = M * l.length + M := by rw [List.length_cons, Int.natCast_add, Int.mul_add]; simp
    simp only [tot]
    omega

/-- The rows of a table: each one is empty or lies in a block of its own. -/
def Rows61 (L s B N lo : Nat) (f : Nat → List Int) (cur : Array Value) (W : World) : Prop :=
  ∀ x, x ≤ s → (f x = [] ∧ cur[x]? = some (.slice none 0 0)) ∨ ((f x).length = L ∧ ∃ ρ cp, cur[x]? = some (.slice (some ⟨ρ, 0, none⟩) L cp) ∧ lo ≤ ρ ∧ ρ ≠ B ∧ ρ ≠ N ∧ Row W ρ cp L (fun i => (f x)[i]?.getD 0))
theorem Rows61.map {L s B N B' N' lo : Nat} {f g : Nat → List Int} {cur : Array Value} {W W' : World} (h : Rows61 L s B N lo f cur W) (hfg : ∀ x, x ≤ s → f x = g x)
    (hr : ∀ ρ cp g, lo ≤ ρ → ρ ≠ B → ρ ≠ N → Row W ρ cp L g → ρ ≠ B' ∧ ρ ≠ N' ∧ Row W' ρ cp L g) : Rows61 L s B' N' lo g cur W' := fun x hx => by
  rw [← hfg x hx]
  rcases h x hx with h1 | ⟨h1, ρ, cp, h2, h3, h4, h5, h6⟩
  · exact .inl h1
  · obtain ⟨a, b, c⟩ := hr ρ cp _ h3 h4 h5 h6
    exact .inr ⟨h1, ρ, cp, h2, h3, a, b, c⟩
theorem Rows61.below {L s B N lo : Nat} {f : Nat → List Int} {cur : Array Value} {W W' : World} (h : Rows61 L s B N lo f cur W) (hB : Below W.heap.size W W') : Rows61 L s B N lo f cur W' :=
  h.map (fun _ _ => rfl) fun ρ cp g _ a b r => ⟨a, b, r.below hB r.lt⟩

/-- In the midst of a round: B the table so far, N the new one. -/
structure St61 (w : World) (L s B N : Nat) (cb cn : Array Value) (f g : Nat → List Int) (W : World) : Prop where
  bb : Blk W B cb 22
  sb : cb.size = s + 1
  nb : Blk W N cn 22
  sn : cn.size = s + 1
  rb : Rows61 L s B N w.heap.size f cb W
  rn : Rows61 L s B N w.heap.size g cn W
  low : Below w.heap.size w W
  hB : w.heap.size ≤ B
  hN : w.heap.size ≤ N
  hBN : B ≠ N
theorem St61.below {w : World} {L s B N : Nat} {cb cn : Array Value} {f g : Nat → List Int} {W W' : World} (h : St61 w L s B N cb cn f g W) (hB : Below W.heap.size W W') : St61 w L s B N cb cn f g W' :=
  ⟨h.bb.below hB h.bb.lt, h.sb, h.nb.below hB h.nb.lt, h.sn, h.rb.below hB, h.rn.below hB, h.low.trans (hB.mono (Nat.le_trans h.hB (Nat.le_of_lt h.bb.lt))), h.hB, h.hN, h.hBN⟩
theorem St61.congr {w : World} {L s B N : Nat} {cb cn : Array Value} {f g g' : Nat → List Int} {W : World} (h : St61 w L s B N cb cn f g W) (e : ∀ x, x ≤ s → g x = g' x) : St61 w L s B N cb cn f g' W :=
  ⟨h.bb, h.sb, h.nb, h.sn, h.rb, h.rn.map e fun ρ cp g _ a b r => ⟨a, b, r⟩, h.low, h.hB, h.hN, h.hBN⟩

theorem row_of61 {w1 : World} {L r cp : Nat} {cur : Array Value} {l : List Int} (hgg : Blk w1 r cur 3) (hlc : L ≤ cp) (hsz : cp ≤ cur.size) (htk : cur.toList.take L = l.map (Value.int .i64)) (hll : l.length = L) : Row w1 r cp L (fun i => l[i]?.getD 0) :=
  ⟨cur, 3, hgg, hlc, hsz, fun i hi => by
    have h1 := congrArg (fun l => l[i]?) htk
    simp only [List.getElem?_take, if_pos hi, List.getElem?_map] at h1
    rw [← Array.getElem?_toList, h1]
    show _ = some (Value.int .i64 (l[i]?.getD 0))
    rw [List.getElem?_eq_getElem (by omega)]
    rfl⟩
theorem put_congr61 {F : Nat → List Int} {x : Nat} {cv nv : List Int} (y : Nat) : (if y = x then nv else if y < x then F y else if y = x then cv else []) = if y < x then F y else if y = x then nv else [] := by
  by_cases e : y = x
  · subst e
    rw [if_pos rfl, if_neg (Nat.lt_irrefl y), if_pos rfl]
  · rw [if_neg e, if_neg e, if_neg e]
theorem St61.put {w : World} {L s B N : Nat} {cb cn : Array Value} {f g : Nat → List Int} {wl w1 : World} (hS : St61 w L s B N cb cn f g wl) {x r cp : Nat} {cur : Array Value} {l : List Int} (hx : x ≤ s) (hgrow : (wl.alloc (.cells #[] 3)).grownBy w1 (some wl.heap.size)) (hr : wl.heap.size ≤ r)
    (hgg : Blk w1 r cur 3) (hlc : L ≤ cp) (hsz : cp ≤ cur.size) (htk : cur.toList.take L = l.map (Value.int .i64)) (hll : l.length = L) (k : Nat) (n : Int) :
    St61 w L s B N cb (cn.setIfInBounds x (.slice (some ⟨r, 0, none⟩) L cp)) f (fun y => if y = x then l.set k n else g y) ((w1.setCell ⟨N, x, none⟩ (.slice (some ⟨r, 0, none⟩) L cp)).setCell ⟨r, k, none⟩ (.int .i64 n)) := by
  have hbl := hS.bb.lt
  have hnl := hS.nb.lt
  have hBw := hS.hB
  have hNw := hS.hN
  have kb : ∀ {b : Nat} {c : Array Value} {t : TypeId}, Blk wl b c t → Blk w1 b c t := fun {b c t} h => (h.alloc _).kept hgrow (by have := h.lt; simp; omega)
  have kr : ∀ {ρ c : Nat} {g : Nat → Int}, Row wl ρ c L g → ρ ≠ N → Row ((w1.setCell ⟨N, x, none⟩ (.slice (some ⟨r, 0, none⟩) L cp)).setCell ⟨r, k, none⟩ (.int .i64 n)) ρ c L g := fun {ρ c g} h hne =>
    ((((h.kept (World.grownBy_alloc _ _ none) (by simp)).kept hgrow (by have := h.lt; simp; omega)).other x _ hne).other k _ (by have := h.lt; omega))
  have hrow := row_of61 hgg hlc hsz htk hll
  refine ⟨(kb hS.bb |>.other x _ hS.hBN).other k _ (by omega), hS.sb, ((kb hS.nb).set x _).other k _ (by omega), by rw [Array.size_setIfInBounds]; exact hS.sn, ?_, fun y hy => ?_, ?_, hS.hB, hS.hN, hS.hBN⟩
  · exact hS.rb.map (fun _ _ => rfl) fun ρ cp g _ a b h => ⟨a, b, kr h b⟩
  · by_cases e : y = x
    · subst e
      right
      simp only [if_true]
      refine ⟨by simpa using hll, r, cp, Array.getElem?_setIfInBounds_self_of_lt (by rw [hS.sn]; omega), by omega, by omega, by omega, ((hrow.other y _ (by omega)).set k n).congr fun j hj => ?_⟩
      rw [List.getElem?_set]
      by_cases e2 : j = k
      · subst e2
        rw [if_pos rfl, if_pos rfl, if_pos (by omega)]
        rfl
      · rw [if_neg e2, if_neg (fun h => e2 h.symm)]
    · simp only [if_neg e]
      rcases hS.rn y hy with ⟨g1, g2⟩ | ⟨g1, ρ, cp', g2, g3, g4, g5, g6⟩
      · exact .inl ⟨g1, by rw [Array.getElem?_setIfInBounds_ne (fun h => e h.symm)]; exact g2⟩
      · exact .inr ⟨g1, ρ, cp', by rw [Array.getElem?_setIfInBounds_ne (fun h => e h.symm)]; exact g2, g3, g4, g5, kr g6 g5⟩
  · exact ((((hS.low.alloc (by omega) _).grown hgrow (by simp; omega) (fun k e => by cases e; omega)).setCell (p := ⟨N, x, none⟩) hNw _)).setCell (p := ⟨r, k, none⟩) (by show w.heap.size ≤ r; omega) _
theorem own_made61 (wl : World) : (wl.alloc (.cells #[] 3)).ownsRow wl.heap.size 3 1 (.slice (some ⟨wl.heap.size, 0, none⟩) 0 0) 0 [] := by
  refine ⟨rfl, .inr ⟨wl.heap.size, 0, #[], rfl, Nat.le_refl _, ?_, Nat.le_refl _, Nat.zero_le _, rfl, rfl⟩⟩
  exact Blk.new wl #[] 3

section
attribute [local go_sem] Oper.semAt_some

set_option maxHeartbeats 8000000 in
theorem paid_in (n : Nat) (hn : 3 ≤ n)
    (b off cap b' off' cap' : Nat) (zs ps : List Int) (s : Nat) (w : World) (hb : b < w.heap.size) (hb' : b' < w.heap.size)
    (hcs : ∀ j (h : j < zs.length), w.cell? ⟨b, off + j, none⟩ = some (.int .i64 zs[j])) (hps : ∀ j (h : j < ps.length), w.cell? ⟨b', off' + j, none⟩ = some (.int .i64 ps[j]))
    (h0 : 0 < zs.length) (hl : zs.length ≤ 6) (hpl : ps.length = zs.length) (hcc : ∀ c ∈ zs, 1 ≤ c ∧ c ≤ 40) (hpp : ∀ q ∈ ps, 0 ≤ q ∧ q ≤ 200) (hs1 : s ≤ 200)
    (htot : ∀ W (l : List Int) r cp, Row W r cp zs.length (fun i => l[i]?.getD 0) → l.length = zs.length → (∀ y ∈ l, 0 ≤ y ∧ y ≤ 200) → CallsIn Fence.wide (n - 1) Try.prog 70 #[.slice (some ⟨r, 0, none⟩) zs.length cp] W fun e w' => e = .returned (.int .i64 (tot l)) ∧ Below W.heap.size W w') :
    CallsIn Fence.wide n Try.prog 61 #[.slice (some ⟨b, off, none⟩) zs.length cap, .slice (some ⟨b', off', none⟩) zs.length cap', .int .i64 s] w fun e w' => Below w.heap.size w w' ∧
      ((tb61 zs.length zs ps 0 s = [] ∧ e = .returned (.slice none 0 0)) ∨
        ((tb61 zs.length zs ps 0 s).length = zs.length ∧ ∃ ρ cp, e = .returned (.slice (some ⟨ρ, 0, none⟩) zs.length cp) ∧ w.heap.size ≤ ρ ∧ Row w' ρ cp zs.length (fun i => (tb61 zs.length zs ps 0 s)[i]?.getD 0))) := by
  have h1 : 1 ≤ n := by omega
  have hmk : ∀ W : World, (Instr.makeSlice 75 (.int .i64 ((s : Int) + 1)) (.int .i64 ((s : Int) + 1))).run Try.prog W = .ok (.slice (some ⟨W.heap.size, 0, none⟩) (s + 1) (s + 1)) (W.alloc (.cells (List.replicate (s + 1) (Value.slice none 0 0)).toArray 22)) := fun W => by
    obtain ⟨i0, hi, hz0, hz1, hz2⟩ := info_parts (show (Try.prog.info? 22).map (fun i => (i.zero, i.size, i.bytes)) = some (some (.slice none 0 0), 1, 24) by kernel_rfl)
    have h := run_make (P := Try.prog) W 75 22 i0 (.slice none 0 0) (by kernel_rfl) hi hz0 .i64 .i64 ((s : Int) + 1) ((s : Int) + 1) (by omega) (Int.le_refl _) (by rw [hz2]; omega) (by omega)
    have e1 : ((s : Int) + 1).toNat = s + 1 := by omega
    simp only [e1, hz1, Nat.mul_one] at h
    rw [h]
    have : madeCells (Value.slice none 0 0).cells (s + 1) = (List.replicate (s + 1) (Value.slice none 0 0)).toArray := by
      apply Array.toList_inj.1
      rw [show (Value.slice none 0 0).cells = #[.slice none 0 0] from rfl, toList_madeCells_one]
    rw [this]
  have hmk2 : ∀ W : World, (Instr.makeSlice 22 (.int .i64 (zs.length : Int)) (.int .i64 (zs.length : Int))).run Try.prog W = .ok (.slice (some ⟨W.heap.size, 0, none⟩) zs.length zs.length) (W.alloc (.cells (List.replicate zs.length (Value.int .i64 0)).toArray 3)) := fun W => by
    obtain ⟨i0, hi, hz0, hz1, hz2⟩ := info_parts (show (Try.prog.info? 3).map (fun i => (i.zero, i.size, i.bytes)) = some (some (.int .i64 0), 1, 8) by kernel_rfl)
    have h := run_make (P := Try.prog) W 22 3 i0 (.int .i64 0) (by kernel_rfl) hi hz0 .i64 .i64 (zs.length : Int) (zs.length : Int) (by omega) (Int.le_refl _) (by rw [hz2]; omega) (by omega)
    have e1 : (zs.length : Int).toNat = zs.length := by omega
    simp only [e1, hz1, Nat.mul_one] at h
    rw [h]
    have : madeCells (Value.int .i64 0).cells zs.length = (List.replicate zs.length (Value.int .i64 0)).toArray := by
      apply Array.toList_inj.1
      rw [show (Value.int .i64 0).cells = #[.int .i64 0] from rfl, toList_madeCells_one]
    rw [this]
  obtain ⟨i0, hi0, hz0, hz1, hz2⟩ := info_parts (show (Try.prog.info? 3).map (fun i => (i.zero, i.size, i.bytes)) = some (some (.int .i64 0), 1, 8) by kernel_rfl)
  have hu22 : Try.prog.underlying 22 = some (.slice 3) := by kernel_rfl
  refine callsIn_of_wp Try.func61 rfl trivial ?_ rfl
  simp only [Try.ntmps61, List.size_toArray, List.length_cons, List.length_nil, Nat.reduceAdd, Nat.reduceSub, Array.replicate_succ, Array.replicate_zero, List.push_toArray, List.append_toArray, List.nil_append, List.cons_append]
  gi_wp2
  generalize hW0 : World.alloc (World.alloc w _) _ = W0
  have b0 : Blk W0 w.heap.size ((Array.replicate (s + 1) (Value.slice none 0 0)).setIfInBounds 0 (Value.slice (some ⟨w.heap.size + 1, 0, none⟩) zs.length zs.length)) 22 := by
    rw [← hW0]
    exact (Blk.new w _ _).alloc _
  have r0 : Row W0 (w.heap.size + 1) zs.length zs.length (fun _ => 0) := by
    rw [← hW0]
    have := Blk.new (w.alloc (.cells ((Array.replicate (s + 1) (Value.slice none 0 0)).setIfInBounds 0 (Value.slice (some ⟨w.heap.size + 1, 0, none⟩) zs.length zs.length)) 22)) (Array.replicate zs.length (Value.int .i64 0)) 3
    rw [World.size_alloc] at this
    exact ⟨_, 3, this, Nat.le_refl _, by simp, fun i hi => by simp [hi]⟩
  have hB0 : Below w.heap.size w W0 := by rw [← hW0]; exact ((Below.refl _ w).alloc (Nat.le_refl _) _).alloc (by simp) _
  have hR0 : Rows61 zs.length s w.heap.size w.heap.size w.heap.size (fun x => tb61 zs.length (zs.drop zs.length) (ps.drop zs.length) zs.length x) ((Array.replicate (s + 1) (Value.slice none 0 0)).setIfInBounds 0 (Value.slice (some ⟨w.heap.size + 1, 0, none⟩) zs.length zs.length)) W0 := fun x hx => by
    rw [List.drop_of_length_le (Nat.le_refl zs.length)]
    by_cases e : x = 0
    · subst e
      right
      simp only [tb61]
      refine ⟨by simp, w.heap.size + 1, zs.length, by simp [Array.getElem?_setIfInBounds_self_of_lt], by omega, by omega, by omega, r0.congr fun i hi => ?_⟩
      simp [List.getElem?_replicate, hi]
    · left
      simp only [tb61]
      refine ⟨by rw [if_neg (by omega)], ?_⟩
      rw [Array.getElem?_setIfInBounds_ne (by omega), Array.getElem?_replicate, if_pos (by omega)]
  clear r0 hW0
  have hzc : ((Array.replicate (s + 1) (Value.slice none 0 0)).setIfInBounds 0 (Value.slice (some ⟨w.heap.size + 1, 0, none⟩) zs.length zs.length)).size = s + 1 := by rw [Array.size_setIfInBounds, Array.size_replicate]
  gi_loopw [8, 7] (fun kv bv wr => ∃ (m B : Nat) (cb : Array Value), kv = .int .i64 ((m : Int) - 1) ∧ m ≤ zs.length ∧ bv = .slice (some ⟨B, 0, none⟩) (s + 1) (s + 1) ∧ Blk wr B cb 22 ∧ cb.size = s + 1 ∧
      Rows61 zs.length s B B w.heap.size (fun x => tb61 zs.length (zs.drop m) (ps.drop m) m x) cb wr ∧ Below w.heap.size w wr ∧ w.heap.size ≤ B)
    (fun kv _ _ => (intOf kv + 1).toNat)
  case atStart => exact ⟨zs.length, w.heap.size, _, rfl, Nat.le_refl _, rfl, b0, hzc, hR0, hB0, Nat.le_refl _⟩
  case round =>
    clear b0 hR0 hB0
    obtain ⟨m, B, cb, rfl, hm, rfl, hbb, hsb, hrb, hlow, hBw⟩ := hrel
    obtain ⟨wi, rfl⟩ : ∃ wi, wi = wr := ⟨wr, rfl⟩
    have hszw := hlow.size
    cases m with
    | zero =>
      simp only [List.drop_zero] at hrb
      rcases hrb s (Nat.le_refl s) with ⟨e1, e2⟩ | ⟨e1, ρ, cp, e2, e3, e4, e5, e6⟩
      · have jc := hbb.cell s e2
        have e1 : tb61 zs.length zs ps 0 s = [] := e1
        clear hrb
        gi_wp2
        go_ret
        first | exact ⟨hlow, .inl rfl⟩ | exact ⟨hlow, .inl ⟨e1, rfl⟩⟩
      · have jc := hbb.cell s e2
        have e1 : (tb61 zs.length zs ps 0 s).length = zs.length := e1
        have e6 : Row wi ρ cp zs.length (fun i => (tb61 zs.length zs ps 0 s)[i]?.getD 0) := e6
        clear hrb
        gi_wp2
        go_ret
        refine ⟨hlow, .inr ?_⟩
        first | exact ⟨ρ, cp, rfl, e3, e6⟩ | exact ⟨e1, ρ, cp, rfl, e3, e6⟩
    | succ k =>
      rw [show ((k + 1 : Nat) : Int) - 1 = (k : Int) by omega]
      have hk : k < zs.length := by omega
      have hkp : k < ps.length := by omega
      obtain ⟨hc1, hc2⟩ := hcc zs[k] (List.getElem_mem _)
      obtain ⟨hq1, hq2⟩ := hpp ps[k] (List.getElem_mem _)
      obtain ⟨c, hcz⟩ := Int.eq_ofNat_of_zero_le (show 0 ≤ zs[k] by omega)
      obtain ⟨q, hqz⟩ := Int.eq_ofNat_of_zero_le hq1
      have hG : ∀ x : Nat, qst61 (tb61 zs.length (zs.drop (k + 1)) (ps.drop (k + 1)) (k + 1)) k q c x (x + 1) 0 [] = tb61 zs.length (zs.drop k) (ps.drop k) k x := fun x => by
        symm
        rw [List.drop_eq_getElem_cons hk, List.drop_eq_getElem_cons hkp, tb61, hcz]
        simp [hqz]
      have hfo := tb61_ok (L := zs.length) (zs.drop (k + 1)) (ps.drop (k + 1)) (k + 1) (fun q hq => hpp q (List.mem_of_mem_drop hq))
      have hcc1 : ∀ wr, Below w.heap.size w wr → wr.cell? ⟨b, off + k, none⟩ = some (.int .i64 c) := fun wr hwr => by
        have := (hwr.cell (p := ⟨b, off + k, none⟩) hb).trans (hcs k hk)
        rw [hcz] at this
        exact this
      have hpc : ∀ wr, Below w.heap.size w wr → wr.cell? ⟨b', off' + k, none⟩ = some (.int .i64 q) := fun wr hwr => by
        have := (hwr.cell (p := ⟨b', off' + k, none⟩) hb').trans (hps k hkp)
        rw [hqz] at this
        exact this
      rw [hcz] at hc1 hc2
      rw [hqz] at hq2
      generalize hf : tb61 zs.length (zs.drop (k + 1)) (ps.drop (k + 1)) (k + 1) = f at hG hfo hrb
      gi_wp2
      have hbl := hbb.lt
      have hSt : St61 w zs.length s B wi.heap.size cb (Array.replicate (s + 1) (Value.slice none 0 0)) (fun x => f x) (fun _ => []) (wi.alloc (.cells (Array.replicate (s + 1) (Value.slice none 0 0)) 22)) := by
        refine ⟨hbb.alloc _, hsb, Blk.new wi _ _, Array.size_replicate, ?_, fun x hx => .inl ⟨rfl, by rw [Array.getElem?_replicate, if_pos (by omega)]⟩, hlow.alloc hszw _, hBw, hszw, by omega⟩
        exact hrb.map (fun _ _ => rfl) fun ρ cp g _ a _ r => ⟨a, by have := r.lt; omega, r.kept (World.grownBy_alloc _ _ none) (by simp)⟩
      generalize wi.heap.size = N at *
      generalize World.alloc wi _ = W1 at *
      clear hbb hrb hlow
      gi_loopw [10] (fun xv wr => ∃ (x : Nat) (cn : Array Value), xv = .int .i64 x ∧ x ≤ s + 1 ∧ St61 w zs.length s B N cb cn (fun x => f x) (fun y => if y < x then tb61 zs.length (zs.drop k) (ps.drop k) k y else []) wr)
        (fun xv _ => s + 1 - (intOf xv).toNat)
      case atStart => exact ⟨0, _, rfl, by omega, hSt.congr fun x _ => (if_neg (Nat.not_lt_zero x)).symm⟩
      case round =>
        clear hSt
        obtain ⟨x, cn, rfl, hx, hS⟩ := hrel
        obtain ⟨wj, rfl⟩ : ∃ wj, wj = wr := ⟨wr, rfl⟩
        by_cases hxs : x < s + 1
        · have hxs2 : x ≤ s := by omega
          gi_wp2
          gi_loopw [11] (fun nv wr => ∃ (m : Nat) (cv : List Int) (cn : Array Value), nv = .int .i64 m ∧ m ≤ x + 1 ∧ qst61 f k q c x (x + 1 - m) m cv = tb61 zs.length (zs.drop k) (ps.drop k) k x ∧ Okl zs.length cv ∧
              St61 w zs.length s B N cb cn (fun x => f x) (fun y => if y < x then tb61 zs.length (zs.drop k) (ps.drop k) k y else if y = x then cv else []) wr)
            (fun nv _ => x + 2 - (intOf nv).toNat)
          case atStart =>
            refine ⟨0, [], cn, rfl, by omega, hG x, .inl rfl, hS.congr fun y _ => ?_⟩
            by_cases e : y < x
            · rw [if_pos e, if_pos e]
            · rw [if_neg e, if_neg e]
              split <;> rfl
          case round =>
            clear hS
            obtain ⟨m, cv, cn, rfl, hm, hpv, hcv, hS⟩ := hrel
            obtain ⟨wk, rfl⟩ : ∃ wk, wk = wr := ⟨wr, rfl⟩
            have jc := hcc1 wk hS.low
            have jp := hpc wk hS.low
            obtain ⟨p, hp⟩ : ∃ p : Nat, (m : Int) * (c : Int) = p := ⟨m * c, by simp⟩
            have hp1 : m ≤ p := by
              have : (m : Int) * 1 ≤ (m : Int) * (c : Int) := Int.mul_le_mul_of_nonneg_left hc1 (by omega)
              omega
            have hp2 : p ≤ 8040 := by
              have : (m : Int) * (c : Int) ≤ 201 * 40 := Int.mul_le_mul (by omega) hc2 (by omega) (by omega)
              omega
            by_cases hmq : m ≤ q
            · by_cases hmp : p ≤ x
              · obtain ⟨d, hd⟩ : ∃ d : Nat, (x : Int) - (p : Int) = d := ⟨x - p, by omega⟩
                have hgo := qst61_go (f := f) (k := k) (cur := cv) (show (m : Int) ≤ (q : Int) by omega) (show (m : Int) * (c : Int) ≤ (x : Int) by omega) (x - m)
                rw [show (x : Int) - (m : Int) * (c : Int) = (d : Int) by omega, show x - m + 1 = x + 1 - m by omega, hpv] at hgo
                have hfd := hfo d (by omega)
                rcases hS.rb d (by omega) with ⟨e1, e2⟩ | ⟨e1, ρ, cp, e2, e3, e4, e5, e6⟩
                · have jb := hS.bb.cell d e2
                  have e1 : f d = [] := e1
                  have hu : upd61 (f d) cv k m = cv := by unfold upd61; rw [if_pos e1]
                  rw [hu] at hgo
                  gi_wp2
                  exact ⟨⟨m + 1, cv, cn, by simp, by omega, by (try rw [hgo]); rw [show x + 1 - (m + 1) = x - m by omega]; simp, hcv, hS⟩, by simp [intOf]; omega⟩
                · have jb := hS.bb.cell d e2
                  have e1 : (f d).length = zs.length := e1
                  have e6 : Row wk ρ cp zs.length (fun i => (f d)[i]?.getD 0) := e6
                  have hfd2 : ∀ y ∈ f d, 0 ≤ y ∧ y ≤ 200 := by
                    rcases hfd with h9 | h9
                    · rw [h9] at e1; simp at e1; omega
                    · exact h9.2
                  have hfn : f d ≠ [] := fun h9 => by rw [h9] at e1; simp at e1; omega
                  obtain ⟨ta0, ta1⟩ := tot_nn61 hfd2
                  have hmL : (200 : Int) * ((f d).length : Int) ≤ 1200 := by omega
                  rcases hS.rn x (by omega) with ⟨g1, g2⟩ | ⟨g1, r, cpn, g2, g3, g4, g5, g6⟩
                  · have g1 : cv = [] := by simpa using g1
                    have jn := hS.nb.cell x g2
                    have hu : upd61 (f d) cv k m = (f d).set k m := by unfold upd61; rw [if_neg hfn, if_pos (.inl g1)]
                    rw [hu] at hgo
                    gi_wp2
                    refine reg15a (x := x) (by omega) jn ?_
                    go_at_K
                    have hS := hS.below (Below.refl wk.heap.size wk).drew
                    have e6 := e6.drew
                    clear jn jc jp jb
                    generalize wk.drew = wl at *
                    gi_wp2_with (gi_at_builtin; go_loud (refine wpListIn_append_own _ rfl _ _ 22 rfl wl.heap.size 3 i0 (.int .i64 0) 1 8 hu22 hi0 hz0 hz1 hz2 rfl (by decide) _ _ _ rfl (own_made61 wl) ⟨ρ, 0, none⟩ zs.length cp ((f d).map (Value.int .i64)) rfl (by simp [e1]) ?c1 ?c2 ?c3 ?c4 ?c5 ?_))
                    case c1 =>
                      intro j u hj
                      rw [List.getElem?_map] at hj
                      obtain ⟨y, hy, rfl⟩ := Option.map_eq_some_iff.1 hj
                      have := (e6.kept (World.grownBy_alloc wl (.cells #[] 3) none) (by simp)).cell (i := j) (by rw [← e1]; exact (List.getElem?_eq_some_iff.1 hy).1)
                      rw [hy] at this
                      by_cases hj0 : j = 0
                      · subst hj0; simpa [Addr.add] using this
                      · simpa [Addr.add, hj0] using this
                    case c2 => intro u hu; obtain ⟨y, _, rfl⟩ := List.mem_map.1 hu; rfl
                    case c3 => unfold maxLen; omega
                    case c4 => omega
                    case c5 => simp
                    · intro v' w1 hown hgrow _
                      have hgrow : (wl.alloc (.cells #[] 3)).grownBy w1 (some wl.heap.size) := hgrow
                      try simp only [Nat.zero_add, List.nil_append] at hown
                      rcases hown.2 with ⟨_, hn0⟩ | ⟨r', cp', cur, rfl, hg', hgg, hlc, hmx, hsz, htk⟩
                      · omega
                      · rw [Nat.mul_one] at hsz htk
                        have hput := hS.put (x := x) (by omega) hgrow hg' hgg hlc (by omega) htk e1 k m
                        have hnl := hS.nb.lt
                        have kN : Blk w1 N cn 22 := (hS.nb.alloc _).kept hgrow (by simp; omega)
                        have krow := (row_of61 hgg hlc (by omega) htk e1).other (b' := N) x (.slice (some ⟨r', 0, none⟩) zs.length cp') (by omega)
                        have f1 := kN.cell x g2
                        have f2 := kN.frozen x
                        have f3 := (kN.set x (.slice (some ⟨r', 0, none⟩) zs.length cp')).cell x (Array.getElem?_setIfInBounds_self_of_lt (by rw [hS.sn]; omega))
                        have f4 := krow.cell hk
                        have f5 := krow.frozen k
                        have hok := upd61_ok (k := k) (n := m) hfd hcv ⟨by omega, by omega⟩
                        rw [hu] at hok
                        have hput2 := hput.congr (g' := fun y => if y < x then tb61 zs.length (zs.drop k) (ps.drop k) k y else if y = x then (f d).set k m else []) (fun y _ => put_congr61 (F := fun y => tb61 zs.length (zs.drop k) (ps.drop k) k y) y)
                        clear hput hown hgrow krow kN hgg htk
                        have hxs2 : x ≤ s := by omega
                        gi_wp2
                        first
                          | exact ⟨⟨m + 1, (f d).set k m, _, by simp, by omega, by (try rw [hgo]); rw [show x + 1 - (m + 1) = x - m by omega]; simp, hok, hput2⟩, by simp [intOf]; omega⟩
                          | exact ⟨⟨m + 1, by omega, by omega, (f d).set k m, by (try rw [hgo]); rw [show x + 1 - (m + 1) = x - m by omega]; simp, hok, _, hput2⟩, by simp [intOf]; omega⟩
                  · have g8 : cv.length = zs.length := by simpa using g1
                    have g7 : Row wk r cpn zs.length (fun i => cv[i]?.getD 0) := by simpa using g6
                    clear g6
                    have jn := hS.nb.cell x g2
                    have hcv2 : ∀ y ∈ cv, 0 ≤ y ∧ y ≤ 200 := by
                      rcases hcv with h9 | h9
                      · rw [h9] at g8; simp at g8; omega
                      · exact h9.2
                    have hcn : cv ≠ [] := fun h9 => by rw [h9] at g8; simp at g8; omega
                    clear g1
                    gi_wp2
                    refine reg15b h1 (x := x) (r := r) (cp := cpn) (a := tot (f d)) (b := tot cv) (by omega) h0 hS.nb.lt (by omega) (by omega) ta0 (by omega) jn (fun W hW => htot W (f d) ρ cp (e6.below hW e6.lt) e1 hfd2) (fun W hW => htot W cv r cpn (g7.below hW g7.lt) g8 hcv2) ?_
                    intro wl hwl
                    go_at_K
                    have hS := hS.below hwl
                    have e6 := e6.below hwl e6.lt
                    clear jn jc jp jb hwl
                    by_cases hlt : (m : Int) + tot (f d) < tot cv
                    · have hu : upd61 (f d) cv k m = (f d).set k m := by unfold upd61; rw [if_neg hfn, if_pos (.inr (by omega))]
                      rw [hu] at hgo
                      rw [decide_eq_true hlt]
                      gi_wp2_with (gi_at_builtin; refine wpListIn_append_own _ rfl _ _ 22 rfl wl.heap.size 3 i0 (.int .i64 0) 1 8 hu22 hi0 hz0 hz1 hz2 rfl (by decide) _ _ _ rfl (own_made61 wl) ⟨ρ, 0, none⟩ zs.length cp ((f d).map (Value.int .i64)) rfl (by simp [e1]) ?c1 ?c2 ?c3 ?c4 ?c5 ?_)
                      case c1 =>
                        intro j u hj
                        rw [List.getElem?_map] at hj
                        obtain ⟨y, hy, rfl⟩ := Option.map_eq_some_iff.1 hj
                        have := (e6.kept (World.grownBy_alloc wl (.cells #[] 3) none) (by simp)).cell (i := j) (by rw [← e1]; exact (List.getElem?_eq_some_iff.1 hy).1)
                        rw [hy] at this
                        by_cases hj0 : j = 0
                        · subst hj0; simpa [Addr.add] using this
                        · simpa [Addr.add, hj0] using this
                      case c2 => intro u hu; obtain ⟨y, _, rfl⟩ := List.mem_map.1 hu; rfl
                      case c3 => unfold maxLen; omega
                      case c4 => omega
                      case c5 => simp
                      · intro v' w1 hown hgrow _
                        have hgrow : (wl.alloc (.cells #[] 3)).grownBy w1 (some wl.heap.size) := hgrow
                        try simp only [Nat.zero_add, List.nil_append] at hown
                        rcases hown.2 with ⟨_, hn0⟩ | ⟨r', cp', cur, rfl, hg', hgg, hlc, hmx, hsz, htk⟩
                        · omega
                        · rw [Nat.mul_one] at hsz htk
                          have hput := hS.put (x := x) (by omega) hgrow hg' hgg hlc (by omega) htk e1 k m
                          have hnl := hS.nb.lt
                          have kN : Blk w1 N cn 22 := (hS.nb.alloc _).kept hgrow (by simp; omega)
                          have krow := (row_of61 hgg hlc (by omega) htk e1).other (b' := N) x (.slice (some ⟨r', 0, none⟩) zs.length cp') (by omega)
                          have f1 := kN.cell x g2
                          have f2 := kN.frozen x
                          have f3 := (kN.set x (.slice (some ⟨r', 0, none⟩) zs.length cp')).cell x (Array.getElem?_setIfInBounds_self_of_lt (by rw [hS.sn]; omega))
                          have f4 := krow.cell hk
                          have f5 := krow.frozen k
                          have hok := upd61_ok (k := k) (n := m) hfd hcv ⟨by omega, by omega⟩
                          rw [hu] at hok
                          have hput2 := hput.congr (g' := fun y => if y < x then tb61 zs.length (zs.drop k) (ps.drop k) k y else if y = x then (f d).set k m else []) (fun y _ => put_congr61 (F := fun y => tb61 zs.length (zs.drop k) (ps.drop k) k y) y)
                          clear hput hown hgrow krow kN hgg htk
                          have hxs2 : x ≤ s := by omega
                          gi_wp2
                          first
                            | exact ⟨⟨m + 1, (f d).set k m, _, by simp, by omega, by (try rw [hgo]); rw [show x + 1 - (m + 1) = x - m by omega]; simp, hok, hput2⟩, by simp [intOf]; omega⟩
                            | exact ⟨⟨m + 1, by omega, by omega, (f d).set k m, by (try rw [hgo]); rw [show x + 1 - (m + 1) = x - m by omega]; simp, hok, _, hput2⟩, by simp [intOf]; omega⟩
                    · have hu : upd61 (f d) cv k m = cv := by unfold upd61; rw [if_neg hfn, if_neg (by rintro (h | h); exact hcn h; omega)]
                      rw [hu] at hgo
                      rw [decide_eq_false hlt]
                      gi_wp2
                      first | exact ⟨⟨m + 1, cv, cn, by simp, by omega, by (try rw [hgo]); rw [show x + 1 - (m + 1) = x - m by omega]; simp, hcv, hS⟩, by simp [intOf]; omega⟩ | exact ⟨⟨m + 1, by omega, by omega, cv, by (try rw [hgo]); rw [show x + 1 - (m + 1) = x - m by omega]; simp, hcv, cn, hS⟩, by simp [intOf]; omega⟩
              · rw [qst61_stop (by omega)] at hpv
                gi_wp2
                refine ⟨⟨x + 1, cn, by simp, by omega, hS.congr fun y _ => row_next61 (F := fun y => tb61 zs.length (zs.drop k) (ps.drop k) k y) hpv y⟩, by simp [intOf]; omega⟩
            · rw [qst61_stop (by omega)] at hpv
              gi_wp2
              refine ⟨⟨x + 1, cn, by simp, by omega, hS.congr fun y _ => row_next61 (F := fun y => tb61 zs.length (zs.drop k) (ps.drop k) k y) hpv y⟩, by simp [intOf]; omega⟩
        · obtain rfl : x = s + 1 := by omega
          gi_wp2
          exact ⟨⟨k, N, cn, rfl, by omega, rfl, hS.nb, hS.sn, hS.rn.map (fun y hy => if_pos (by omega)) (fun ρ cp g _ a b r => ⟨b, b, r⟩), hS.low, hS.hN⟩, by simp only [intOf]; omega⟩
end
end Go.Proofs.Ytjgmfdgpgdaclaa
/-
  The reference's payments: the contract.
-/
set_option linter.unusedVariables false
set_option linter.unusedSimpArgs false
set_option maxRecDepth 100000
namespace Go.Proofs.Ytjgmfdgpgdaclaa
open Go.RowKit Go.Shelf

open Classical in
noncomputable def HF61 (T : List Int → Option Int) (l p : List Int) (s : Int) : Option (List Int) :=
  if (∀ c ∈ l, 1 ≤ c ∧ c ≤ 40) ∧ (0 < l.length ∧ l.length ≤ 6) ∧ (0 ≤ s ∧ s ≤ 200) ∧ p.length = l.length ∧ (∀ q ∈ p, 0 ≤ q ∧ q ≤ 200) ∧ (∀ x : List Int, x.length = l.length → (∀ y ∈ x, 0 ≤ y ∧ y ≤ 200) → T x = some (tot x)) then some (tb61 l.length l p 0 s) else none

open Go.Vi
set_option maxHeartbeats 2000000 in
theorem HC61 (n : Nat × Nat) (xs : pksDen [.c (.sl (.int .i64)), .c (.sl (.int .i64)), .c (.int .i64)]) (r : rksDen [.own (.int .i64) 0]) (h : HF61 (S70 n) xs.1 xs.2.1 xs.2.2.1 = some r) (vs : List V) (hv : pksArg [.c (.sl (.int .i64)), .c (.sl (.int .i64)), .c (.int .i64)] vs = some xs) :
    FC Try.prog 61 vs (rets [.own (.int .i64) 0] r) := by
  obtain ⟨zs, ps, s, ⟨⟩⟩ := xs
  unfold HF61 at h
  split at h
  case isFalse => cases h
  rename_i hd
  have h9 := Option.some.inj h
  subst h9
  clear h
  obtain ⟨hc, ⟨hl0, hl1⟩, ⟨hs0, hs1⟩, hpl, hpp, hT⟩ := hd
  simp only at hc hl0 hl1 hs0 hs1 hpl hpp hT
  intro w A0 args hA hargs
  have hv2 := pksArg_VR _ _ _ _ hv hargs
  match args, hv2 with
  | [v0, v1, v2], ⟨g0, g1, g2, _⟩ =>
    have g2 : v2 = .int .i64 s := g2
    subst g2
    have g0 : CR w A0 (.sl (.int .i64) zs false) v0 := g0
    have g1 : CR w A0 (.sl (.int .i64) ps false) v1 := g1
    obtain ⟨b, off, cap, rfl, hb, hcs⟩ := CR_ints (zs := zs) (t := false) g0 hl0 hA
    obtain ⟨b', off', cap', rfl, hb', hps⟩ := CR_ints (zs := ps) (t := false) g1 (by omega) hA
    rw [hpl]
    obtain ⟨s', rfl⟩ := Int.eq_ofNat_of_zero_le hs0
    have htot : ∀ W (l : List Int) r cp, Row W r cp zs.length (fun i => l[i]?.getD 0) → l.length = zs.length → (∀ y ∈ l, 0 ≤ y ∧ y ≤ 200) → Calls Try.prog 70 #[.slice (some ⟨r, 0, none⟩) zs.length cp] W fun e w' => e = .returned (.int .i64 (tot l)) ∧ Below W.heap.size W w' := fun W l r cp hrow hll hlx => by
      rw [← hll] at hrow ⊢
      exact fc_int (w := W) (A := fun x => x = r) (args := [.slice (some ⟨r, 0, none⟩) l.length cp]) (fcs_FC (rks := [.c (.int .i64) 2]) (FC70 n) (vs := [.c (.sl (.int .i64) l false)]) (xs := (l, ())) rfl (hT l hll hlx)) (fun b hb => by subst hb; exact hrow.lt) ⟨CR_row hrow, trivial⟩
    have key := (callsIn_wide (n := 3)).1 (paid_in 3 (by omega) b off cap b' off' cap' zs ps s' w hb hb' hcs hps hl0 hl1 hpl hc hpp (by omega) (fun W l r cp a b c => callsIn_wide.2 (htot W l r cp a b c)))
    refine key.mono ?_
    rintro x w2 ⟨hB, ⟨h3, rfl⟩ | ⟨hn, ρ, cp, rfl, hρ, hrow⟩⟩
    · show Grows w w2 ∧ RetR w w2 A0 (rets [.own (.int .i64) 0] (tb61 zs.length zs ps 0 s')) _
      rw [h3]
      exact ⟨Grows.of_below hB, [.emp], [_], rfl, ⟨rfl, ⟨none, rfl, fun _ => rfl, rfl, fun _ _ h => (by cases h)⟩, fun b c h => (by cases h)⟩, fun b c h => (by cases h), trivial⟩
    · show Grows w w2 ∧ RetR w w2 A0 (rets [.own (.int .i64) 0] (tb61 zs.length zs ps 0 s')) _
      generalize tb61 zs.length zs ps 0 s' = l at *
      rw [← hn] at hrow ⊢
      obtain ⟨cur, ty, k1, k2, k3, k4⟩ := hrow
      have hout := out_ints (w := w) (W' := w2) (A1 := newA w w2 A0 [.at ρ cp]) (b := ρ) (cap := cp) (l := l) (cur := cur) (t := ty) k1 hρ k2 k3 (fun i x hx => by
        have : cur[i]? = some (.int .i64 (l[i]?.getD 0)) := k4 i (List.getElem?_eq_some_iff.1 hx).1
        rw [hx] at this
        exact this)
      exact ⟨Grows.of_below hB, [.at ρ cp], [_], rfl, hout, fun b c hb j hj c' => by simp at hj, trivial⟩
end Go.Proofs.Ytjgmfdgpgdaclaa
set_option linter.unusedVariables false
set_option linter.unusedSimpArgs false
set_option maxRecDepth 100000
namespace Go.Proofs.Ytjgmfdgpgdaclaa
open Go.Vi
/- headword/headwordref12.paid -/
abbrev R61 := List Int
def pk61 : List PK := [.c (.sl (.int .i64)), .c (.sl (.int .i64)), .c (.int .i64)]
def rk61 : List RK := [.own (.int .i64) 0]
noncomputable def S61 (n : Nat × Nat) (coins0 : List Int) (purse1 : List Int) (sum2 : Int) : Option R61 := HF61 (S70 n) coins0 purse1 sum2
noncomputable def P61 (n : Nat × Nat) := phiOf pk61 rk61 (fun xs => S61 n xs.1 xs.2.1 xs.2.2.1)
theorem call61 : CallOK Try.prog 61 := callOK_of Try.func61 (by kernel_rfl) (by kernel_rfl)
theorem FC61 (n : Nat × Nat) : FCs Try.prog 61 (P61 n) := phiOf_FCs fun xs r h vs hv => HC61 n xs r h vs hv
end Go.Proofs.Ytjgmfdgpgdaclaa
set_option linter.unusedVariables false
set_option linter.unusedSimpArgs false
set_option maxRecDepth 100000
namespace Go.Proofs.Ytjgmfdgpgdaclaa
open Go.Vi
/- headword/headwordref12.First -/
abbrev R21 := List Int × Int
noncomputable def c21 : Code := bodyOf Try.f21
noncomputable def an21 : Ann := (.s .l (.s .l (.s (.s .l (.j [0, 1] .l .l)) .l)))
def pk21 : List PK := [.c (.sl (.int .i64)), .c (.int .i64)]
def rk21 : List RK := [.own (.int .i64) 4, .c (.int .i64) 5]
noncomputable def rt21 (st : St) : Option R21 := rtG rk21 st
noncomputable def E21 (n : Nat × Nat) : Env := { T := tab, phi := (consPhi 58 (fun _ => true) (P58 n) (consPhi 61 (fun _ => true) (P61 n) (consPhi 62 (fun _ => true) (P62 n) noPhi))), eff := fun _ => false, fuel := n.1, hold := n.2 }
noncomputable def kq21_1 (n : Nat × Nat) : St → Option R21 := run (E21 n) (cB (cB (cB c21))) (Ann.snd (Ann.snd (Ann.snd an21))) rt21 (fun _ _ => none) rt21
noncomputable def kc21_2 (n : Nat × Nat) : St → Option R21 := fun s => normC [0, 1] s (kq21_1 n)
noncomputable def S21 (n : Nat × Nat) (coins0 : List Int) (sum1 : Int) : Option R21 := run (E21 n) c21 an21 rt21 (fun _ _ => none) rt21 { tm := [.c (.sl (.int .i64) coins0 false), .c (.int .i64 sum1), uu, uu, uu, uu, uu, uu, uu, uu, uu, uu, uu, uu, uu, uu, uu, uu], hp := emp }
theorem S21_eq (n : Nat × Nat) (coins0 : List Int) (sum1 : Int) : S21 n coins0 sum1 =
    (S58 n coins0 sum1).bind fun r1' =>
    (bif (r1' != 0) then some ([], r1')
    else (S62 n coins0).bind fun r2' =>
      (S61 n coins0 r2' sum1).bind fun r3' =>
      some (r3', 0)) := by kernel_rfl
theorem S21_run (n : Nat × Nat) (xs : pksDen pk21) : S21 n xs.1 xs.2.1 = runG (E21 n) noScope c21 an21 (rtG rk21) (fun _ _ => none) (rtG rk21) (st0 pk21 xs Try.f21.ntmps) := by kernel_rfl
noncomputable def P21 (n : Nat × Nat) := phiOf pk21 rk21 (fun xs => S21 n xs.1 xs.2.1)
theorem call21 : CallOK Try.prog 21 := callOK_of Try.func21 (by kernel_rfl) (by kernel_rfl)
theorem env21 (n : Nat × Nat) : EnvOK Try.prog (E21 n) := envOK0 (consPhi_ok (FC58 n) call58 (consPhi_ok (FC61 n) call61 (consPhi_ok (FC62 n) call62 noPhi_ok))) rfl rfl
theorem par21 (n : Nat × Nat) : EnvPar (E21 n) := envPar0 (consPhi_par phiOf_Par1 (consPhi_par phiOf_Par1 (consPhi_par phiOf_Par1 noPhi_par))) rfl
theorem FC21 (n : Nat × Nat) : FCs Try.prog 21 (P21 n) := phiOf_FCs fun xs r h vs hv => FC.of_runG tabOK eqsOK (env21 n) (par21 n) mixed (fun _ => noScope_ok) Try.func21 (c := c21) (an := an21) (pks := pk21) (rks := rk21) (by kernel_rfl) (by kernel_rfl) hv ((S21_run n xs).symm.trans h)
end Go.Proofs.Ytjgmfdgpgdaclaa
set_option linter.unusedVariables false
set_option linter.unusedSimpArgs false
set_option maxRecDepth 100000
namespace Go.Proofs.Ytjgmfdgpgdaclaa
open Go.Vi
/- headword/headwordref12.Greatest -/
abbrev R23 := List Int × Int
noncomputable def c23 : Code := bodyOf Try.f23
noncomputable def an23 : Ann := (.s .l (.s .l (.s (.s .l (.j [0, 1] .l .l)) .l)))
def pk23 : List PK := [.c (.sl (.int .i64)), .c (.int .i64)]
def rk23 : List RK := [.own (.int .i64) 4, .c (.int .i64) 5]
noncomputable def rt23 (st : St) : Option R23 := rtG rk23 st
noncomputable def E23 (n : Nat × Nat) : Env := { T := tab, phi := (consPhi 58 (fun _ => true) (P58 n) (consPhi 64 (fun _ => true) (P64 n) noPhi)), eff := fun _ => false, fuel := n.1, hold := n.2 }
noncomputable def kq23_1 (n : Nat × Nat) : St → Option R23 := run (E23 n) (cB (cB (cB c23))) (Ann.snd (Ann.snd (Ann.snd an23))) rt23 (fun _ _ => none) rt23
noncomputable def kc23_2 (n : Nat × Nat) : St → Option R23 := fun s => normC [0, 1] s (kq23_1 n)
noncomputable def S23 (n : Nat × Nat) (coins0 : List Int) (sum1 : Int) : Option R23 := run (E23 n) c23 an23 rt23 (fun _ _ => none) rt23 { tm := [.c (.sl (.int .i64) coins0 false), .c (.int .i64 sum1), uu, uu, uu, uu, uu, uu, uu, uu, uu, uu, uu, uu, uu, uu], hp := emp }
theorem S23_eq (n : Nat × Nat) (coins0 : List Int) (sum1 : Int) : S23 n coins0 sum1 =
    (S58 n coins0 sum1).bind fun r1' =>
    (bif (r1' != 0) then some ([], r1')
    else (S64 n coins0 sum1).bind fun r2' =>
      some (r2', 0)) := by kernel_rfl
theorem S23_run (n : Nat × Nat) (xs : pksDen pk23) : S23 n xs.1 xs.2.1 = runG (E23 n) noScope c23 an23 (rtG rk23) (fun _ _ => none) (rtG rk23) (st0 pk23 xs Try.f23.ntmps) := by kernel_rfl
noncomputable def P23 (n : Nat × Nat) := phiOf pk23 rk23 (fun xs => S23 n xs.1 xs.2.1)
theorem call23 : CallOK Try.prog 23 := callOK_of Try.func23 (by kernel_rfl) (by kernel_rfl)
theorem env23 (n : Nat × Nat) : EnvOK Try.prog (E23 n) := envOK0 (consPhi_ok (FC58 n) call58 (consPhi_ok (FC64 n) call64 noPhi_ok)) rfl rfl
theorem par23 (n : Nat × Nat) : EnvPar (E23 n) := envPar0 (consPhi_par phiOf_Par1 (consPhi_par phiOf_Par1 noPhi_par)) rfl
theorem FC23 (n : Nat × Nat) : FCs Try.prog 23 (P23 n) := phiOf_FCs fun xs r h vs hv => FC.of_runG tabOK eqsOK (env23 n) (par23 n) mixed (fun _ => noScope_ok) Try.func23 (c := c23) (an := an23) (pks := pk23) (rks := rk23) (by kernel_rfl) (by kernel_rfl) hv ((S23_run n xs).symm.trans h)
end Go.Proofs.Ytjgmfdgpgdaclaa
set_option linter.unusedVariables false
set_option linter.unusedSimpArgs false
set_option maxRecDepth 100000
namespace Go.Proofs.Ytjgmfdgpgdaclaa
open Go.Vi
/- headword/headwordlaw12.CoinFew -/
abbrev R3 := Bool
noncomputable def c3 : Code := bodyOf Try.f3
noncomputable def an3 : Ann := (.s .l (.s (.s .l (.j [0, 1, 61, 62, 63, 66, 67, 68, 71, 72, 73, 76, 77, 78, 81, 82, 83, 86, 87, 88, 89, 90, 93] .l .l)) .l))
def pk3 : List PK := [.c (.sl (.int .i64)), .c (.int .i64)]
def rk3 : List RK := [.c .bool 4]
noncomputable def rt3 (st : St) : Option R3 := rtG rk3 st
noncomputable def E3 (n : Nat × Nat) : Env := { T := tab, phi := (consPhi 17 (fun _ => true) (P17 n) (consPhi 18 (fun _ => true) (P18 n) (consPhi 19 (fun _ => true) (P19 n) (consPhi 20 (fun _ => true) (P20 n) (consPhi 21 (fun _ => true) (P21 n) (consPhi 22 (fun _ => true) (P22 n) (consPhi 23 (fun _ => true) (P23 n) (consPhi 24 (fun _ => true) (P24 n) (consPhi 25 (fun _ => true) (P25 n) (consPhi 26 (fun _ => true) (P26 n) noPhi)))))))))), eff := fun _ => false, fuel := n.1, hold := n.2 }
noncomputable def kq3_1 (n : Nat × Nat) : St → Option R3 := run (E3 n) (cB (cB c3)) (Ann.snd (Ann.snd an3)) rt3 (fun _ _ => none) rt3
noncomputable def kc3_2 (n : Nat × Nat) : St → Option R3 := fun s => normC [0, 1, 61, 62, 63, 66, 67, 68, 71, 72, 73, 76, 77, 78, 81, 82, 83, 86, 87, 88, 89, 90, 93] s (kq3_1 n)
noncomputable def S3 (n : Nat × Nat) (coins0 : List Int) (sum1 : Int) : Option R3 := run (E3 n) c3 an3 rt3 (fun _ _ => none) rt3 { tm := [.c (.sl (.int .i64) coins0 false), .c (.int .i64 sum1), uu, uu, uu, uu, uu, uu, uu, uu, uu, uu, uu, uu, uu, uu, uu, uu, uu, uu, uu, uu, uu, uu, uu, uu, uu, uu, uu, uu, uu, uu, uu, uu, uu, uu, uu, uu, uu, uu, uu, uu, uu, uu, uu, uu, uu, uu, uu, uu, uu, uu, uu, uu, uu, uu, uu, uu, uu, uu, uu, uu, uu, uu, uu, uu, uu, uu, uu, uu, uu, uu, uu, uu, uu, uu, uu, uu, uu, uu, uu, uu, uu, uu, uu, uu, uu, uu, uu, uu, uu, uu, uu, uu, uu], hp := emp }
theorem S3_eq (n : Nat × Nat) (coins0 : List Int) (sum1 : Int) : S3 n coins0 sum1 =
    (bif decide ((coins0.length : Int) > 40) then (S17 n).bind fun r1' =>
      some r1'
    else (S18 n coins0 sum1).bind fun r2' =>
      (S19 n coins0 sum1).bind fun r3' =>
      (S20 n coins0 sum1).bind fun r4' =>
      (S21 n coins0 sum1).bind fun r5' =>
      (S22 n coins0 sum1).bind fun r6' =>
      (S23 n coins0 sum1).bind fun r7' =>
      ((bif ((r2'.1 == r3'.1) == true) then some (r2'.2 == r3'.2)
        else some false)).bind fun b8' =>
      ((bif (b8' == true) then (S24 n r4'.1 r5'.1).bind fun r9' =>
          some r9'
        else some false)).bind fun b10' =>
      ((bif (b10' == true) then some (r4'.2 == r5'.2)
        else some false)).bind fun b11' =>
      ((bif (b11' == true) then (S24 n r6'.1 r7'.1).bind fun r12' =>
          some r12'
        else some false)).bind fun b13' =>
      ((bif (b13' == true) then some (r6'.2 == r7'.2)
        else some false)).bind fun b14' =>
      ((bif (b14' == true) then (S25 n coins0).bind fun r15' =>
          (S26 n coins0).bind fun r16' =>
          some (r15' == r16')
        else some false)).bind fun b17' =>
      ((bif (b17' == true) then (S17 n).bind fun r18' =>
          some r18'
        else some false)).bind fun b19' =>
      some b19') := by kernel_rfl
theorem S3_run (n : Nat × Nat) (xs : pksDen pk3) : S3 n xs.1 xs.2.1 = runG (E3 n) noScope c3 an3 (rtG rk3) (fun _ _ => none) (rtG rk3) (st0 pk3 xs Try.f3.ntmps) := by kernel_rfl
noncomputable def P3 (n : Nat × Nat) := phiOf pk3 rk3 (fun xs => S3 n xs.1 xs.2.1)
theorem call3 : CallOK Try.prog 3 := callOK_of Try.func3 (by kernel_rfl) (by kernel_rfl)
theorem env3 (n : Nat × Nat) : EnvOK Try.prog (E3 n) := envOK0 (consPhi_ok (FC17 n) call17 (consPhi_ok (FC18 n) call18 (consPhi_ok (FC19 n) call19 (consPhi_ok (FC20 n) call20 (consPhi_ok (FC21 n) call21 (consPhi_ok (FC22 n) call22 (consPhi_ok (FC23 n) call23 (consPhi_ok (FC24 n) call24 (consPhi_ok (FC25 n) call25 (consPhi_ok (FC26 n) call26 noPhi_ok)))))))))) rfl rfl
theorem par3 (n : Nat × Nat) : EnvPar (E3 n) := envPar0 (consPhi_par phiOf_Par1 (consPhi_par phiOf_Par1 (consPhi_par phiOf_Par1 (consPhi_par phiOf_Par1 (consPhi_par phiOf_Par1 (consPhi_par phiOf_Par1 (consPhi_par phiOf_Par1 (consPhi_par phiOf_Par1 (consPhi_par phiOf_Par1 (consPhi_par phiOf_Par1 noPhi_par)))))))))) rfl
theorem FC3 (n : Nat × Nat) : FCs Try.prog 3 (P3 n) := phiOf_FCs fun xs r h vs hv => FC.of_runG tabOK eqsOK (env3 n) (par3 n) mixed (fun _ => noScope_ok) Try.func3 (c := c3) (an := an3) (pks := pk3) (rks := rk3) (by kernel_rfl) (by kernel_rfl) hv ((S3_run n xs).symm.trans h)
end Go.Proofs.Ytjgmfdgpgdaclaa
set_option linter.unusedVariables false
set_option linter.unusedSimpArgs false
set_option maxRecDepth 100000
namespace Go.Proofs.Ytjgmfdgpgdaclaa
open Go.Vi
/-D 19 -/
noncomputable def D19 (n : Nat × Nat) (coins0 : List Int) (sum1 : Int) : Option R19 :=
    (D58 n coins0 sum1).bind fun r1' =>
    (bif (r1' != 0) then some (0, r1')
    else (D59 n coins0 sum1).bind fun r2' =>
      (bif inB sum1 r2'.length then (idx r2' sum1).bind fun x3' =>
        some (x3', 0)
      else none))
theorem S19_D (n : Nat × Nat) (hn : n.2 = 1) : S19 n = D19 n := by
  funext coins0 sum1; refine (S19_eq n coins0 sum1).trans ?_
  unfold D19
  (try simp only [S58_D n hn, S59_D n hn]) <;> first | with_reducible rfl | rfl
end Go.Proofs.Ytjgmfdgpgdaclaa
set_option linter.unusedVariables false
set_option linter.unusedSimpArgs false
set_option maxRecDepth 100000
namespace Go.Proofs.Ytjgmfdgpgdaclaa
open Go.Vi
/-D 62 -/
noncomputable def DF62_1 (n : Nat × Nat) (f1 : List Int → Int → List Int → Option R62) (coins0 : List Int) (i4 : Int) (out3 : List Int) : Option R62 :=
    (bif decide (i4 < (coins0.length : Int)) then (bif decide (out3.length + [200].length ≤ lim) then f1 coins0 (wr .i64 (i4 + 1)) (out3 ++ [200])
      else none)
    else some out3)
noncomputable def DL62_1 (n : Nat × Nat) (m : Nat) : List Int → Int → List Int → Option R62 := Nat.rec (motive := fun _ => List Int → Int → List Int → Option R62) (fun _ _ _ => none) (fun _ ih => DF62_1 n ih) m
theorem DL62_1_succ (n : Nat × Nat) (m : Nat) : DL62_1 n (m + 1) = DF62_1 n (DL62_1 n m) := rfl
theorem DL62_1_eq (n : Nat × Nat) (hn : n.2 = 1) : ∀ m, L62_1 n m = DL62_1 n m
  | 0 => by funext coins0 i4 out3; kernel_rfl
  | m + 1 => by
    have ih := DL62_1_eq n hn m
    funext coins0 i4 out3; refine (L62_1_eq n m coins0 i4 out3).trans ?_
    rw [DL62_1_succ]
    unfold DF62_1
    (try simp only [ih]) <;> first | with_reducible rfl | rfl
noncomputable def D62 (n : Nat × Nat) (coins0 : List Int) : Option R62 :=
    DL62_1 n n.1 coins0 0 []
theorem S62_D (n : Nat × Nat) (hn : n.2 = 1) : S62 n = D62 n := by
  funext coins0; refine (S62_eq n coins0).trans ?_
  unfold D62
  (try simp only [DL62_1_eq n hn]) <;> first | with_reducible rfl | rfl
end Go.Proofs.Ytjgmfdgpgdaclaa
set_option linter.unusedVariables false
set_option linter.unusedSimpArgs false
set_option maxRecDepth 100000
namespace Go.Proofs.Ytjgmfdgpgdaclaa
open Go.Vi
/-D 61 -/
noncomputable def D61 (n : Nat × Nat) (coins0 : List Int) (purse1 : List Int) (sum2 : Int) : Option R61 := HF61 (D70 n) coins0 purse1 sum2
theorem S61_D (n : Nat × Nat) (hn : n.2 = 1) : S61 n = D61 n := by unfold S61 D61; rw [S70_D n hn]
end Go.Proofs.Ytjgmfdgpgdaclaa
set_option linter.unusedVariables false
set_option linter.unusedSimpArgs false
set_option maxRecDepth 100000
namespace Go.Proofs.Ytjgmfdgpgdaclaa
open Go.Vi
/-D 21 -/
noncomputable def D21 (n : Nat × Nat) (coins0 : List Int) (sum1 : Int) : Option R21 :=
    (D58 n coins0 sum1).bind fun r1' =>
    (bif (r1' != 0) then some ([], r1')
    else (D62 n coins0).bind fun r2' =>
      (D61 n coins0 r2' sum1).bind fun r3' =>
      some (r3', 0))
theorem S21_D (n : Nat × Nat) (hn : n.2 = 1) : S21 n = D21 n := by
  funext coins0 sum1; refine (S21_eq n coins0 sum1).trans ?_
  unfold D21
  (try simp only [S58_D n hn, S61_D n hn, S62_D n hn]) <;> first | with_reducible rfl | rfl
end Go.Proofs.Ytjgmfdgpgdaclaa
set_option linter.unusedVariables false
set_option linter.unusedSimpArgs false
set_option maxRecDepth 100000
namespace Go.Proofs.Ytjgmfdgpgdaclaa
open Go.Vi
/-D 23 -/
noncomputable def D23 (n : Nat × Nat) (coins0 : List Int) (sum1 : Int) : Option R23 :=
    (D58 n coins0 sum1).bind fun r1' =>
    (bif (r1' != 0) then some ([], r1')
    else (D64 n coins0 sum1).bind fun r2' =>
      some (r2', 0))
theorem S23_D (n : Nat × Nat) (hn : n.2 = 1) : S23 n = D23 n := by
  funext coins0 sum1; refine (S23_eq n coins0 sum1).trans ?_
  unfold D23
  (try simp only [S58_D n hn, S64_D n hn]) <;> first | with_reducible rfl | rfl
end Go.Proofs.Ytjgmfdgpgdaclaa
set_option linter.unusedVariables false
set_option linter.unusedSimpArgs false
set_option maxRecDepth 100000
namespace Go.Proofs.Ytjgmfdgpgdaclaa
open Go.Vi
/-D 3 -/
noncomputable def D3 (n : Nat × Nat) (coins0 : List Int) (sum1 : Int) : Option R3 :=
    (bif decide ((coins0.length : Int) > 40) then (D17 n).bind fun r1' =>
      some r1'
    else (D18 n coins0 sum1).bind fun r2' =>
      (D19 n coins0 sum1).bind fun r3' =>
      (D20 n coins0 sum1).bind fun r4' =>
      (D21 n coins0 sum1).bind fun r5' =>
      (D22 n coins0 sum1).bind fun r6' =>
      (D23 n coins0 sum1).bind fun r7' =>
      ((bif ((r2'.1 == r3'.1) == true) then some (r2'.2 == r3'.2)
        else some false)).bind fun b8' =>
      ((bif (b8' == true) then (D24 n r4'.1 r5'.1).bind fun r9' =>
          some r9'
        else some false)).bind fun b10' =>
      ((bif (b10' == true) then some (r4'.2 == r5'.2)
        else some false)).bind fun b11' =>
      ((bif (b11' == true) then (D24 n r6'.1 r7'.1).bind fun r12' =>
          some r12'
        else some false)).bind fun b13' =>
      ((bif (b13' == true) then some (r6'.2 == r7'.2)
        else some false)).bind fun b14' =>
      ((bif (b14' == true) then (D25 n coins0).bind fun r15' =>
          (D26 n coins0).bind fun r16' =>
          some (r15' == r16')
        else some false)).bind fun b17' =>
      ((bif (b17' == true) then (D17 n).bind fun r18' =>
          some r18'
        else some false)).bind fun b19' =>
      some b19')
theorem S3_D (n : Nat × Nat) (hn : n.2 = 1) : S3 n = D3 n := by
  funext coins0 sum1; refine (S3_eq n coins0 sum1).trans ?_
  unfold D3
  (try simp only [S17_D n hn, S18_D n hn, S19_D n hn, S20_D n hn, S21_D n hn, S22_D n hn, S23_D n hn, S24_D n hn, S25_D n hn, S26_D n hn]) <;> first | with_reducible rfl | rfl
end Go.Proofs.Ytjgmfdgpgdaclaa
/-
  Coins: what is paid is not below 0.
-/
set_option linter.unusedVariables false
set_option linter.unusedSimpArgs false
namespace Go.Proofs.Ytjgmfdgpgdaclaa
theorem Pay.nn : ∀ {l ps : List Int} {x : Int} {p : List Int}, (∀ c ∈ l, 1 ≤ c) → Pay l ps x p → 0 ≤ x
  | [], _, x, p, _, h => by rw [h.1]; exact Int.le_refl 0
  | c :: l, ps, x, p, hp, ⟨n, p', h1, h2, h3, h4⟩ => by
    have := h4.nn (fun c h => hp c (by simp [h]))
    have := Int.mul_nonneg h2 (show 0 ≤ c by have := hp c (by simp); omega)
    omega
end Go.Proofs.Ytjgmfdgpgdaclaa
/-
  Coins: the reference's payments are the first ones with the fewest coins.
-/
set_option linter.unusedVariables false
set_option linter.unusedSimpArgs false
namespace Go.Proofs.Ytjgmfdgpgdaclaa
open Go.Vi

theorem tot_zeros : ∀ (k : Nat) (p : List Int), tot (List.replicate k 0 ++ p) = tot p
  | 0, p => rfl
  | k + 1, p => by
    rw [List.replicate_succ, List.cons_append]
    simp only [tot]
    rw [tot_zeros k p]
    omega
theorem set_zeros : ∀ (k : Nat) (n : Int) (p : List Int), (List.replicate (k + 1) 0 ++ p).set k n = List.replicate k 0 ++ n :: p
  | 0, n, p => rfl
  | k + 1, n, p => by
    rw [List.replicate_succ, List.cons_append, List.set_cons_succ, set_zeros k n p, List.replicate_succ (n := k), List.cons_append]
/-- Payments whose first number is below n. -/
def Low (A : List Int → Prop) (n : Int) (p : List Int) : Prop := A p ∧ p.headD 0 < n
/-- A list is the best of these, behind so many zeros, or there is none. -/
def Best (k : Nat) (A : List Int → Prop) (cur : List Int) : Prop := (cur = [] ∧ ∀ p, ¬ A p) ∨ ∃ p, cur = List.replicate k 0 ++ p ∧ IsBst A p
theorem IsBst.iff {A B : List Int → Prop} {p : List Int} (h : IsBst A p) (e : ∀ p, A p ↔ B p) : IsBst B p := ⟨(e p).1 h.1, fun p' h' => h.2 p' ((e p').2 h')⟩
theorem Best.iff {k : Nat} {A B : List Int → Prop} {cur : List Int} (h : Best k A cur) (e : ∀ p, A p ↔ B p) : Best k B cur := by
  rcases h with ⟨h1, h2⟩ | ⟨p, h1, h2⟩
  · exact .inl ⟨h1, fun p hp => h2 p ((e p).2 hp)⟩
  · exact .inr ⟨p, h1, h2.iff e⟩
theorem best_step {c x n : Int} {l ps : List Int} {k : Nat} {cur lv : List Int} (hn : 0 ≤ n) (hq : n ≤ ps.headD 0) (hcur : Best k (Low (Pay (c :: l) ps x) n) cur) (hne : ∀ p, Pay (c :: l) ps x p → p ≠ []) (hlv : Best (k + 1) (Pay l ps.tail (x - n * c)) lv) :
    Best k (Low (Pay (c :: l) ps x) (n + 1)) (upd61 lv cur k n) := by
  unfold upd61
  rcases hlv with ⟨rfl, hno⟩ | ⟨p', rfl, hb⟩
  · rw [if_pos rfl]
    refine hcur.iff fun p => ⟨fun h => ⟨h.1, by have := h.2; omega⟩, fun h => ⟨h.1, ?_⟩⟩
    obtain ⟨⟨j, q, rfl, j0, jq, j4⟩, h2⟩ := h
    have h2 : j < n + 1 := h2
    show j < n
    by_cases e : j = n
    · subst e; exact absurd j4 (hno q)
    · omega
  · rw [if_neg (by simp)]
    have hin : Low (Pay (c :: l) ps x) (n + 1) (n :: p') := ⟨⟨n, p', rfl, hn, hq, hb.1⟩, by show n < n + 1; omega⟩
    rw [set_zeros, tot_zeros]
    rcases hcur with ⟨rfl, hno⟩ | ⟨p, rfl, hb2⟩
    · rw [if_pos (.inl rfl)]
      refine .inr ⟨n :: p', rfl, hin, ?_⟩
      rintro p'' ⟨⟨j, q, rfl, j0, jq, j4⟩, h2⟩
      have h2 : j < n + 1 := h2
      by_cases e : j = n
      · subst e
        rcases hb.2 q j4 with h | ⟨h, h'⟩
        · left; simp only [tot]; omega
        · right; exact ⟨by simp only [tot]; omega, .inr ⟨rfl, h'⟩⟩
      · exact absurd ⟨⟨j, q, rfl, j0, jq, j4⟩, show j < n by omega⟩ (hno (j :: q))
    · rw [tot_zeros]
      by_cases hlt : n + tot p' < tot p
      · rw [if_pos (.inr hlt)]
        refine .inr ⟨n :: p', rfl, hin, ?_⟩
        rintro p'' ⟨⟨j, q, rfl, j0, jq, j4⟩, h2⟩
        have h2 : j < n + 1 := h2
        by_cases e : j = n
        · subst e
          rcases hb.2 q j4 with h | ⟨h, h'⟩
          · left; simp only [tot]; omega
          · right; exact ⟨by simp only [tot]; omega, .inr ⟨rfl, h'⟩⟩
        · have := hb2.2 (j :: q) ⟨⟨j, q, rfl, j0, jq, j4⟩, show j < n by omega⟩
          left
          simp only [tot] at this ⊢
          omega
      · have hpne : p ≠ [] := hne p hb2.1.1
        rw [if_neg (by rintro (h | h); exact hpne (List.append_eq_nil_iff.1 h).2; exact hlt h)]
        refine .inr ⟨p, rfl, ⟨hb2.1.1, by have := hb2.1.2; omega⟩, ?_⟩
        rintro p'' ⟨⟨j, q, rfl, j0, jq, j4⟩, h2⟩
        have h2 : j < n + 1 := h2
        by_cases e : j = n
        · subst e
          have h3 : tot p' ≤ tot q := by rcases hb.2 q j4 with h | ⟨h, _⟩ <;> omega
          by_cases h4 : tot p < j + tot q
          · left; simp only [tot]; omega
          · right
            refine ⟨by simp only [tot]; omega, ?_⟩
            obtain ⟨⟨i, t, rfl, _⟩, h5⟩ := hb2.1
            exact .inl h5
        · exact hb2.2 (j :: q) ⟨⟨j, q, rfl, j0, jq, j4⟩, show j < n by omega⟩
theorem qst61_best {c x : Int} {l ps : List Int} {k : Nat} {f : Int → List Int} (hc : 1 ≤ c) (hnn : ∀ s p, Pay l ps.tail s p → 0 ≤ s) (hf : ∀ y, 0 ≤ y → Best (k + 1) (Pay l ps.tail y) (f y)) : ∀ (m : Nat) (n : Int) (cur : List Int), 0 ≤ n → x < n + m → Best k (Low (Pay (c :: l) ps x) n) cur →
    Best k (Pay (c :: l) ps x) (qst61 f k (ps.headD 0) c x m n cur) := by
  have hstop : ∀ (n : Int) (cur : List Int), 0 ≤ n → ¬ (n ≤ ps.headD 0 ∧ n * c ≤ x) → Best k (Low (Pay (c :: l) ps x) n) cur → Best k (Pay (c :: l) ps x) cur := fun n cur hn hx h => h.iff fun p => ⟨fun h => h.1, fun h => ⟨h, by
    obtain ⟨j, q, rfl, j0, jq, j4⟩ := h
    have := hnn _ _ j4
    show j < n
    by_cases e : n ≤ j
    · have : n * c ≤ j * c := Int.mul_le_mul_of_nonneg_right e (by omega)
      exact absurd ⟨by omega, by omega⟩ hx
    · omega⟩⟩
  intro m
  induction m with
  | zero =>
    intro n cur hn hx h
    have : n * 1 ≤ n * c := Int.mul_le_mul_of_nonneg_left hc hn
    exact hstop n cur hn (by omega) h
  | succ m ih =>
    intro n cur hn hx h
    unfold qst61
    split
    · rename_i hg
      exact ih (n + 1) _ (by omega) (by omega) (best_step hn hg.1 h (fun p hp => by obtain ⟨j, q, rfl, _⟩ := hp; simp) (hf _ (by omega)))
    · rename_i hg
      exact hstop n cur hn hg h
theorem tb61_best {L : Nat} : ∀ {l : List Int} (hp : ∀ c ∈ l, 1 ≤ c) (ps : List Int) (k : Nat), k + l.length = L → ∀ x, 0 ≤ x → Best k (Pay l ps x) (tb61 L l ps k x)
  | [], _, ps, k, hk, x, hx => by
    unfold tb61
    have hk : k = L := by simpa using hk
    subst hk
    by_cases e : x = 0
    · subst e
      rw [if_pos rfl]
      exact .inr ⟨[], by simp, ⟨rfl, rfl⟩, fun p' h' => .inr ⟨by rw [h'.2], by rw [h'.2]; exact Lx.refl _⟩⟩
    · rw [if_neg e]
      exact .inl ⟨rfl, fun p h => e h.1⟩
  | c :: l, hp, ps, k, hk, x, hx => by
    unfold tb61
    have hpl : ∀ c ∈ l, 1 ≤ c := fun c h => hp c (by simp [h])
    refine qst61_best (hp c (by simp)) (fun s p h => h.nn hpl) (fun y hy => tb61_best hpl ps.tail (k + 1) (by simp at hk; omega) y hy) (x.toNat + 1) 0 [] (Int.le_refl _) (by omega) (.inl ⟨rfl, ?_⟩)
    rintro p ⟨⟨j, q, rfl, j0, _⟩, h2⟩
    have h2 : j < 0 := h2
    omega
end Go.Proofs.Ytjgmfdgpgdaclaa
/-
  Coins: two payments are the same.
-/
set_option linter.unusedVariables false
set_option linter.unusedSimpArgs false
namespace Go.Proofs.Ytjgmfdgpgdaclaa
open Go.Vi
theorem same_loop (n : Nat × Nat) (a b : List Int) (hab : a.length = b.length) (hl : a.length ≤ 100) : ∀ (m i : Nat), i ≤ a.length → a.length - i < m → DL24_1 n m a b (i : Int) = some (decide (a.drop i = b.drop i))
  | 0, i, _, h => by omega
  | m + 1, i, hi, h => by
    rw [DL24_1_succ]
    unfold DF24_1
    by_cases hlt : i < a.length
    · rw [decide_eq_true (show (i : Int) < (a.length : Int) by omega), cond_true, idx_nat hlt, idx_nat (show i < b.length by omega), drop_cons hlt, drop_cons (show i < b.length by omega)]
      simp only [Option.bind_some]
      have ih := same_loop n a b hab hl m (i + 1) (by omega) (by omega)
      rw [show ((i + 1 : Nat) : Int) = wr .i64 ((i : Int) + 1) by rw [wr_ok (by omega) (by omega)]; omega] at ih
      by_cases e : a[i] = b[i]
      · rw [show (a[i] != b[i]) = false by simp [e], cond_false, ih]
        congr 1
        rw [e]
        by_cases e2 : a.drop (i + 1) = b.drop (i + 1)
        · rw [decide_eq_true e2, decide_eq_true (by rw [e2])]
        · rw [decide_eq_false e2, decide_eq_false (fun h => e2 (List.cons.inj h).2)]
      · rw [show (a[i] != b[i]) = true by simpa using e, cond_true]
        congr 1
        symm
        exact decide_eq_false fun h => e (List.cons.inj h).1
    · rw [decide_eq_false (show ¬ (i : Int) < (a.length : Int) by omega), cond_false, List.drop_of_length_le (by omega), List.drop_of_length_le (by omega)]
      simp
theorem same_eq {n : Nat × Nat} (hn : 1000 ≤ n.1) (a b : List Int) (hl : a.length ≤ 100) : D24 n a b = some (decide (a = b)) := by
  unfold D24
  by_cases h : a.length = b.length
  · rw [show ((a.length : Int) != (b.length : Int)) = false by simp [h], cond_false]
    have := same_loop n a b h hl n.1 0 (by omega) (by omega)
    simpa using this
  · rw [show ((a.length : Int) != (b.length : Int)) = true by simpa using (show ¬ (a.length : Int) = (b.length : Int) by omega), cond_true]
    congr 1
    symm
    exact decide_eq_false fun e => h (by rw [e])

theorem hN1 : 1000 ≤ N.1 := by decide
theorem hN2 : 2000 ≤ N.1 := by decide
end Go.Proofs.Ytjgmfdgpgdaclaa
/-
  Coins: what the reference pays.
-/
set_option linter.unusedVariables false
set_option linter.unusedSimpArgs false
namespace Go.Proofs.Ytjgmfdgpgdaclaa
open Go.Vi
/-- What the reference pays out of a purse. -/
theorem rpaid_eq {n : Nat × Nat} (hn : 1000 ≤ n.1) {cs ps : List Int} {s : Int} (hv : Vld cs) (s0 : 0 ≤ s) (s1 : s ≤ 200) (hl : ps.length = cs.length) (hq : ∀ q ∈ ps, 0 ≤ q ∧ q ≤ 200) :
    (D61 n cs ps s = some [] ∧ ∀ p, ¬ Pay cs ps s p) ∨ ∃ p, D61 n cs ps s = some p ∧ IsBst (Pay cs ps s) p := by
  have h : D61 n cs ps s = some (tb61 cs.length cs ps 0 s) := by
    unfold D61 HF61
    rw [if_pos]
    exact ⟨fun c hc => hv.rng c hc, ⟨hv.pos, hv.len⟩, ⟨s0, s1⟩, hl, hq, fun x h1 h2 => total_eq hn x (by have := hv.len; omega) (fun y hy => by have := h2 y hy; omega)⟩
  rw [h]
  rcases tb61_best hv.mnt.pos ps 0 (Nat.zero_add _) s s0 with ⟨h1, h2⟩ | ⟨p, h1, h2⟩
  · exact .inl ⟨by rw [h1], h2⟩
  · refine .inr ⟨p, ?_, h2⟩
    rw [h1]
    rfl
end Go.Proofs.Ytjgmfdgpgdaclaa
set_option linter.unusedVariables false
set_option linter.unusedSimpArgs false
set_option maxRecDepth 100000
namespace Go.Proofs.Ytjgmfdgpgdaclaa
open Go.Vi
/- (headword/headwordlaw12.Mint).made -/
abbrev R43 := List Int
noncomputable def c43 : Code := bodyOf Try.f43
noncomputable def an43 : Ann := (.s .l (.s .l (.s (.s .l (.j [7] (.j [2, 7, 19, 20, 21] (.s .l (.s (.j [2, 7, 19, 20, 21] .l .l) (.j [] (.j [2, 7, 19, 20, 21] (.s .l (.s .l (.s .l (.j [2, 7, 19, 20, 21] .l .l)))) .l) .l))) .l) .l)) .l)))
def pk43 : List PK := [.c (.pair (.int .u8) (.pair (.int .u8) (.pair (.int .u8) (.pair (.int .u8) (.pair (.int .u8) (.int .u8)))))), .c (.int .i64), .c (.int .i64)]
def rk43 : List RK := [.own (.int .i64) 6]
noncomputable def rt43 (st : St) : Option R43 := rtG rk43 st
noncomputable def E43 (n : Nat × Nat) : Env := { T := tab, phi := noPhi, eff := fun _ => false, fuel := n.1, hold := n.2 }
noncomputable def kq43_1 (n : Nat × Nat) : St → Option R43 := run (E43 n) (cB (cB (cB c43))) (Ann.snd (Ann.snd (Ann.snd an43))) rt43 (fun _ _ => none) rt43
noncomputable def kc43_2 (n : Nat × Nat) : St → Option R43 := fun s => normC [7] s (kq43_1 n)
noncomputable def xb43_3 (n : Nat × Nat) : Nat → St → Option R43 := fun j s => bif Nat.beq j 0 then normC [7] s (kq43_1 n) else (fun _ _ => none) j s
noncomputable def F43_4 (n : Nat × Nat) : (St → Option R43) → St → Option R43 := fun K s => run (E43 n) (cA (cA (cB (cA (cB (cB c43)))))) (Ann.fst (Ann.fst (Ann.snd (Ann.fst (Ann.snd (Ann.snd an43)))))) (fun s => normC [2, 7, 19, 20, 21] s K) (xb43_3 n) rt43 s
noncomputable def kq43_5 (n : Nat × Nat) (m1 : Nat) : St → Option R43 := run (E43 n) (cB (cB (cA (cA (cB (cA (cB (cB c43)))))))) (Ann.snd (Ann.snd (Ann.fst (Ann.fst (Ann.snd (Ann.fst (Ann.snd (Ann.snd an43)))))))) (fun s => normC [2, 7, 19, 20, 21] s (loopN (F43_4 n) m1)) (xb43_3 n) rt43
noncomputable def kc43_6 (n : Nat × Nat) (m1 : Nat) : St → Option R43 := fun s => normC [2, 7, 19, 20, 21] s (kq43_5 n m1)
noncomputable def kq43_7 (n : Nat × Nat) (m1 : Nat) : St → Option R43 := run (E43 n) (cB (cB (cB (cA (cA (cB (cA (cB (cB c43))))))))) (Ann.snd (Ann.snd (Ann.snd (Ann.fst (Ann.fst (Ann.snd (Ann.fst (Ann.snd (Ann.snd an43))))))))) (fun s => normC [2, 7, 19, 20, 21] s (loopN (F43_4 n) m1)) (xb43_3 n) rt43
noncomputable def kc43_8 (n : Nat × Nat) (m1 : Nat) : St → Option R43 := fun s => normC [2, 7, 19, 20, 21] s (loopN (fun _ => (kq43_7 n m1)) n.2)
noncomputable def xb43_9 (n : Nat × Nat) (m1 : Nat) : Nat → St → Option R43 := fun j s => bif Nat.beq j 1 then normC [2, 7, 19, 20, 21] s (loopN (fun _ => (kq43_7 n m1)) n.2) else (xb43_3 n) j s
noncomputable def kc43_10 (n : Nat × Nat) (m1 : Nat) : St → Option R43 := fun s => normC [2, 7, 19, 20, 21] s (kc43_8 n m1)
noncomputable def L43_1 (n : Nat × Nat) (m : Nat) (most2 : Int) (v19 : List Int) (v20 : Int) (v21 : Int) (out7 : List Int) : Option R43 := loopN (F43_4 n) m { tm := [uu, uu, .c (.int .i64 most2), uu, uu, uu, uu, .own 7 none false, uu, uu, uu, uu, uu, uu, uu, uu, uu, uu, uu, .c (.sl (.int .u8) v19 false), .c (.int .i64 v20), .c (.int .i64 v21), uu, uu, uu, uu, uu, uu, uu, uu, uu, uu, uu, uu, uu, uu, uu, uu, uu, uu, uu, uu, uu, uu, uu, uu, uu], hp := (upd emp 7 (.arr (.int .i64) out7 false)) }
noncomputable def L43_2 (n : Nat × Nat) (m1 : Nat) (most2 : Int) (v19 : List Int) (v20 : Int) (v21 : Int) (out7 : List Int) : Option R43 := loopN (fun _ => (kq43_7 n m1)) n.2 { tm := [uu, uu, .c (.int .i64 most2), uu, uu, uu, uu, .own 7 none false, uu, uu, uu, uu, uu, uu, uu, uu, uu, uu, uu, .c (.sl (.int .u8) v19 false), .c (.int .i64 v20), .c (.int .i64 v21), uu, uu, uu, uu, uu, uu, uu, uu, uu, uu, uu, uu, uu, uu, uu, uu, uu, uu, uu, uu, uu, uu, uu, uu, uu], hp := (upd emp 7 (.arr (.int .i64) out7 false)) }
theorem L43_1_eq (n : Nat × Nat) (m1 : Nat) (most2 : Int) (v19 : List Int) (v20 : Int) (v21 : Int) (out7 : List Int) : L43_1 n (m1 + 1) most2 v19 v20 v21 out7 =
    (bif decide (v21 < v20) then (idx v19 v21).bind fun x1' =>
      (bif inB (wr .i64 ((out7.length : Int) - 1)) out7.length then (idx out7 (wr .i64 ((out7.length : Int) - 1))).bind fun x2' =>
        (bif 2 == 0 then none
        else (bif (wr .i64 (Int.tdiv most2 2)) == 0 then none
          else (bif decide (wr .i64 ((wr .i64 (x2' + 1)) + (Int.tmod (wr .i64 x1') (wr .i64 (Int.tdiv most2 2)))) ≤ most2) then (bif decide (out7.length + [wr .i64 ((wr .i64 (x2' + 1)) + (Int.tmod (wr .i64 x1') (wr .i64 (Int.tdiv most2 2))))].length ≤ lim) then L43_2 n m1 most2 v19 v20 v21 (out7 ++ [wr .i64 ((wr .i64 (x2' + 1)) + (Int.tmod (wr .i64 x1') (wr .i64 (Int.tdiv most2 2))))])
              else none)
            else L43_2 n m1 most2 v19 v20 v21 out7)))
      else none)
    else some out7) := by kernel_rfl
theorem L43_2_raw (n : Nat × Nat) (m1 : Nat) (most2 : Int) (v19 : List Int) (v20 : Int) (v21 : Int) (out7 : List Int) : (kq43_7 n m1) { tm := [uu, uu, .c (.int .i64 most2), uu, uu, uu, uu, .own 7 none false, uu, uu, uu, uu, uu, uu, uu, uu, uu, uu, uu, .c (.sl (.int .u8) v19 false), .c (.int .i64 v20), .c (.int .i64 v21), uu, uu, uu, uu, uu, uu, uu, uu, uu, uu, uu, uu, uu, uu, uu, uu, uu, uu, uu, uu, uu, uu, uu, uu, uu], hp := (upd emp 7 (.arr (.int .i64) out7 false)) } =
    L43_1 n m1 most2 v19 v20 (wr .i64 (v21 + 1)) out7 := by kernel_rfl
noncomputable def S43 (n : Nat × Nat) (m0 : Int × Int × Int × Int × Int × Int) (many1 : Int) (most2 : Int) : Option R43 := run (E43 n) c43 an43 rt43 (fun _ _ => none) rt43 { tm := [.agg [.int .u8 m0.1, .int .u8 m0.2.1, .int .u8 m0.2.2.1, .int .u8 m0.2.2.2.1, .int .u8 m0.2.2.2.2.1, .int .u8 m0.2.2.2.2.2], .c (.int .i64 many1), .c (.int .i64 most2), uu, uu, uu, uu, uu, uu, uu, uu, uu, uu, uu, uu, uu, uu, uu, uu, uu, uu, uu, uu, uu, uu, uu, uu, uu, uu, uu, uu, uu, uu, uu, uu, uu, uu, uu, uu, uu, uu, uu, uu, uu, uu, uu, uu], hp := emp }
theorem S43_eq (n : Nat × Nat) (m0 : Int × Int × Int × Int × Int × Int) (many1 : Int) (most2 : Int) : S43 n m0 many1 most2 =
    (bif many1 == 0 then none
    else (bif bounds none (some (Int.tmod (wr .i64 m0.1) many1)) none 5 then L43_1 n n.1 most2 ([m0.2.1, m0.2.2.1, m0.2.2.2.1, m0.2.2.2.2.1, m0.2.2.2.2.2].take (Int.toNat (Int.tmod (wr .i64 m0.1) many1))) (([m0.2.1, m0.2.2.1, m0.2.2.2.1, m0.2.2.2.2.1, m0.2.2.2.2.2].take (Int.toNat (Int.tmod (wr .i64 m0.1) many1))).length : Int) 0 [1]
      else none)) := by kernel_rfl
theorem S43_run (n : Nat × Nat) (xs : pksDen pk43) : S43 n xs.1 xs.2.1 xs.2.2.1 = runG (E43 n) noScope c43 an43 (rtG rk43) (fun _ _ => none) (rtG rk43) (st0 pk43 xs Try.f43.ntmps) := by kernel_rfl
noncomputable def P43 (n : Nat × Nat) := phiOf pk43 rk43 (fun xs => S43 n xs.1 xs.2.1 xs.2.2.1)
theorem call43 : CallOK Try.prog 43 := callOK_of Try.func43 (by kernel_rfl) (by kernel_rfl)
theorem env43 (n : Nat × Nat) : EnvOK Try.prog (E43 n) := envOK0 noPhi_ok rfl rfl
theorem par43 (n : Nat × Nat) : EnvPar (E43 n) := envPar0 noPhi_par rfl
theorem FC43 (n : Nat × Nat) : FCs Try.prog 43 (P43 n) := phiOf_FCs fun xs r h vs hv => FC.of_runG tabOK eqsOK (env43 n) (par43 n) mixed (fun _ => noScope_ok) Try.func43 (c := c43) (an := an43) (pks := pk43) (rks := rk43) (by kernel_rfl) (by kernel_rfl) hv ((S43_run n xs).symm.trans h)
end Go.Proofs.Ytjgmfdgpgdaclaa
set_option linter.unusedVariables false
set_option linter.unusedSimpArgs false
set_option maxRecDepth 100000
namespace Go.Proofs.Ytjgmfdgpgdaclaa
open Go.Vi
/-D 43 -/
noncomputable def DL43_2 (n : Nat × Nat) (f1 : Int → List Int → Int → Int → List Int → Option R43) (most2 : Int) (v19 : List Int) (v20 : Int) (v21 : Int) (out7 : List Int) : Option R43 :=
    f1 most2 v19 v20 (wr .i64 (v21 + 1)) out7
theorem DL43_2_eq (n : Nat × Nat) (hn : n.2 = 1) (m1 : Nat) : L43_2 n m1 = DL43_2 n (L43_1 n m1) := by
  funext most2 v19 v20 v21 out7; refine ((held_eq hn _).trans (L43_2_raw n m1 most2 v19 v20 v21 out7)).trans ?_
  unfold DL43_2
  first | with_reducible rfl | rfl
noncomputable def DF43_1 (n : Nat × Nat) (f1 : Int → List Int → Int → Int → List Int → Option R43) (most2 : Int) (v19 : List Int) (v20 : Int) (v21 : Int) (out7 : List Int) : Option R43 :=
    (bif decide (v21 < v20) then (idx v19 v21).bind fun x1' =>
      (bif inB (wr .i64 ((out7.length : Int) - 1)) out7.length then (idx out7 (wr .i64 ((out7.length : Int) - 1))).bind fun x2' =>
        (bif 2 == 0 then none
        else (bif (wr .i64 (Int.tdiv most2 2)) == 0 then none
          else (bif decide (wr .i64 ((wr .i64 (x2' + 1)) + (Int.tmod (wr .i64 x1') (wr .i64 (Int.tdiv most2 2)))) ≤ most2) then (bif decide (out7.length + [wr .i64 ((wr .i64 (x2' + 1)) + (Int.tmod (wr .i64 x1') (wr .i64 (Int.tdiv most2 2))))].length ≤ lim) then DL43_2 n f1 most2 v19 v20 v21 (out7 ++ [wr .i64 ((wr .i64 (x2' + 1)) + (Int.tmod (wr .i64 x1') (wr .i64 (Int.tdiv most2 2))))])
              else none)
            else DL43_2 n f1 most2 v19 v20 v21 out7)))
      else none)
    else some out7)
noncomputable def DL43_1 (n : Nat × Nat) (m : Nat) : Int → List Int → Int → Int → List Int → Option R43 := Nat.rec (motive := fun _ => Int → List Int → Int → Int → List Int → Option R43) (fun _ _ _ _ _ => none) (fun _ ih => DF43_1 n ih) m
theorem DL43_1_succ (n : Nat × Nat) (m : Nat) : DL43_1 n (m + 1) = DF43_1 n (DL43_1 n m) := rfl
theorem DL43_1_eq (n : Nat × Nat) (hn : n.2 = 1) : ∀ m, L43_1 n m = DL43_1 n m
  | 0 => by funext most2 v19 v20 v21 out7; kernel_rfl
  | m + 1 => by
    have ih := DL43_1_eq n hn m
    funext most2 v19 v20 v21 out7; refine (L43_1_eq n m most2 v19 v20 v21 out7).trans ?_
    rw [DL43_1_succ]
    unfold DF43_1
    (try simp only [ih, DL43_2_eq n hn]) <;> first | with_reducible rfl | rfl
noncomputable def D43 (n : Nat × Nat) (m0 : Int × Int × Int × Int × Int × Int) (many1 : Int) (most2 : Int) : Option R43 :=
    (bif many1 == 0 then none
    else (bif bounds none (some (Int.tmod (wr .i64 m0.1) many1)) none 5 then DL43_1 n n.1 most2 ([m0.2.1, m0.2.2.1, m0.2.2.2.1, m0.2.2.2.2.1, m0.2.2.2.2.2].take (Int.toNat (Int.tmod (wr .i64 m0.1) many1))) (([m0.2.1, m0.2.2.1, m0.2.2.2.1, m0.2.2.2.2.1, m0.2.2.2.2.2].take (Int.toNat (Int.tmod (wr .i64 m0.1) many1))).length : Int) 0 [1]
      else none))
theorem S43_D (n : Nat × Nat) (hn : n.2 = 1) : S43 n = D43 n := by
  funext m0 many1 most2; refine (S43_eq n m0 many1 most2).trans ?_
  unfold D43
  (try simp only [DL43_2_eq n hn, DL43_1_eq n hn]) <;> first | with_reducible rfl | rfl
end Go.Proofs.Ytjgmfdgpgdaclaa
/-
  Coins by numbers; few coins; the first best payment; purses.
-/
set_option linter.unusedVariables false
set_option linter.unusedSimpArgs false
namespace Go.Proofs.Ytjgmfdgpgdaclaa
open Go.Vi

theorem u8_rng {x : Int} (h : (Lit.int .u8 x).wf = true) : 0 ≤ x ∧ x ≤ 255 := by
  simpa [Lit.wf, IntKind.min, IntKind.max, IntKind.signed, IntKind.bits] using h

/-- Coins so far, none above a number. -/
structure Mv (most : Int) (cs : List Int) : Prop where
  pos : 0 < cs.length
  rng : ∀ c ∈ cs, 1 ≤ c ∧ c ≤ most
  inc : cs.Pairwise (· < ·)
  one : cs.headD 0 = 1
theorem Mv.vld {most : Int} {cs : List Int} (h : Mv most cs) (hl : cs.length ≤ 6) (hm : most ≤ 40) : Vld cs := ⟨h.pos, hl, fun c hc => by have := h.rng c hc; omega, h.inc, h.one⟩
theorem made_loop (n : Nat × Nat) (most : Int) (hm2 : 2 ≤ most) (hm : most ≤ 40) (v : List Int) (hv : ∀ x ∈ v, 0 ≤ x ∧ x ≤ 255) (hvl : v.length ≤ 5) : ∀ (m k : Nat) (out : List Int), k ≤ v.length → v.length - k < m → Mv most out → out.length + (v.length - k) ≤ 10 →
    ∃ cs : List Int, DL43_1 n m most v (v.length : Int) (k : Int) out = some cs ∧ Mv most cs ∧ cs.length ≤ out.length + (v.length - k)
  | 0, k, out, _, h, _, _ => by omega
  | m + 1, k, out, hk, h, ho, hol => by
    rw [DL43_1_succ]
    unfold DF43_1
    by_cases hlt : k < v.length
    · have hx := hv v[k] (List.getElem_mem _)
      have hp := ho.pos
      have hll : out.length - 1 < out.length := by omega
      have hlr := ho.rng out[out.length - 1] (List.getElem_mem _)
      rw [decide_eq_true (show (k : Int) < (v.length : Int) by omega), cond_true, idx_nat hlt]
      simp only [Option.bind_some]
      rw [show wr .i64 ((out.length : Int) - 1) = ((out.length - 1 : Nat) : Int) by rw [wr_ok (by omega) (by omega)]; omega, inB_nat hll, cond_true, idx_nat hll]
      simp only [Option.bind_some]
      rw [show ((2 : Nat) == 0) = false from rfl, cond_false, Int.tdiv_eq_ediv_of_nonneg (by omega), wr_ok (x := most / 2) (by omega) (by omega), show (most / 2 == 0) = false by simpa using (show most / 2 ≠ 0 by omega), cond_false]
      rw [wr_ok (x := v[k]) (by omega) (by omega), Int.tmod_eq_emod_of_nonneg hx.1]
      have e1 := Int.emod_nonneg v[k] (show most / 2 ≠ 0 by omega)
      have e2 := Int.emod_lt_of_pos v[k] (show 0 < most / 2 by omega)
      generalize v[k] % (most / 2) = y at *
      generalize hd : out[out.length - 1] = d at *
      rw [wr_ok (x := d + 1) (by omega) (by omega), wr_ok (x := d + 1 + y) (by omega) (by omega)]
      have ih := made_loop n most hm2 hm v hv hvl m (k + 1)
      rw [show ((k + 1 : Nat) : Int) = wr .i64 ((k : Int) + 1) by rw [wr_ok (by omega) (by omega)]; omega] at ih
      by_cases hle : d + 1 + y ≤ most
      · rw [decide_eq_true hle, cond_true, decide_eq_true (show out.length + [d + 1 + y].length ≤ lim by simp [lim]; omega), cond_true]
        simp only [DL43_2]
        have hmv : Mv most (out ++ [d + 1 + y]) := by
          refine ⟨by simp, fun c hc => ?_, ?_, ?_⟩
          · rcases List.mem_append.1 hc with hc | hc
            · exact ho.rng c hc
            · simp at hc; omega
          · rw [List.pairwise_append]
            refine ⟨ho.inc, by simp, fun a ha b hb => ?_⟩
            simp at hb
            obtain ⟨j, hj, rfl⟩ := List.getElem_of_mem ha
            by_cases e : j = out.length - 1
            · subst e; omega
            · have := List.pairwise_iff_getElem.1 ho.inc j (out.length - 1) hj hll (by omega)
              omega
          · have := ho.one
            cases out with
            | nil => simp at hp
            | cons a l => exact this
        obtain ⟨cs, a, b, c⟩ := ih (out ++ [d + 1 + y]) (by omega) (by omega) hmv (by simp; omega)
        exact ⟨cs, a, b, by simp at c; omega⟩
      · rw [decide_eq_false hle, cond_false]
        simp only [DL43_2]
        obtain ⟨cs, a, b, c⟩ := ih out (by omega) (by omega) ho (by omega)
        exact ⟨cs, a, b, by omega⟩
    · rw [decide_eq_false (show ¬ (k : Int) < (v.length : Int) by omega), cond_false]
      exact ⟨out, rfl, ho, by omega⟩

theorem made_eq {n : Nat × Nat} (hn : 1000 ≤ n.1) {m0 : Int × Int × Int × Int × Int × Int} (h : Wf (.pair (.int .u8) (.pair (.int .u8) (.pair (.int .u8) (.pair (.int .u8) (.pair (.int .u8) (.int .u8)))))) m0) {many most : Int} (hy1 : 1 ≤ many) (hy2 : many ≤ 6) (hm1 : 2 ≤ most) (hm2 : most ≤ 40) :
    ∃ cs : List Int, D43 n m0 many most = some cs ∧ Vld cs ∧ (cs.length : Int) ≤ many ∧ ∀ c ∈ cs, c ≤ most := by
  obtain ⟨a, b, c, d, e, f⟩ := m0
  have u8 : ∀ {x : Int}, Wf (.int .u8) x → 0 ≤ x ∧ x ≤ 255 := fun {x} hx => u8_rng hx
  obtain ⟨ha, hb, hc, hd, he, hf⟩ := h
  have ha := u8 ha
  have hb := u8 hb
  have hc := u8 hc
  have hd := u8 hd
  have he := u8 he
  have hf := u8 hf
  unfold D43
  rw [show (many == 0) = false by simpa using (show many ≠ 0 by omega), cond_false, wr_ok (x := a) (by omega) (by omega), Int.tmod_eq_emod_of_nonneg ha.1]
  have e1 := Int.emod_nonneg a (show many ≠ 0 by omega)
  have e2 := Int.emod_lt_of_pos a (show 0 < many by omega)
  generalize a % many = r at *
  obtain ⟨k, rfl⟩ := Int.eq_ofNat_of_zero_le e1
  rw [show bounds none (some (k : Int)) none 5 = true by simp [bounds]; omega, cond_true, Int.toNat_natCast]
  have hl : ([b, c, d, e, f].take k).length ≤ 5 := by simp; omega
  have hll : ([b, c, d, e, f].take k).length ≤ k := by simp; omega
  obtain ⟨cs, g1, g2, g3⟩ := made_loop n most hm1 hm2 ([b, c, d, e, f].take k) (fun x hx => by
    have := List.mem_of_mem_take hx
    simp only [List.mem_cons, List.not_mem_nil, or_false] at this
    simp only at hb hc hd he hf
    omega) hl n.1 0 [1] (by omega) (by omega) ⟨by simp, by simp; omega, by simp, rfl⟩ (by simp; omega)
  simp only [List.length_singleton] at g3
  exact ⟨cs, g1, g2.vld (by omega) hm2, by omega, fun c hc => (g2.rng c hc).2⟩

noncomputable def fewS (cs : List Int) (s : Int) : Int × Int := if smd cs s ≠ 0 then (0, smd cs s) else (opt cs s, 0)
theorem fewS_eq {n : Nat × Nat} (hn : 1000 ≤ n.1) (cs : List Int) (s : Int) : D18 n cs s = some (fewS cs s) := by
  unfold D18 fewS
  rw [smd_eq hn]
  simp only [Option.bind_some]
  by_cases h : smd cs s = 0
  · obtain ⟨hv, h0, h1⟩ := smd_zero h
    rw [show (smd cs s != 0) = false by simp [h], cond_false, if_neg (by simpa using h)]
    obtain ⟨s', rfl⟩ := Int.eq_ofNat_of_zero_le h0
    rw [few_eq hn hv s' (by omega)]
    simp only [Option.bind_some]
    have hsl : s' < (ftab cs s').length := by rw [ftab_length]; omega
    rw [inB_nat hsl, cond_true, idx_nat hsl, ftab_get]
    rfl
  · rw [show (smd cs s != 0) = true by simpa using h, cond_true, if_pos h]
noncomputable def grS (cs : List Int) (s : Int) : List Int × Int := if smd cs s ≠ 0 then ([], smd cs s) else ((gr cs s).1, 0)
theorem grS_eq {n : Nat × Nat} (hn : 1000 ≤ n.1) (cs : List Int) (s : Int) : D22 n cs s = some (grS cs s) := by
  unfold D22 grS
  rw [smd_eq hn]
  simp only [Option.bind_some]
  by_cases h : smd cs s = 0
  · obtain ⟨hv, h0, h1⟩ := smd_zero h
    rw [show (smd cs s != 0) = false by simp [h], cond_false, if_neg (by simpa using h), great_eq hv h0 (by omega)]
    rfl
  · rw [show (smd cs s != 0) = true by simpa using h, cond_true, if_pos h]
theorem rgrS_eq {n : Nat × Nat} (hn : 1000 ≤ n.1) (cs : List Int) (s : Int) : D23 n cs s = some (grS cs s) := by
  unfold D23 grS
  rw [smdr_eq hn]
  simp only [Option.bind_some]
  by_cases h : smd cs s = 0
  · obtain ⟨hv, h0, h1⟩ := smd_zero h
    rw [show (smd cs s != 0) = false by simp [h], cond_false, if_neg (by simpa using h), rgreat_eq hn hv h0 (by omega)]
    rfl
  · rw [show (smd cs s != 0) = true by simpa using h, cond_true, if_pos h]

/-! ### Payments with so many coins -/
theorem PayU.snoc {d : Int} : ∀ {l : List Int} {s : Int} {p : List Int}, PayU (l ++ [d]) s p ↔ ∃ q n, p = q ++ [n] ∧ 0 ≤ n ∧ PayU l (s - n * d) q
  | [], s, p => by
    constructor
    · rintro ⟨n, p', rfl, h0, h1, rfl⟩
      exact ⟨[], n, rfl, h0, h1, rfl⟩
    · rintro ⟨q, n, rfl, h0, h1, rfl⟩
      exact ⟨n, [], rfl, h0, h1, rfl⟩
  | c :: l, s, p => by
    constructor
    · rintro ⟨n, p', rfl, h0, h1⟩
      obtain ⟨q, m, rfl, h2, h3⟩ := PayU.snoc.1 h1
      exact ⟨n :: q, m, rfl, h2, n, q, rfl, h0, by rwa [show s - m * d - n * c = s - n * c - m * d by omega]⟩
    · rintro ⟨q, m, rfl, h2, n, q', rfl, h0, h3⟩
      exact ⟨n, q' ++ [m], rfl, h0, PayU.snoc.2 ⟨q', m, rfl, h2, by rwa [show s - n * c - m * d = s - m * d - n * c by omega]⟩⟩
theorem tot_snoc (l : List Int) (n : Int) : tot (l ++ [n]) = tot l + n := by
  induction l with
  | nil => simp [tot]
  | cons a l ih => simp only [List.cons_append, tot]; omega
def Ex (l : List Int) (s m : Int) : Prop := ∃ p, PayU l s p ∧ tot p = m
theorem Ex.bd {l : List Int} (hp : ∀ c ∈ l, 1 ≤ c) {s m : Int} (h : Ex l s m) : 0 ≤ m ∧ m ≤ s := by
  obtain ⟨p, h1, h2⟩ := h
  have := PayU.sum hp h1
  omega
theorem Ex.snoc {l : List Int} {d s m : Int} : Ex (l ++ [d]) s m ↔ ∃ n, 0 ≤ n ∧ Ex l (s - n * d) (m - n) := by
  constructor
  · rintro ⟨p, h1, h2⟩
    obtain ⟨q, n, rfl, h3, h4⟩ := PayU.snoc.1 h1
    rw [tot_snoc] at h2
    exact ⟨n, h3, q, h4, by omega⟩
  · rintro ⟨n, h3, q, h4, h5⟩
    exact ⟨q ++ [n], PayU.snoc.2 ⟨q, n, rfl, h3, h4⟩, by rw [tot_snoc]; omega⟩
theorem Ex.cons {l : List Int} {d s m : Int} : Ex (d :: l) s m ↔ ∃ n, 0 ≤ n ∧ Ex l (s - n * d) (m - n) := by
  constructor
  · rintro ⟨p, ⟨n, q, rfl, h3, h4⟩, h2⟩
    simp only [tot] at h2
    exact ⟨n, h3, q, h4, by omega⟩
  · rintro ⟨n, h3, q, h4, h5⟩
    exact ⟨n :: q, ⟨n, q, rfl, h3, h4⟩, by simp only [tot]; omega⟩
open Classical in
theorem paid_loop (n : Nat × Nat) {l : List Int} {d : Int} (hp : ∀ c ∈ l, 1 ≤ c) (hd : 1 ≤ d) (hd2 : d ≤ 40) (hl : l.length ≤ 6) (SS : List Int → Int → Int → Option R60) (s m : Int) (hs : s ≤ 1000) (hs0 : -100000 ≤ s) (hm : m ≤ 1000) (hm0 : 0 ≤ m) (hSS : ∀ x y, -100000 ≤ x → x ≤ 1000 → 0 ≤ y → y ≤ 1000 → SS l x y = some (decide (Ex l x y))) :
    ∀ (f : Nat) (k : Nat), (k : Int) ≤ m + 1 → m + 1 - k < f → (∀ j : Int, 0 ≤ j → j < k → ¬ Ex l (s - j * d) (m - j)) → DL60_1 n SS f (l ++ [d]) s m (l.length : Int) (k : Int) = some (decide (Ex (l ++ [d]) s m))
  | 0, k, _, h, _ => by omega
  | f + 1, k, hk, h, hno => by
    rw [DL60_1_succ]
    unfold DF60_1
    have none_of : (∀ j : Int, 0 ≤ j → ¬ Ex l (s - j * d) (m - j)) → decide (Ex (l ++ [d]) s m) = false := fun hh => decide_eq_false fun e => by
      obtain ⟨j, h1, h2⟩ := Ex.snoc.1 e
      exact hh j h1 h2
    have hlt : l.length < (l ++ [d]).length := by simp
    have hg : (l ++ [d])[l.length] = d := by simp
    by_cases hkm : (k : Int) ≤ m
    · rw [decide_eq_true hkm, show (true == true) = true from rfl, cond_true, idx_nat hlt, hg]
      simp only [Option.bind_some]
      have hkd : (k : Int) * 1 ≤ (k : Int) * d := Int.mul_le_mul_of_nonneg_left hd (by omega)
      have hkd2 : (k : Int) * d ≤ 1000 * 40 := Int.mul_le_mul (by omega) hd2 (by omega) (by omega)
      rw [wr_ok (x := (k : Int) * d) (by omega) (by omega)]
      by_cases hks : (k : Int) * d ≤ s
      · rw [decide_eq_true hks, cond_true, show bounds none (some (l.length : Int)) none (l ++ [d]).length = true by simp [bounds]; omega, cond_true]
        rw [wr_ok (x := s - (k : Int) * d) (by omega) (by omega), wr_ok (x := m - (k : Int)) (by omega) (by omega), Int.toNat_natCast, List.take_left, hSS _ _ (by omega) (by omega) (by omega) (by omega)]
        simp only [Option.bind_some]
        by_cases he : Ex l (s - (k : Int) * d) (m - (k : Int))
        · rw [decide_eq_true he, cond_true]
          congr 1
          symm
          exact decide_eq_true (Ex.snoc.2 ⟨k, by omega, he⟩)
        · rw [decide_eq_false he, cond_false]
          have ih := paid_loop n hp hd hd2 hl SS s m hs hs0 hm hm0 hSS f (k + 1) (by omega) (by omega) (fun j h1 h2 => by
            by_cases e : j = k
            · subst e; exact he
            · exact hno j h1 (by omega))
          rw [show ((k + 1 : Nat) : Int) = wr .i64 ((k : Int) + 1) by rw [wr_ok (by omega) (by omega)]; omega] at ih
          exact ih
      · rw [decide_eq_false hks, cond_false]
        congr 1
        symm
        refine none_of fun j h1 h2 => ?_
        by_cases hj : j < k
        · exact hno j h1 hj h2
        · have := h2.bd hp
          have : (k : Int) * d ≤ j * d := Int.mul_le_mul_of_nonneg_right (by omega) (by omega)
          omega
    · rw [decide_eq_false hkm, show (false == true) = false from rfl, cond_false]
      simp only [Option.bind_some, cond_false]
      congr 1
      symm
      refine none_of fun j h1 h2 => ?_
      by_cases hj : j < k
      · exact hno j h1 hj h2
      · have := h2.bd hp
        omega
open Classical in
theorem paid_eq (n : Nat × Nat) (hn : 2000 ≤ n.1) : ∀ (D : Nat) {cs : List Int}, (∀ c ∈ cs, 1 ≤ c ∧ c ≤ 40) → cs.length < D → cs.length ≤ 6 → ∀ {s m : Int}, -100000 ≤ s → s ≤ 1000 → 0 ≤ m → m ≤ 1000 → DT60 n D cs s m = some (decide (Ex cs s m))
  | 0, cs, _, h, _, s, m, _, _, _, _ => by omega
  | D + 1, cs, hr, hD, h6, s, m, s0, s1, m0, m1 => by
    rw [DT60_succ]
    unfold DB60
    by_cases h0 : cs.length = 0
    · have : cs = [] := List.eq_nil_of_length_eq_zero h0
      subst this
      rw [show ((([] : List Int).length : Int) == 0) = true from rfl, cond_true]
      have he : Ex [] s m ↔ s = 0 ∧ m = 0 := by
        constructor
        · rintro ⟨p, ⟨h1, rfl⟩, h2⟩
          exact ⟨h1, h2.symm⟩
        · rintro ⟨h1, h2⟩
          exact ⟨[], ⟨h1, rfl⟩, h2.symm⟩
      by_cases hs : s = 0
      · by_cases hm : m = 0
        · rw [decide_eq_true (he.2 ⟨hs, hm⟩)]; simp [hs, hm]
        · rw [decide_eq_false (fun h => hm (he.1 h).2), show (m == 0) = false by simpa using hm, show (s == 0) = true by simpa using hs]; rfl
      · rw [decide_eq_false (fun h => hs (he.1 h).1), show (s == 0) = false by simpa using hs]; rfl
    · rw [show ((cs.length : Int) == 0) = false by simpa using h0, cond_false]
      obtain ⟨l, x, rfl⟩ : ∃ l x, cs = l ++ [x] := ⟨cs.dropLast, cs.getLast (by intro e; rw [e] at h0; simp at h0), (List.dropLast_concat_getLast _).symm⟩
      simp only [List.length_append, List.length_singleton] at hD h6
      have hx := hr x (by simp)
      have := paid_loop n (l := l) (d := x) (fun c hc => (hr c (by simp [hc])).1) hx.1 hx.2 (by omega) (DT60 n D) s m s1 s0 m1 m0 (fun y z y0 y1 z0 z1 => paid_eq n hn D (fun c hc => hr c (by simp [hc])) (by omega) (by omega) y0 y1 z0 z1) n.1 0 (by omega) (by omega) (fun j h1 h2 => by omega)
      rw [show wr .i64 (((l ++ [x]).length : Int) - 1) = (l.length : Int) by rw [wr_ok (by simp only [List.length_append, List.length_singleton]; omega) (by simp only [List.length_append, List.length_singleton]; omega)]; simp]
      exact this

/-- The first payment with so many coins. -/
def Lf (l : List Int) (s m : Int) (p : List Int) : Prop := PayU l s p ∧ tot p = m ∧ ∀ p', PayU l s p' → tot p' = m → Lx p p'
open Classical in
theorem first_in (n : Nat × Nat) (hn : 2000 ≤ n.1) {cs : List Int} (hv : Vld cs) (f1 : List Int → Int → Int → List Int → Int → Int → List Int → Option R20) (i : Nat) (hi : i < cs.length) (s m : Int) (hs0 : 0 ≤ s) (hs1 : s ≤ 200) (hm0 : 0 ≤ m) (hm1 : m ≤ 200) (he : Ex (cs.drop i) s m) (v25 : List Int) (v26 v27 : Int) (out : List Int) (hol : out.length ≤ 10) :
    ∀ (f k : Nat), (k : Int) ≤ m → m - k < f → (∀ j : Int, 0 ≤ j → j < k → ¬ Ex (cs.drop (i + 1)) (s - j * cs[i]) (m - j)) →
    ∃ k' : Int, 0 ≤ k' ∧ k' ≤ m ∧ Ex (cs.drop (i + 1)) (s - k' * cs[i]) (m - k') ∧ (∀ j : Int, 0 ≤ j → j < k' → ¬ Ex (cs.drop (i + 1)) (s - j * cs[i]) (m - j)) ∧
      DL20_2 n f1 f cs s m cs[i] (cs.drop (i + 1)) (k : Int) v25 v26 v27 out = f1 cs (s - k' * cs[i]) (m - k') v25 v26 (wr .i64 (v27 + 1)) (out ++ [k'])
  | 0, k, _, h, _ => by omega
  | f + 1, k, hk, h, hno => by
    have hl := hv.len
    rw [DL20_2_succ]
    unfold DF20_2
    have hc := hv.rng cs[i] (List.getElem_mem _)
    have hkd : (k : Int) * 1 ≤ (k : Int) * cs[i] := Int.mul_le_mul_of_nonneg_left hc.1 (by omega)
    have hkd2 : (k : Int) * cs[i] ≤ 200 * 40 := Int.mul_le_mul (by omega) hc.2 (by omega) (by omega)
    have hfin : (¬ ((k : Int) < m ∧ ¬ Ex (cs.drop (i + 1)) (s - (k : Int) * cs[i]) (m - (k : Int)))) → ∃ k' : Int, 0 ≤ k' ∧ k' ≤ m ∧ Ex (cs.drop (i + 1)) (s - k' * cs[i]) (m - k') ∧ (∀ j : Int, 0 ≤ j → j < k' → ¬ Ex (cs.drop (i + 1)) (s - j * cs[i]) (m - j)) ∧
        (bif decide (out.length + [(k : Int)].length ≤ lim) then f1 cs (wr .i64 (s - (wr .i64 ((k : Int) * cs[i])))) (wr .i64 (m - (k : Int))) v25 v26 (wr .i64 (v27 + 1)) (out ++ [(k : Int)]) else none) = f1 cs (s - k' * cs[i]) (m - k') v25 v26 (wr .i64 (v27 + 1)) (out ++ [k']) := fun hh => by
      have hex : Ex (cs.drop (i + 1)) (s - (k : Int) * cs[i]) (m - (k : Int)) := by
        rw [drop_cons hi] at he
        obtain ⟨j, j0, j1⟩ := Ex.cons.1 he
        have hb := j1.bd (fun c hc => (hv.rng c (List.mem_of_mem_drop hc)).1)
        by_cases h1 : (k : Int) < m
        · exact Classical.byContradiction fun h2 => hh ⟨h1, h2⟩
        · by_cases h3 : j < k
          · exact absurd j1 (hno j j0 h3)
          · have : j = k := by omega
            subst this
            exact j1
      refine ⟨k, by omega, hk, hex, hno, ?_⟩
      rw [decide_eq_true (by simp [lim]; omega), cond_true, wr_ok (x := (k : Int) * cs[i]) (by omega) (by omega), wr_ok (x := s - (k : Int) * cs[i]) (by omega) (by omega), wr_ok (x := m - (k : Int)) (by omega) (by omega)]
    by_cases hkm : (k : Int) < m
    · rw [decide_eq_true hkm, show (true == true) = true from rfl, cond_true]
      have hpd := paid_eq n hn n.1 (cs := cs.drop (i + 1)) (fun c hc => hv.rng c (List.mem_of_mem_drop hc)) (by simp; omega) (by simp; omega) (s := s - (k : Int) * cs[i]) (m := m - (k : Int)) (by omega) (by omega) (by omega) (by omega)
      have hpd2 : D60 n (cs.drop (i + 1)) (wr .i64 (s - (wr .i64 ((k : Int) * cs[i])))) (wr .i64 (m - (k : Int))) = some (decide (Ex (cs.drop (i + 1)) (s - (k : Int) * cs[i]) (m - (k : Int)))) := by
        rw [wr_ok (x := (k : Int) * cs[i]) (by omega) (by omega), wr_ok (x := s - (k : Int) * cs[i]) (by omega) (by omega), wr_ok (x := m - (k : Int)) (by omega) (by omega)]
        exact hpd
      rw [hpd2]
      simp only [Option.bind_some]
      by_cases hex : Ex (cs.drop (i + 1)) (s - (k : Int) * cs[i]) (m - (k : Int))
      · simp only [decide_eq_true hex, Bool.not_true, cond_false]
        exact hfin (fun h => h.2 hex)
      · simp only [decide_eq_false hex, Bool.not_false, cond_true]
        have ih := first_in n hn hv f1 i hi s m hs0 hs1 hm0 hm1 he v25 v26 v27 out hol f (k + 1) (by omega) (by omega) (fun j h1 h2 => by
          by_cases e : j = k
          · subst e; exact hex
          · exact hno j h1 (by omega))
        rw [show ((k + 1 : Nat) : Int) = wr .i64 ((k : Int) + 1) by rw [wr_ok (by omega) (by omega)]; omega] at ih
        exact ih
    · rw [decide_eq_false hkm, show (false == true) = false from rfl, cond_false]
      simp only [Option.bind_some, cond_false]
      exact hfin (fun h => hkm h.1)
theorem first_out (n : Nat × Nat) (hn : 2000 ≤ n.1) {cs : List Int} (hv : Vld cs) : ∀ (f i : Nat) (s m : Int) (out : List Int), i ≤ cs.length → cs.length - i < f → 0 ≤ s → s ≤ 200 → 0 ≤ m → m ≤ 200 → Ex (cs.drop i) s m → out.length = i →
    ∃ p, Lf (cs.drop i) s m p ∧ DL20_1 n f cs s m cs (cs.length : Int) (i : Int) out = some (out ++ p, 0)
  | 0, i, s, m, out, _, h, _, _, _, _, _, _ => by omega
  | f + 1, i, s, m, out, hi, h, s0, s1, m0, m1, he, hol => by
    have hl := hv.len
    rw [DL20_1_succ]
    unfold DF20_1
    by_cases hlt : i < cs.length
    · rw [decide_eq_true (show (i : Int) < (cs.length : Int) by omega), cond_true, idx_nat hlt]
      simp only [Option.bind_some]
      have hw : wr .i64 ((i : Int) + 1) = ((i + 1 : Nat) : Int) := by rw [wr_ok (by omega) (by omega)]; omega
      rw [hw, show bounds (some ((i + 1 : Nat) : Int)) none none cs.length = true by simp [bounds]; omega, cond_true, Int.toNat_natCast]
      obtain ⟨k, k0, k1, k2, k3, k4⟩ := first_in n hn hv (DL20_1 n f) i hlt s m s0 s1 m0 m1 he cs (cs.length : Int) (i : Int) out (by omega) n.1 0 (by omega) (by omega) (fun j h1 h2 => by omega)
      rw [show ((0 : Nat) : Int) = 0 from rfl] at k4
      have hb := k2.bd (fun c hc => (hv.rng c (List.mem_of_mem_drop hc)).1)
      have hc := hv.rng cs[i] (List.getElem_mem _)
      have hkc := Int.mul_nonneg k0 (show 0 ≤ cs[i] by omega)
      obtain ⟨p, p1, p2⟩ := first_out n hn hv f (i + 1) (s - k * cs[i]) (m - k) (out ++ [k]) (by omega) (by omega) (by omega) (by omega) (by omega) (by omega) k2 (by simp [hol])
      refine ⟨k :: p, ?_, ?_⟩
      · rw [drop_cons hlt]
        refine ⟨⟨k, p, rfl, k0, p1.1⟩, by have := p1.2.1; simp only [tot]; omega, ?_⟩
        rintro p' ⟨k', q, rfl, h1, h2⟩ h3
        simp only [tot] at h3
        by_cases e : k' < k
        · exact absurd ⟨q, h2, by omega⟩ (k3 k' h1 e)
        · by_cases e2 : k' = k
          · subst e2
            exact .inr ⟨rfl, p1.2.2 q h2 (by omega)⟩
          · exact .inl (by omega)
      · rw [k4, hw, p2]
        simp
    · obtain rfl : i = cs.length := by omega
      rw [decide_eq_false (show ¬ (cs.length : Int) < (cs.length : Int) by omega), cond_false]
      rw [List.drop_of_length_le (Nat.le_refl _)] at he ⊢
      obtain ⟨p, ⟨h1, rfl⟩, h2⟩ := he
      exact ⟨[], ⟨⟨h1, rfl⟩, h2, fun p' h3 _ => by rw [h3.2]; exact Lx.refl _⟩, by simp⟩
theorem first_eq {n : Nat × Nat} (hn : 2000 ≤ n.1) (cs : List Int) (s : Int) : (smd cs s ≠ 0 ∧ D20 n cs s = some ([], smd cs s)) ∨ (smd cs s = 0 ∧ ∃ p, D20 n cs s = some (p, 0) ∧ IsBst (PayU cs s) p) := by
  unfold D20
  rw [smd_eq (by omega)]
  simp only [Option.bind_some]
  by_cases h : smd cs s = 0
  · obtain ⟨hv, h0, h1⟩ := smd_zero h
    right
    refine ⟨h, ?_⟩
    rw [show (smd cs s != 0) = false by simp [h], cond_false]
    obtain ⟨s', rfl⟩ := Int.eq_ofNat_of_zero_le h0
    rw [few_eq (by omega) hv s' (by omega)]
    simp only [Option.bind_some]
    have hsl : s' < (ftab cs s').length := by rw [ftab_length]; omega
    rw [inB_nat hsl, cond_true, idx_nat hsl, ftab_get]
    simp only [Option.bind_some]
    have hl := hv.len
    have o1 := opt_nonneg hv.mnt h0
    have o2 := opt_self hv.mnt h0
    obtain ⟨p, p1, p2⟩ := first_out n hn hv n.1 0 s' (opt cs s') [] (by omega) (by omega) h0 h1 o1 (by omega) (opt_pay hv.mnt h0) rfl
    refine ⟨p, by simpa using p2, p1.1, fun p' h' => ?_⟩
    have h4 := opt_pay_le hv.mnt h'
    have h5 := p1.2.1
    by_cases e : tot p' = opt cs s'
    · exact .inr ⟨by omega, p1.2.2 p' h' e⟩
    · exact .inl (by omega)
  · left
    exact ⟨h, by rw [show (smd cs s != 0) = true by simpa using h, cond_true]⟩
end Go.Proofs.Ytjgmfdgpgdaclaa
/-
  Coins: the reference's First and Purse.
-/
set_option linter.unusedVariables false
set_option linter.unusedSimpArgs false
namespace Go.Proofs.Ytjgmfdgpgdaclaa
open Go.Vi

theorem full_loop (n : Nat × Nat) (cs : List Int) (hl : cs.length ≤ 100) : ∀ (m i : Nat), i ≤ cs.length → cs.length - i < m → DL62_1 n m cs (i : Int) (List.replicate i 200) = some (List.replicate cs.length 200)
  | 0, i, _, h => by omega
  | m + 1, i, hi, h => by
    rw [DL62_1_succ]
    unfold DF62_1
    by_cases hlt : i < cs.length
    · rw [decide_eq_true (show (i : Int) < (cs.length : Int) by omega), cond_true, decide_eq_true (show (List.replicate i (200 : Int)).length + [200].length ≤ lim by simp [lim]; omega), cond_true, ← List.replicate_succ', show wr .i64 ((i : Int) + 1) = ((i + 1 : Nat) : Int) by rw [wr_ok (by omega) (by omega)]; omega]
      exact full_loop n cs hl m (i + 1) (by omega) (by omega)
    · rw [decide_eq_false (show ¬ (i : Int) < (cs.length : Int) by omega), cond_false, show i = cs.length by omega]
theorem full_eq {n : Nat × Nat} (hn : 1000 ≤ n.1) (cs : List Int) (hl : cs.length ≤ 100) : D62 n cs = some (List.replicate cs.length 200) := full_loop n cs hl n.1 0 (by omega) (by omega)
theorem rfirst_eq {n : Nat × Nat} (hn : 2000 ≤ n.1) (cs : List Int) (s : Int) : (smd cs s ≠ 0 ∧ D21 n cs s = some ([], smd cs s)) ∨ (smd cs s = 0 ∧ ∃ p, D21 n cs s = some (p, 0) ∧ IsBst (PayU cs s) p) := by
  unfold D21
  rw [smdr_eq (by omega)]
  simp only [Option.bind_some]
  by_cases h : smd cs s = 0
  · right
    refine ⟨h, ?_⟩
    obtain ⟨hv, h0, h1⟩ := smd_zero h
    have hl := hv.len
    rw [show (smd cs s != 0) = false by simp [h], cond_false, full_eq (by omega) cs (by omega)]
    simp only [Option.bind_some]
    have hq : ∀ q ∈ List.replicate cs.length (200 : Int), 0 ≤ q ∧ q ≤ 200 := fun q hq => by rw [List.eq_of_mem_replicate hq]; omega
    have hfull := pay_full hv.mnt.pos (qs := List.replicate cs.length 200) (s := s) (m := 200) (by omega) (by simp) (fun q hq => by rw [List.eq_of_mem_replicate hq]; omega)
    rcases rpaid_eq (n := n) (by omega) hv h0 h1 (ps := List.replicate cs.length 200) (by simp) hq with ⟨_, h2⟩ | ⟨p, h2, h3⟩
    · exact absurd ((hfull _).2 (gr_payU hv h0)) (h2 _)
    · rw [h2]
      exact ⟨p, rfl, h3.iff hfull⟩
  · left
    exact ⟨h, by rw [show (smd cs s != 0) = true by simpa using h, cond_true]⟩
/-- Both give the same first payment. -/
theorem first_both {n : Nat × Nat} (hn : 2000 ≤ n.1) (cs : List Int) (s : Int) : ∃ r : List Int × Int, D20 n cs s = some r ∧ D21 n cs s = some r ∧ r.1.length ≤ 100 := by
  rcases first_eq hn cs s with ⟨h1, h2⟩ | ⟨h1, p, h2, h3⟩
  · rcases rfirst_eq hn cs s with ⟨k1, k2⟩ | ⟨k1, _⟩
    · exact ⟨_, h2, k2, by simp⟩
    · exact absurd k1 h1
  · rcases rfirst_eq hn cs s with ⟨k1, _⟩ | ⟨k1, q, k2, k3⟩
    · exact absurd h1 k1
    · have := IsBst.uniq (h3.1.length.trans k3.1.length.symm) h3 k3
      subst this
      obtain ⟨hv, _, _⟩ := smd_zero h1
      exact ⟨_, h2, k2, by show p.length ≤ 100; rw [h3.1.length]; have := hv.len; omega⟩
end Go.Proofs.Ytjgmfdgpgdaclaa
/-
  Coins: the law CoinFew.
-/
set_option linter.unusedVariables false
set_option linter.unusedSimpArgs false
namespace Go.Proofs.Ytjgmfdgpgdaclaa
open Go.Vi
theorem grS_len (cs : List Int) (s : Int) : (grS cs s).1.length ≤ 100 := by
  unfold grS
  split
  · simp
  · rename_i h
    obtain ⟨hv, h0, h1⟩ := smd_zero (by simpa using h)
    show (gr cs s).1.length ≤ 100
    rw [(gr_payU hv h0).length]
    have := hv.len
    omega
theorem rfewS_eq {n : Nat × Nat} (hn : 1000 ≤ n.1) (cs : List Int) (s : Int) : D19 n cs s = some (fewS cs s) := by
  unfold D19 fewS
  rw [smdr_eq hn]
  simp only [Option.bind_some]
  by_cases h : smd cs s = 0
  · obtain ⟨hv, h0, h1⟩ := smd_zero h
    rw [show (smd cs s != 0) = false by simp [h], cond_false, if_neg (by simpa using h)]
    obtain ⟨s', rfl⟩ := Int.eq_ofNat_of_zero_le h0
    rw [rfew_eq hn hv s' (by omega)]
    simp only [Option.bind_some]
    have hsl : s' < (ftab cs s').length := by rw [ftab_length]; omega
    rw [inB_nat hsl, cond_true, idx_nat hsl, ftab_get]
    rfl
  · rw [show (smd cs s != 0) = true by simpa using h, cond_true, if_pos h]
theorem few_ok (cs : List Int) (s : Int) : S3 N cs s = some true := by
  rw [S3_D N rfl]
  unfold D3
  obtain ⟨r, h1, h2, h3⟩ := first_both hN2 cs s
  rw [works_eq]
  simp only [fewS_eq hN1, rfewS_eq hN1, h1, h2, grS_eq hN1, rgrS_eq hN1, same_eq hN1 _ _ h3, same_eq hN1 _ _ (grS_len cs s), chk_eq hN1, chkr_eq hN1, Option.bind_some, beq_self_eq_true, decide_true, cond_true]
  generalize decide ((cs.length : Int) > 40) = x
  cases x <;> rfl
end Go.Proofs.Ytjgmfdgpgdaclaa
