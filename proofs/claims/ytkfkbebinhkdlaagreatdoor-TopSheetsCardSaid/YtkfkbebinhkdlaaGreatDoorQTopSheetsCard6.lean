/- Texts of this claim, joined: G19c20 to G97. -/
import Derived.BigRegion
import Derived.ChangeAlike
import Derived.Deep.RegionWith
import Derived.KernelRfl
import Derived.Lib.Hide
import Derived.LoopIn
import Derived.LoopNIn
import Derived.LoopTactic
import Derived.Outline
import Derived.OwnWalkIn
import Derived.RangeFuncBound
import Derived.RangeFuncBox
import Derived.RangeFuncCalls
import Derived.RangeFuncLeaves
import Derived.RangeFuncNested
import Derived.RegionTactic
import Derived.Shelf.Abstract
import Derived.StillTailTactics
import Derived.TacticsInMore
import Derived.Test.YtkfkbebinhkdlaaGreatDoorProg
import Derived.WalkKit
import Derived.Test.YtkfkbebinhkdlaaGreatDoorQTopSheetsCard5
set_option linter.unusedVariables false
set_option linter.unusedSimpArgs false
set_option maxRecDepth 100000
namespace Go.Proofs.YtkfkbebinhkdlaaGreatDoor
open Go.Vi
/- (headword/volume.Book).counted -/
abbrev R19c20 := List Int
noncomputable def c19c20 : Code := bodyOf Tryz.f19
noncomputable def an19c20 : Ann := (.s .l (.s .l (.s (.s .l (.j [5] (.j [1, 5, 10, 11, 12] (.s .l (.s (.j [1, 5, 10, 11, 12] .l .l) (.s (.j [1, 5, 10, 11, 12] .l .l) .l))) .l) .l)) .l)))
def pk19c20 : List PK := [.c (.pair (.sl (.pair (.int .i64) (.int .i64))) (.pair (.int .i64) (.int .i64))), .f 20 []]
def rk19c20 : List RK := [.own (.int .i64) 4]
noncomputable def rt19c20 (st : St) : Option R19c20 := rtG rk19c20 st
noncomputable def E19c20 (n : Nat × Nat) : Env := { T := tab, phi := (consPhi 20 (fun _ => true) (P20 n) noPhi), eff := fun _ => false, fuel := n.1, hold := n.2, pcl := [23] }
noncomputable def kq19c20_1 (n : Nat × Nat) : St → Option R19c20 := run (E19c20 n) (cB (cB (cB c19c20))) (Ann.snd (Ann.snd (Ann.snd an19c20))) rt19c20 (fun _ _ => none) rt19c20
noncomputable def xb19c20_3 (n : Nat × Nat) : Nat → St → Option R19c20 := fun j s => bif Nat.beq j 0 then normC [5] s (kq19c20_1 n) else (fun _ _ => none) j s
noncomputable def F19c20_4 (n : Nat × Nat) : (St → Option R19c20) → St → Option R19c20 := fun K s => run (E19c20 n) (cA (cA (cB (cA (cB (cB c19c20)))))) (Ann.fst (Ann.fst (Ann.snd (Ann.fst (Ann.snd (Ann.snd an19c20)))))) (fun s => normC [1, 5, 10, 11, 12] s K) (xb19c20_3 n) rt19c20 s
noncomputable def L19c20_1 (n : Nat × Nat) (m : Nat) (v10 : List (Int × Int)) (v11 : Int) (v12 : Int) (out5 : List Int) : Option R19c20 := loopN (F19c20_4 n) m { tm := [uu, .fn 20 [], uu, uu, uu, .own 5 none false, uu, uu, uu, uu, .c (.sl (.pair (.int .i64) (.int .i64)) v10 false), .c (.int .i64 v11), .c (.int .i64 v12), uu, uu, uu, uu, uu, uu, uu, uu, uu, uu, uu, uu, uu, uu, uu, uu, uu, uu], hp := (upd emp 5 (.arr (.int .i64) out5 false)) }
theorem L19c20_1_eq (n : Nat × Nat) (m1 : Nat) (v10 : List (Int × Int)) (v11 : Int) (v12 : Int) (out5 : List Int) : L19c20_1 n (m1 + 1) v10 v11 v12 out5 =
 (bif decide (v12 < v11) then (idx v10 v12).bind fun x1' =>
 (bif inB (wr .i64 ((out5.length : Int) - 1)) out5.length then (idx out5 (wr .i64 ((out5.length : Int) - 1))).bind fun x2' =>
 (S20 n x1').bind fun r3' =>
 (bif decide (out5.length + [wr .i64 (x2' + r3')].length ≤ lim) then L19c20_1 n m1 v10 v11 (wr .i64 (v12 + 1)) (out5 ++ [wr .i64 (x2' + r3')])
 else none)
 else none)
 else some out5) := by kernel_rfl
noncomputable def S19c20 (n : Nat × Nat) (b0 : (List (Int × Int)) × Int × Int) : Option R19c20 := run (E19c20 n) c19c20 an19c20 rt19c20 (fun _ _ => none) rt19c20 { tm := [.agg [.sl (.pair (.int .i64) (.int .i64)) b0.1 false, .int .i64 b0.2.1, .int .i64 b0.2.2], .fn 20 [], uu, uu, uu, uu, uu, uu, uu, uu, uu, uu, uu, uu, uu, uu, uu, uu, uu, uu, uu, uu, uu, uu, uu, uu, uu, uu, uu, uu, uu], hp := emp }
theorem S19c20_eq (n : Nat × Nat) (b0 : (List (Int × Int)) × Int × Int) : S19c20 n b0 =
    L19c20_1 n n.1 b0.1 (b0.1.length : Int) 0 [0] := by kernel_rfl
theorem S19c20_run (n : Nat × Nat) (xs : pksDen pk19c20) : S19c20 n xs.1 = runG (E19c20 n) noScope c19c20 an19c20 (rtG rk19c20) (fun _ _ => none) (rtG rk19c20) (st0 pk19c20 xs Tryz.f19.ntmps) := by kernel_rfl
noncomputable def P19c20 (n : Nat × Nat) := phiOf pk19c20 rk19c20 (fun xs => S19c20 n xs.1)
theorem call19 : CallOK Tryz.prog 19 := callOK_of Tryz.func19 (by kernel_rfl) (by kernel_rfl)
theorem env19c20 (n : Nat × Nat) : EnvOK Tryz.prog (E19c20 n) := envOK0 (consPhi_ok (FC20 n) call20 noPhi_ok) rfl rfl
theorem par19c20 (n : Nat × Nat) : EnvPar (E19c20 n) := envPar0 (consPhi_par phiOf_Par1 noPhi_par) rfl
theorem FC19c20 (n : Nat × Nat) : FCs Tryz.prog 19 (P19c20 n) := phiOf_FCs fun xs r h vs hv => FC.of_runG tabOK eqsOK (env19c20 n) (par19c20 n) mixed (fun _ p _ => noScope_ok p.1 p.2) Tryz.func19 (c := c19c20) (an := an19c20) (pks := pk19c20) (rks := rk19c20) (by kernel_rfl) (by kernel_rfl) hv ((S19c20_run n xs).symm.trans h)
/- (headword/volume.lines).between -/
abbrev R33 := Int
noncomputable def c33 : Code := bodyOf Tryz.f33
noncomputable def an33 : Ann := .l
def pk33 : List PK := [.c (.sl (.int .i64)), .c (.int .i64), .c (.int .i64)]
def rk33 : List RK := [.c (.int .i64) 6]
noncomputable def rt33 (st : St) : Option R33 := rtG rk33 st
noncomputable def E33 (n : Nat × Nat) : Env := { T := tab, phi := noPhi, eff := fun _ => false, fuel := n.1, hold := n.2 }
noncomputable def S33 (n : Nat × Nat) (l0 : List Int) (begin1 : Int) (v2 : Int) : Option R33 := run (E33 n) c33 an33 rt33 (fun _ _ => none) rt33 { tm := [.c (.sl (.int .i64) l0 false), .c (.int .i64 begin1), .c (.int .i64 v2), uu, uu, uu, uu, uu, uu, uu, uu, uu, uu, uu, uu, uu], hp := emp }
theorem S33_eq (n : Nat × Nat) (l0 : List Int) (begin1 : Int) (v2 : Int) : S33 n l0 begin1 v2 =
 (idx l0 v2).bind fun x1' =>
 (idx l0 begin1).bind fun x2' =>
 some (wr .i64 (x1' - x2')) := by kernel_rfl
theorem S33_run (n : Nat × Nat) (xs : pksDen pk33) : S33 n xs.1 xs.2.1 xs.2.2.1 = runG (E33 n) noScope c33 an33 (rtG rk33) (fun _ _ => none) (rtG rk33) (st0 pk33 xs Tryz.f33.ntmps) := by kernel_rfl
noncomputable def P33 (n : Nat × Nat) := phiOf pk33 rk33 (fun xs => S33 n xs.1 xs.2.1 xs.2.2.1)
theorem call33 : CallOK Tryz.prog 33 := callOK_of Tryz.func33 (by kernel_rfl) (by kernel_rfl)
theorem env33 (n : Nat × Nat) : EnvOK Tryz.prog (E33 n) := envOK0 noPhi_ok rfl rfl
theorem par33 (n : Nat × Nat) : EnvPar (E33 n) := envPar0 noPhi_par rfl
theorem FC33 (n : Nat × Nat) : FCs Tryz.prog 33 (P33 n) := phiOf_FCs fun xs r h vs hv => FC.of_runG tabOK eqsOK (env33 n) (par33 n) mixed (fun _ p _ => noScope_ok p.1 p.2) Tryz.func33 (c := c33) (an := an33) (pks := pk33) (rks := rk33) (by kernel_rfl) (by kernel_rfl) hv ((S33_run n xs).symm.trans h)
/- (headword/volume.lines).filled -/
abbrev R21 := List Int
noncomputable def c21 : Code := bodyOf Tryz.f21
noncomputable def an21 : Ann := (.s .l (.s .l (.s .l (.s (.s .l (.j [0, 5] (.j [0, 1, 5, 6, 7] (.s (.s .l (.j [0, 1, 5, 6, 7] .l .l)) (.j [] (.j [0, 1, 5, 6, 7] (.s (.s .l (.j [0, 1, 5, 6, 7] .l .l)) (.s .l (.j [0, 1, 5, 6, 7] .l .l))) .l) .l)) .l) .l)) .l))))
def pk21 : List PK := [.c (.sl (.int .i64)), .c (.int .i64)]
def rk21 : List RK := [.ownN (.int .i64) 4]
noncomputable def rt21 (st : St) : Option R21 := rtG rk21 st
noncomputable def E21 (n : Nat × Nat) : Env := { T := tabN, phi := (consPhi 33 (fun _ => true) (P33 n) noPhi), eff := fun _ => false, fuel := n.1, hold := n.2 }
noncomputable def kq21_1 (n : Nat × Nat) : St → Option R21 := run (E21 n) (cB (cB (cB (cB c21)))) (Ann.snd (Ann.snd (Ann.snd (Ann.snd an21)))) rt21 (fun _ _ => none) rt21
noncomputable def xb21_3 (n : Nat × Nat) : Nat → St → Option R21 := fun j s => bif Nat.beq j 0 then normC [0, 5] s (kq21_1 n) else (fun _ _ => none) j s
noncomputable def F21_4 (n : Nat × Nat) : (St → Option R21) → St → Option R21 := fun K s => run (E21 n) (cA (cA (cB (cA (cB (cB (cB c21))))))) (Ann.fst (Ann.fst (Ann.snd (Ann.fst (Ann.snd (Ann.snd (Ann.snd an21))))))) (fun s => normC [0, 1, 5, 6, 7] s K) (xb21_3 n) rt21 s
noncomputable def kq21_7 (n : Nat × Nat) (m1 : Nat) : St → Option R21 := run (E21 n) (cB (cB (cA (cA (cB (cA (cB (cB (cB c21))))))))) (Ann.snd (Ann.snd (Ann.fst (Ann.fst (Ann.snd (Ann.fst (Ann.snd (Ann.snd (Ann.snd an21))))))))) (fun s => normC [0, 1, 5, 6, 7] s (loopN (F21_4 n) m1)) (xb21_3 n) rt21
noncomputable def L21_1 (n : Nat × Nat) (m : Nat) (l0 : List Int) (room1 : Int) (begin6 : Int) (v7 : Int) (out5 : List Int) : Option R21 := loopN (F21_4 n) m { tm := [.c (.sl (.int .i64) l0 false), .c (.int .i64 room1), uu, uu, uu, .own 5 none false, .c (.int .i64 begin6), .c (.int .i64 v7), uu, uu, uu, uu, uu, uu, uu, uu, uu, uu, uu, uu, uu, uu, uu, uu, uu, uu, uu, uu, uu, uu, uu, uu, uu, uu, uu, uu, uu, uu, uu], hp := (upd emp 5 (.arr (.int .i64) out5 true)) }
noncomputable def L21_2 (n : Nat × Nat) (m1 : Nat) (l0 : List Int) (room1 : Int) (begin6 : Int) (v7 : Int) (out5 : List Int) : Option R21 := loopN (fun _ => (kq21_7 n m1)) n.2 { tm := [.c (.sl (.int .i64) l0 false), .c (.int .i64 room1), uu, uu, uu, .own 5 none false, .c (.int .i64 begin6), .c (.int .i64 v7), uu, uu, uu, uu, uu, uu, uu, uu, uu, uu, uu, uu, uu, uu, uu, uu, uu, uu, uu, uu, uu, uu, uu, uu, uu, uu, uu, uu, uu, uu, uu], hp := (upd emp 5 (.arr (.int .i64) out5 true)) }
theorem L21_1_eq (n : Nat × Nat) (m1 : Nat) (l0 : List Int) (room1 : Int) (begin6 : Int) (v7 : Int) (out5 : List Int) : L21_1 n (m1 + 1) l0 room1 begin6 v7 out5 =
 (bif decide (v7 < (l0.length : Int)) then (S33 n l0 (wr .i64 (v7 - 1)) v7).bind fun r1' =>
 (bif decide (r1' > room1) then some []
 else (S33 n l0 begin6 v7).bind fun r2' =>
 (bif decide (r2' > room1) then (bif decide (out5.length + [wr .i64 (v7 - 1)].length ≤ lim) then L21_2 n m1 l0 room1 (wr .i64 (v7 - 1)) v7 (out5 ++ [wr .i64 (v7 - 1)])
 else none)
 else L21_2 n m1 l0 room1 begin6 v7 out5))
 else (bif decide (out5.length + [wr .i64 ((l0.length : Int) - 1)].length ≤ lim) then some (out5 ++ [wr .i64 ((l0.length : Int) - 1)])
 else none)) := by kernel_rfl
theorem L21_2_raw (n : Nat × Nat) (m1 : Nat) (l0 : List Int) (room1 : Int) (begin6 : Int) (v7 : Int) (out5 : List Int) : (kq21_7 n m1) { tm := [.c (.sl (.int .i64) l0 false), .c (.int .i64 room1), uu, uu, uu, .own 5 none false, .c (.int .i64 begin6), .c (.int .i64 v7), uu, uu, uu, uu, uu, uu, uu, uu, uu, uu, uu, uu, uu, uu, uu, uu, uu, uu, uu, uu, uu, uu, uu, uu, uu, uu, uu, uu, uu, uu, uu], hp := (upd emp 5 (.arr (.int .i64) out5 true)) } =
    L21_1 n m1 l0 room1 begin6 (wr .i64 (v7 + 1)) out5 := by kernel_rfl
noncomputable def S21 (n : Nat × Nat) (l0 : List Int) (room1 : Int) : Option R21 := run (E21 n) c21 an21 rt21 (fun _ _ => none) rt21 { tm := [.c (.sl (.int .i64) l0 false), .c (.int .i64 room1), uu, uu, uu, uu, uu, uu, uu, uu, uu, uu, uu, uu, uu, uu, uu, uu, uu, uu, uu, uu, uu, uu, uu, uu, uu, uu, uu, uu, uu, uu, uu, uu, uu, uu, uu, uu, uu], hp := emp }
theorem S21_eq (n : Nat × Nat) (l0 : List Int) (room1 : Int) : S21 n l0 room1 =
    L21_1 n n.1 l0 room1 0 1 [] := by kernel_rfl
theorem S21_run (n : Nat × Nat) (xs : pksDen pk21) : S21 n xs.1 xs.2.1 = runG (E21 n) noScope c21 an21 (rtG rk21) (fun _ _ => none) (rtG rk21) (st0 pk21 xs Tryz.f21.ntmps) := by kernel_rfl
noncomputable def P21 (n : Nat × Nat) := phiOf pk21 rk21 (fun xs => S21 n xs.1 xs.2.1)
theorem call21 : CallOK Tryz.prog 21 := callOK_of Tryz.func21 (by kernel_rfl) (by kernel_rfl)
theorem env21 (n : Nat × Nat) : EnvOK Tryz.prog (E21 n) := envOK0 (consPhi_ok (FC33 n) call33 noPhi_ok) rfl rfl
theorem par21 (n : Nat × Nat) : EnvPar (E21 n) := envPar0 (consPhi_par phiOf_Par1 noPhi_par) rfl
theorem FC21 (n : Nat × Nat) : FCs Tryz.prog 21 (P21 n) := phiOf_FCs fun xs r h vs hv => FC.of_runG tabNOK eqsNOK (env21 n) (par21 n) mixed (fun _ p _ => noScope_ok p.1 p.2) Tryz.func21 (c := c21) (an := an21) (pks := pk21) (rks := rk21) (by kernel_rfl) (by kernel_rfl) hv ((S21_run n xs).symm.trans h)
abbrev R7 := List Int × Int
noncomputable def c7 : Code := bodyOf Tryz.f7
noncomputable def an7 : Ann := (.s .l (.s (.s .l (.s .l (.j [1] .l .l))) (.s .l (.s (.s .l (.j [5] .l .l)) .l))))
def pk7 : List PK := [.c (.pair (.sl (.pair (.int .i64) (.int .i64))) (.pair (.int .i64) (.int .i64)))]
def rk7 : List RK := [.own (.int .i64) 2, .c (.int .i64) 3]
noncomputable def rt7 (st : St) : Option R7 := rtG rk7 st
noncomputable def E7 (n : Nat × Nat) : Env := { T := tab, phi := (consPhi 18 (fun _ => true) (P18 n) (consPhi 19 (isFns [none, some 20]) (P19c20 n) (consPhi 21 (fun _ => true) (P21 n) noPhi))), eff := fun _ => false, fuel := n.1, hold := n.2 }
noncomputable def S7 (n : Nat × Nat) (b0 : (List (Int × Int)) × Int × Int) : Option R7 := run (E7 n) c7 an7 rt7 (fun _ _ => none) rt7 { tm := [.agg [.sl (.pair (.int .i64) (.int .i64)) b0.1 false, .int .i64 b0.2.1, .int .i64 b0.2.2], uu, uu, uu, uu, uu, uu, uu, uu, uu, uu, uu, uu, uu, uu, uu, uu, uu, uu], hp := emp }
theorem S7_eq (n : Nat × Nat) (b0 : (List (Int × Int)) × Int × Int) : S7 n b0 =
 (S18 n b0).bind fun r1' =>
 (bif (r1' != 0) then some ([], r1')
 else (S19c20 n b0).bind fun r2' =>
 (S21 n r2' b0.2.1).bind fun r3' =>
 (bif r3'.isEmpty then some ([], 12)
 else some (r3', 0))) := by kernel_rfl
theorem S7_run (n : Nat × Nat) (xs : pksDen pk7) : S7 n xs.1 = runG (E7 n) noScope c7 an7 (rtG rk7) (fun _ _ => none) (rtG rk7) (st0 pk7 xs Tryz.f7.ntmps) := by kernel_rfl
noncomputable def P7 (n : Nat × Nat) := phiOf pk7 rk7 (fun xs => S7 n xs.1)
theorem call7 : CallOK Tryz.prog 7 := callOK_of Tryz.func7 (by kernel_rfl) (by kernel_rfl)
theorem env7 (n : Nat × Nat) : EnvOK Tryz.prog (E7 n) := envOK0 (consPhi_ok (FC18 n) call18 (consPhi_ok (FC19c20 n) call19 (consPhi_ok (FC21 n) call21 noPhi_ok))) rfl rfl
theorem par7 (n : Nat × Nat) : EnvPar (E7 n) := envPar0 (consPhi_par phiOf_Par1 (consPhi_par phiOf_Par1 (consPhi_par phiOf_Par1 noPhi_par))) rfl
theorem FC7 (n : Nat × Nat) : FCs Tryz.prog 7 (P7 n) := phiOf_FCs fun xs r h vs hv => FC.of_runG tabOK eqsOK (env7 n) (par7 n) mixed (fun _ p _ => noScope_ok p.1 p.2) Tryz.func7 (c := c7) (an := an7) (pks := pk7) (rks := rk7) (by kernel_rfl) (by kernel_rfl) hv ((S7_run n xs).symm.trans h)
abbrev R6 := Int
noncomputable def c6 : Code := bodyOf Tryz.f6
noncomputable def an6 : Ann := (.s .l (.s .l (.s (.q [(4, 0, 1)] (.s .l (.j [4, 500169999] (.j [4, 11, 12, 13, 500169999] (.s .l (.s (.j [4, 11, 12, 13, 500169999] .l .l) (.s (.j [4, 11, 12, 13, 500169999] .l .l) .l))) .l) .l))) (.q [(4, 0, 0)] (.s .l (.s (.s .l (.j [7] .l .l)) .l))))))
def pk6 : List PK := [.c (.sl (.int .i64)), .p (.int .i64)]
def rk6 : List RK := [.c (.int .i64) 3]
noncomputable def rt6 (st : St) : Option R6 := rtG rk6 st
noncomputable def E6 (n : Nat × Nat) : Env := { T := tab, phi := (consPhi 7 (fun _ => true) (P7 n) noPhi), eff := fun _ => false, fuel := n.1, hold := n.2 }
noncomputable def kq6_1 (n : Nat × Nat) : St → Option R6 := run (E6 n) (cB (cB (cB c6))) (Ann.snd (Ann.snd (Ann.snd an6))) rt6 (fun _ _ => none) rt6
noncomputable def xb6_3 (n : Nat × Nat) : Nat → St → Option R6 := fun j s => bif Nat.beq j 0 then normC [4, 500169999] s (kq6_1 n) else (fun _ _ => none) j s
noncomputable def F6_4 (n : Nat × Nat) : (St → Option R6) → St → Option R6 := fun K s => run (E6 n) (cA (cA (cB (cA (cB (cB c6)))))) (Ann.fst (Ann.fst (Ann.snd (Ann.unq (Ann.fst (Ann.snd (Ann.snd an6))))))) (fun s => normC [4, 11, 12, 13, 500169999] s K) (xb6_3 n) rt6 s
noncomputable def L6_1 (n : Nat × Nat) (m : Nat) (v11 : List Int) (v12 : Int) (v13 : Int) (b4_1 : Int) (b4_2 : Int) (v500169999 : List (Int × Int)) : Option R6 := loopN (F6_4 n) m { tm := [uu, uu, uu, uu, .ptr 4 0, uu, uu, uu, uu, uu, uu, .c (.sl (.int .i64) v11 false), .c (.int .i64 v12), .c (.int .i64 v13), uu, uu, uu, uu, uu, uu, uu, uu, uu, uu, uu, uu, uu, uu, uu, uu, uu, uu, uu, uu, uu], hp := (upd (upd emp 500169999 (.arr (.pair (.int .i64) (.int .i64)) v500169999 false)) 4 (.box [.osl, .int .i64 b4_1, .int .i64 b4_2])) }
theorem L6_1_eq (n : Nat × Nat) (m1 : Nat) (v11 : List Int) (v12 : Int) (v13 : Int) (b4_1 : Int) (b4_2 : Int) (v500169999 : List (Int × Int)) : L6_1 n (m1 + 1) v11 v12 v13 b4_1 b4_2 v500169999 =
 (bif decide (v13 < v12) then (idx v11 v13).bind fun x1' =>
 (bif decide (v500169999.length + [(x1', x1')].length ≤ lim) then L6_1 n m1 v11 v12 (wr .i64 (v13 + 1)) b4_1 b4_2 (v500169999 ++ [(x1', x1')])
 else none)
 else (S7 n (v500169999, b4_1, b4_2)).bind fun r2' =>
 (bif (r2'.2 != 0) then some (-1)
 else some (r2'.1.length : Int))) := by kernel_rfl
noncomputable def S6 (n : Nat × Nat) (l0 : List Int) (v1 : Int) : Option R6 := run (E6 n) c6 an6 rt6 (fun _ _ => none) rt6 { tm := [.c (.sl (.int .i64) l0 false), .iptr [.int .i64 v1], uu, uu, uu, uu, uu, uu, uu, uu, uu, uu, uu, uu, uu, uu, uu, uu, uu, uu, uu, uu, uu, uu, uu, uu, uu, uu, uu, uu, uu, uu, uu, uu, uu], hp := emp }
theorem S6_eq (n : Nat × Nat) (l0 : List Int) (v1 : Int) : S6 n l0 v1 =
    L6_1 n n.1 l0 (l0.length : Int) 0 v1 0 [] := by kernel_rfl
theorem S6_run (n : Nat × Nat) (xs : pksDen pk6) : S6 n xs.1 xs.2.1 = runG (E6 n) noScope c6 an6 (rtG rk6) (fun _ _ => none) (rtG rk6) (st0 pk6 xs Tryz.f6.ntmps) := by kernel_rfl
noncomputable def P6 (n : Nat × Nat) := phiOf pk6 rk6 (fun xs => S6 n xs.1 xs.2.1)
theorem call6 : CallOK Tryz.prog 6 := callOK_of Tryz.func6 (by kernel_rfl) (by kernel_rfl)
theorem env6 (n : Nat × Nat) : EnvOK Tryz.prog (E6 n) := envOK0 (consPhi_ok (FC7 n) call7 noPhi_ok) rfl rfl
theorem par6 (n : Nat × Nat) : EnvPar (E6 n) := envPar0 (consPhi_par phiOf_Par1 noPhi_par) rfl
theorem FC6 (n : Nat × Nat) : FCs Tryz.prog 6 (P6 n) := phiOf_FCs fun xs r h vs hv => FC.of_runG tabOK eqsOK (env6 n) (par6 n) mixed (fun _ p _ => noScope_ok p.1 p.2) Tryz.func6 (c := c6) (an := an6) (pks := pk6) (rks := rk6) (by kernel_rfl) (by kernel_rfl) hv ((S6_run n xs).symm.trans h)
abbrev R25 := Int × Int
noncomputable def c25 : Code := bodyOf Tryz.f25
noncomputable def an25 : Ann := (.s .l (.s .l (.s (.j [1, 2, 49, 50, 51, 52] (.s .l (.j [1, 2, 49, 50, 51, 52] .l (.s .l (.j [1, 2, 49, 50, 51, 52] .l .l)))) .l) (.s .l (.s .l (.s (.j [8] (.j [1, 7, 8, 9, 49, 50, 51, 52] (.s (.s .l (.j [1, 7, 8, 9, 49, 50, 51, 52] .l .l)) (.j [1, 7, 8, 9, 49, 50, 51, 52] (.s .l (.s .l (.s .l (.j [1, 7, 8, 9, 49, 50, 51, 52] .l .l)))) .l)) .l) .l) .l))))))
def pk25 : List PK := [.c (.pair (.sl (.pair (.int .i64) (.int .i64))) (.pair (.int .i64) (.int .i64))), .c (.int .i64)]
def rk25 : List RK := [.c (.int .i64) 4, .c (.int .i64) 5]
noncomputable def rt25 (st : St) : Option R25 := rtG rk25 st
noncomputable def E25 (n : Nat × Nat) : Env := { T := tab, phi := (consPhi 18 (fun _ => true) (P18 n) (consPhi 19 (isFns [none, some 20]) (P19c20 n) (consPhi 21 (fun _ => true) (P21 n) noPhi))), eff := fun _ => false, fuel := n.1, hold := n.2 }
noncomputable def kq25_6 (n : Nat × Nat) : St → Option R25 := run (E25 n) (cB (cB (cB (cB (cB (cB c25)))))) (Ann.snd (Ann.snd (Ann.snd (Ann.snd (Ann.snd (Ann.snd an25)))))) rt25 (fun _ _ => none) rt25
noncomputable def xb25_8 (n : Nat × Nat) : Nat → St → Option R25 := fun j s => bif Nat.beq j 1 then normC [8] s (kq25_6 n) else (fun _ _ => none) j s
noncomputable def F25_9 (n : Nat × Nat) : (St → Option R25) → St → Option R25 := fun K s => run (E25 n) (cA (cA (cA (cB (cB (cB (cB (cB c25)))))))) (Ann.fst (Ann.fst (Ann.fst (Ann.snd (Ann.snd (Ann.snd (Ann.snd (Ann.snd an25)))))))) (fun s => normC [1, 7, 8, 9, 49, 50, 51, 52] s K) (xb25_8 n) rt25 s
noncomputable def L25_1 (n : Nat × Nat) (m : Nat) (volumes1 : Int) (low8 : Int) (high9 : Int) (l7 : List Int) : Option R25 := loopN (F25_9 n) m { tm := [uu, .c (.int .i64 volumes1), uu, uu, uu, uu, uu, .own 7 none false, .c (.int .i64 low8), .c (.int .i64 high9), uu, uu, uu, uu, uu, uu, uu, uu, uu, uu, uu, uu, uu, uu, uu, uu, uu, uu, uu, uu, uu, uu, uu, uu, uu, uu, uu, uu, uu, uu, uu, uu, uu, uu, uu, uu, uu, uu, uu, uu, uu, uu, uu, uu, uu, uu, uu, uu], hp := (upd emp 7 (.arr (.int .i64) l7 false)) }
theorem L25_1_eq (n : Nat × Nat) (m1 : Nat) (volumes1 : Int) (low8 : Int) (high9 : Int) (l7 : List Int) : L25_1 n (m1 + 1) volumes1 low8 high9 l7 =
 (bif decide (low8 < high9) then (bif 2 == 0 then none
 else (S21 n l7 (wr .i64 (Int.tdiv (wr .i64 (low8 + high9)) 2))).bind fun r5' =>
 ((bif ((!r5'.isEmpty) == true) then some (decide ((r5'.length : Int) ≤ volumes1))
 else some false)).bind fun b6' =>
 (bif b6' then L25_1 n m1 volumes1 low8 (wr .i64 (Int.tdiv (wr .i64 (low8 + high9)) 2)) l7
 else L25_1 n m1 volumes1 (wr .i64 ((wr .i64 (Int.tdiv (wr .i64 (low8 + high9)) 2)) + 1)) high9 l7))
 else some (low8, 0)) := by kernel_rfl
noncomputable def S25 (n : Nat × Nat) (b0 : (List (Int × Int)) × Int × Int) (volumes1 : Int) : Option R25 := run (E25 n) c25 an25 rt25 (fun _ _ => none) rt25 { tm := [.agg [.sl (.pair (.int .i64) (.int .i64)) b0.1 false, .int .i64 b0.2.1, .int .i64 b0.2.2], .c (.int .i64 volumes1), uu, uu, uu, uu, uu, uu, uu, uu, uu, uu, uu, uu, uu, uu, uu, uu, uu, uu, uu, uu, uu, uu, uu, uu, uu, uu, uu, uu, uu, uu, uu, uu, uu, uu, uu, uu, uu, uu, uu, uu, uu, uu, uu, uu, uu, uu, uu, uu, uu, uu, uu, uu, uu, uu, uu, uu], hp := emp }
theorem S25_eq (n : Nat × Nat) (b0 : (List (Int × Int)) × Int × Int) (volumes1 : Int) : S25 n b0 volumes1 =
 (S18 n b0).bind fun r1' =>
 (bif (r1' != 0) then some (0, r1')
 else ((bif (decide (volumes1 < 1) == false) then some (decide (volumes1 > (b0.1.length : Int)))
 else some true)).bind fun b2' =>
 (bif b2' then some (0, 1)
 else (S19c20 n b0).bind fun r3' =>
 (bif inB (wr .i64 ((r3'.length : Int) - 1)) r3'.length then (idx r3' (wr .i64 ((r3'.length : Int) - 1))).bind fun x4' =>
          L25_1 n n.1 volumes1 1 x4' r3'
 else none))) := by kernel_rfl
theorem S25_run (n : Nat × Nat) (xs : pksDen pk25) : S25 n xs.1 xs.2.1 = runG (E25 n) noScope c25 an25 (rtG rk25) (fun _ _ => none) (rtG rk25) (st0 pk25 xs Tryz.f25.ntmps) := by kernel_rfl
noncomputable def P25 (n : Nat × Nat) := phiOf pk25 rk25 (fun xs => S25 n xs.1 xs.2.1)
theorem call25 : CallOK Tryz.prog 25 := callOK_of Tryz.func25 (by kernel_rfl) (by kernel_rfl)
theorem env25 (n : Nat × Nat) : EnvOK Tryz.prog (E25 n) := envOK0 (consPhi_ok (FC18 n) call18 (consPhi_ok (FC19c20 n) call19 (consPhi_ok (FC21 n) call21 noPhi_ok))) rfl rfl
theorem par25 (n : Nat × Nat) : EnvPar (E25 n) := envPar0 (consPhi_par phiOf_Par1 (consPhi_par phiOf_Par1 (consPhi_par phiOf_Par1 noPhi_par))) rfl
theorem FC25 (n : Nat × Nat) : FCs Tryz.prog 25 (P25 n) := phiOf_FCs fun xs r h vs hv => FC.of_runG tabOK eqsOK (env25 n) (par25 n) mixed (fun _ p _ => noScope_ok p.1 p.2) Tryz.func25 (c := c25) (an := an25) (pks := pk25) (rks := rk25) (by kernel_rfl) (by kernel_rfl) hv ((S25_run n xs).symm.trans h)
abbrev R46 := Int
noncomputable def c46 : Code := bodyOf Tryz.f46
noncomputable def an46 : Ann := (.s .l (.s (.j [0, 23, 24, 25, 28, 29, 30, 33, 34, 35] (.s .l (.j [0, 23, 24, 25, 28, 29, 30, 33, 34, 35] .l (.s .l (.j [0, 23, 24, 25, 28, 29, 30, 33, 34, 35] .l .l)))) .l) (.s (.s .l (.j [] (.j [13, 14, 15, 23, 24, 25, 28, 29, 30, 33, 34, 35] (.s .l (.s (.j [13, 14, 15, 23, 24, 25, 28, 29, 30, 33, 34, 35] .l .l) (.s (.j [13, 14, 15, 23, 24, 25, 28, 29, 30, 33, 34, 35] (.s .l (.s .l (.j [13, 14, 15, 23, 24, 25, 28, 29, 30, 33, 34, 35] .l .l))) .l) .l))) .l) .l)) .l)))
def pk46 : List PK := [.c (.sl (.pair (.int .i64) (.int .i64)))]
def rk46 : List RK := [.c (.int .i64) 2]
noncomputable def rt46 (st : St) : Option R46 := rtG rk46 st
noncomputable def E46 (n : Nat × Nat) : Env := { T := tab, phi := noPhi, eff := fun _ => false, fuel := n.1, hold := n.2 }
noncomputable def kq46_6 (n : Nat × Nat) : St → Option R46 := run (E46 n) (cB (cB (cB c46))) (Ann.snd (Ann.snd (Ann.snd an46))) rt46 (fun _ _ => none) rt46
noncomputable def xb46_8 (n : Nat × Nat) : Nat → St → Option R46 := fun j s => bif Nat.beq j 1 then normC [] s (kq46_6 n) else (fun _ _ => none) j s
noncomputable def F46_9 (n : Nat × Nat) : (St → Option R46) → St → Option R46 := fun K s => run (E46 n) (cA (cA (cB (cA (cB (cB c46)))))) (Ann.fst (Ann.fst (Ann.snd (Ann.fst (Ann.snd (Ann.snd an46)))))) (fun s => normC [13, 14, 15, 23, 24, 25, 28, 29, 30, 33, 34, 35] s K) (xb46_8 n) rt46 s
noncomputable def L46_1 (n : Nat × Nat) (m : Nat) (v13 : List (Int × Int)) (v14 : Int) (v15 : Int) : Option R46 := loopN (F46_9 n) m { tm := [uu, uu, uu, uu, uu, uu, uu, uu, uu, uu, uu, uu, uu, .c (.sl (.pair (.int .i64) (.int .i64)) v13 false), .c (.int .i64 v14), .c (.int .i64 v15), uu, uu, uu, uu, uu, uu, uu, uu, uu, uu, uu, uu, uu, uu, uu, uu, uu, uu, uu, uu, uu, uu], hp := emp }
theorem L46_1_eq (n : Nat × Nat) (m1 : Nat) (v13 : List (Int × Int)) (v14 : Int) (v15 : Int) : L46_1 n (m1 + 1) v13 v14 v15 =
 (bif decide (v15 < v14) then (idx v13 v15).bind fun x1' =>
 ((bif (decide (x1'.1 < 0) == false) then some (decide (x1'.1 > 100))
 else some true)).bind fun b2' =>
 ((bif (b2' == false) then some (decide (x1'.2 < 1))
 else some true)).bind fun b3' =>
 ((bif (b3' == false) then some (decide (x1'.2 > 9))
 else some true)).bind fun b4' =>
 (bif b4' then some 1
 else L46_1 n m1 v13 v14 (wr .i64 (v15 + 1)))
 else some 0) := by kernel_rfl
noncomputable def S46 (n : Nat × Nat) (l0 : List (Int × Int)) : Option R46 := run (E46 n) c46 an46 rt46 (fun _ _ => none) rt46 { tm := [.c (.sl (.pair (.int .i64) (.int .i64)) l0 false), uu, uu, uu, uu, uu, uu, uu, uu, uu, uu, uu, uu, uu, uu, uu, uu, uu, uu, uu, uu, uu, uu, uu, uu, uu, uu, uu, uu, uu, uu, uu, uu, uu, uu, uu, uu, uu], hp := emp }
theorem S46_eq (n : Nat × Nat) (l0 : List (Int × Int)) : S46 n l0 =
 (bif ((l0.length : Int) == 0) then some 4
 else (bif decide ((l0.length : Int) > 8) then some 3
 else L46_1 n n.1 l0 (l0.length : Int) 0)) := by kernel_rfl
theorem S46_run (n : Nat × Nat) (xs : pksDen pk46) : S46 n xs.1 = runG (E46 n) noScope c46 an46 (rtG rk46) (fun _ _ => none) (rtG rk46) (st0 pk46 xs Tryz.f46.ntmps) := by kernel_rfl
noncomputable def P46 (n : Nat × Nat) := phiOf pk46 rk46 (fun xs => S46 n xs.1)
theorem call46 : CallOK Tryz.prog 46 := callOK_of Tryz.func46 (by kernel_rfl) (by kernel_rfl)
theorem env46 (n : Nat × Nat) : EnvOK Tryz.prog (E46 n) := envOK0 noPhi_ok rfl rfl
theorem par46 (n : Nat × Nat) : EnvPar (E46 n) := envPar0 noPhi_par rfl
theorem FC46 (n : Nat × Nat) : FCs Tryz.prog 46 (P46 n) := phiOf_FCs fun xs r h vs hv => FC.of_runG tabOK eqsOK (env46 n) (par46 n) mixed (fun _ p _ => noScope_ok p.1 p.2) Tryz.func46 (c := c46) (an := an46) (pks := pk46) (rks := rk46) (by kernel_rfl) (by kernel_rfl) hv ((S46_run n xs).symm.trans h)
/- cmp.isNaN[int] -/
abbrev R62 := Bool
noncomputable def c62 : Code := bodyOf Tryz.f62
noncomputable def an62 : Ann := .l
def pk62 : List PK := [.c (.int .i64)]
def rk62 : List RK := [.c .bool 2]
noncomputable def rt62 (st : St) : Option R62 := rtG rk62 st
noncomputable def E62 (n : Nat × Nat) : Env := { T := tab, phi := noPhi, eff := fun _ => false, fuel := n.1, hold := n.2 }
noncomputable def S62 (n : Nat × Nat) (x0 : Int) : Option R62 := run (E62 n) c62 an62 rt62 (fun _ _ => none) rt62 { tm := [.c (.int .i64 x0), uu, uu, uu, uu, uu], hp := emp }
theorem S62_eq (n : Nat × Nat) (x0 : Int) : S62 n x0 =
 some (x0 != x0) := by kernel_rfl
theorem S62_run (n : Nat × Nat) (xs : pksDen pk62) : S62 n xs.1 = runG (E62 n) noScope c62 an62 (rtG rk62) (fun _ _ => none) (rtG rk62) (st0 pk62 xs Tryz.f62.ntmps) := by kernel_rfl
noncomputable def P62 (n : Nat × Nat) := phiOf pk62 rk62 (fun xs => S62 n xs.1)
theorem call62 : CallOK Tryz.prog 62 := callOK_of Tryz.func62 (by kernel_rfl) (by kernel_rfl)
theorem env62 (n : Nat × Nat) : EnvOK Tryz.prog (E62 n) := envOK0 noPhi_ok rfl rfl
theorem par62 (n : Nat × Nat) : EnvPar (E62 n) := envPar0 noPhi_par rfl
theorem FC62 (n : Nat × Nat) : FCs Tryz.prog 62 (P62 n) := phiOf_FCs fun xs r h vs hv => FC.of_runG tabOK eqsOK (env62 n) (par62 n) mixed (fun _ p _ => noScope_ok p.1 p.2) Tryz.func62 (c := c62) (an := an62) (pks := pk62) (rks := rk62) (by kernel_rfl) (by kernel_rfl) hv ((S62_run n xs).symm.trans h)
/- cmp.Compare[int] -/
abbrev R54 := Int
noncomputable def c54 : Code := bodyOf Tryz.f54
noncomputable def an54 : Ann := (.s .l (.s .l (.s .l (.s (.s .l (.j [0, 1, 6] (.s (.s .l (.j [] .l .l)) .l) .l)) (.s (.s .l (.j [0, 1] .l .l)) (.s (.s .l (.j [0, 1] .l .l)) (.s (.s .l (.j [] .l .l)) .l)))))))
def pk54 : List PK := [.c (.int .i64), .c (.int .i64)]
def rk54 : List RK := [.c (.int .i64) 4]
noncomputable def rt54 (st : St) : Option R54 := rtG rk54 st
noncomputable def E54 (n : Nat × Nat) : Env := { T := tab, phi := (consPhi 62 (fun _ => true) (P62 n) noPhi), eff := fun _ => false, fuel := n.1, hold := n.2 }
noncomputable def S54 (n : Nat × Nat) (x0 : Int) (y1 : Int) : Option R54 := run (E54 n) c54 an54 rt54 (fun _ _ => none) rt54 { tm := [.c (.int .i64 x0), .c (.int .i64 y1), uu, uu, uu, uu, uu, uu, uu, uu, uu, uu, uu, uu, uu, uu, uu, uu, uu, uu], hp := emp }
theorem S54_eq (n : Nat × Nat) (x0 : Int) (y1 : Int) : S54 n x0 y1 =
 (S62 n x0).bind fun r1' =>
 (S62 n y1).bind fun r2' =>
 (bif r1' then (bif r2' then some 0
 else some (-1))
 else (bif r2' then some 1
 else (bif decide (x0 < y1) then some (-1)
 else (bif decide (x0 > y1) then some 1
 else some 0)))) := by kernel_rfl
theorem S54_run (n : Nat × Nat) (xs : pksDen pk54) : S54 n xs.1 xs.2.1 = runG (E54 n) noScope c54 an54 (rtG rk54) (fun _ _ => none) (rtG rk54) (st0 pk54 xs Tryz.f54.ntmps) := by kernel_rfl
noncomputable def P54 (n : Nat × Nat) := phiOf pk54 rk54 (fun xs => S54 n xs.1 xs.2.1)
theorem call54 : CallOK Tryz.prog 54 := callOK_of Tryz.func54 (by kernel_rfl) (by kernel_rfl)
theorem env54 (n : Nat × Nat) : EnvOK Tryz.prog (E54 n) := envOK0 (consPhi_ok (FC62 n) call62 noPhi_ok) rfl rfl
theorem par54 (n : Nat × Nat) : EnvPar (E54 n) := envPar0 (consPhi_par phiOf_Par1 noPhi_par) rfl
theorem FC54 (n : Nat × Nat) : FCs Tryz.prog 54 (P54 n) := phiOf_FCs fun xs r h vs hv => FC.of_runG tabOK eqsOK (env54 n) (par54 n) mixed (fun _ p _ => noScope_ok p.1 p.2) Tryz.func54 (c := c54) (an := an54) (pks := pk54) (rks := rk54) (by kernel_rfl) (by kernel_rfl) hv ((S54_run n xs).symm.trans h)
/- slices.Compare[[]int,int] -/
abbrev R47 := Int
noncomputable def c47 : Code := bodyOf Tryz.f47
noncomputable def an47 : Ann := (.s .l (.s (.s .l (.j [0, 1] (.j [0, 1, 9, 10, 11] (.s .l (.s (.j [0, 1, 9, 10, 11] .l .l) (.s (.j [0, 1, 9, 10, 11] (.s .l (.s (.s .l (.j [0, 1, 5, 6, 9, 10, 11] .l .l)) (.s .l (.s .l (.s .l (.j [0, 1, 9, 10, 11] .l .l)))))) .l) .l))) .l) .l)) (.s (.s .l (.j [] .l .l)) .l)))
def pk47 : List PK := [.c (.sl (.int .i64)), .c (.sl (.int .i64))]
def rk47 : List RK := [.c (.int .i64) 4]
noncomputable def rt47 (st : St) : Option R47 := rtG rk47 st
noncomputable def E47 (n : Nat × Nat) : Env := { T := tab, phi := (consPhi 54 (fun _ => true) (P54 n) noPhi), eff := fun _ => false, fuel := n.1, hold := n.2 }
noncomputable def kq47_1 (n : Nat × Nat) : St → Option R47 := run (E47 n) (cB (cB c47)) (Ann.snd (Ann.snd an47)) rt47 (fun _ _ => none) rt47
noncomputable def xb47_3 (n : Nat × Nat) : Nat → St → Option R47 := fun j s => bif Nat.beq j 0 then normC [0, 1] s (kq47_1 n) else (fun _ _ => none) j s
noncomputable def F47_4 (n : Nat × Nat) : (St → Option R47) → St → Option R47 := fun K s => run (E47 n) (cA (cA (cB (cA (cB c47))))) (Ann.fst (Ann.fst (Ann.snd (Ann.fst (Ann.snd an47))))) (fun s => normC [0, 1, 9, 10, 11] s K) (xb47_3 n) rt47 s
noncomputable def L47_1 (n : Nat × Nat) (m : Nat) (s10 : List Int) (s21 : List Int) (v9 : List Int) (v10 : Int) (v11 : Int) : Option R47 := loopN (F47_4 n) m { tm := [.c (.sl (.int .i64) s10 false), .c (.sl (.int .i64) s21 false), uu, uu, uu, uu, uu, uu, uu, .c (.sl (.int .i64) v9 false), .c (.int .i64 v10), .c (.int .i64 v11), uu, uu, uu, uu, uu, uu, uu, uu, uu, uu, uu, uu, uu, uu, uu, uu, uu, uu, uu, uu, uu, uu, uu, uu], hp := emp }
theorem L47_1_eq (n : Nat × Nat) (m1 : Nat) (s10 : List Int) (s21 : List Int) (v9 : List Int) (v10 : Int) (v11 : Int) : L47_1 n (m1 + 1) s10 s21 v9 v10 v11 =
 (bif decide (v11 < v10) then (idx v9 v11).bind fun x1' =>
 (bif decide (v11 ≥ (s21.length : Int)) then some 1
 else (idx s21 v11).bind fun x2' =>
 (S54 n x1' x2').bind fun r3' =>
 (bif (r3' != 0) then some r3'
 else L47_1 n m1 s10 s21 v9 v10 (wr .i64 (v11 + 1))))
 else (bif decide ((s10.length : Int) < (s21.length : Int)) then some (-1)
 else some 0)) := by kernel_rfl
noncomputable def S47 (n : Nat × Nat) (s10 : List Int) (s21 : List Int) : Option R47 := run (E47 n) c47 an47 rt47 (fun _ _ => none) rt47 { tm := [.c (.sl (.int .i64) s10 false), .c (.sl (.int .i64) s21 false), uu, uu, uu, uu, uu, uu, uu, uu, uu, uu, uu, uu, uu, uu, uu, uu, uu, uu, uu, uu, uu, uu, uu, uu, uu, uu, uu, uu, uu, uu, uu, uu, uu, uu], hp := emp }
theorem S47_eq (n : Nat × Nat) (s10 : List Int) (s21 : List Int) : S47 n s10 s21 =
    L47_1 n n.1 s10 s21 s10 (s10.length : Int) 0 := by kernel_rfl
theorem S47_run (n : Nat × Nat) (xs : pksDen pk47) : S47 n xs.1 xs.2.1 = runG (E47 n) noScope c47 an47 (rtG rk47) (fun _ _ => none) (rtG rk47) (st0 pk47 xs Tryz.f47.ntmps) := by kernel_rfl
noncomputable def P47 (n : Nat × Nat) := phiOf pk47 rk47 (fun xs => S47 n xs.1 xs.2.1)
theorem call47 : CallOK Tryz.prog 47 := callOK_of Tryz.func47 (by kernel_rfl) (by kernel_rfl)
theorem env47 (n : Nat × Nat) : EnvOK Tryz.prog (E47 n) := envOK0 (consPhi_ok (FC54 n) call54 noPhi_ok) rfl rfl
theorem par47 (n : Nat × Nat) : EnvPar (E47 n) := envPar0 (consPhi_par phiOf_Par1 noPhi_par) rfl
theorem FC47 (n : Nat × Nat) : FCs Tryz.prog 47 (P47 n) := phiOf_FCs fun xs r h vs hv => FC.of_runG tabOK eqsOK (env47 n) (par47 n) mixed (fun _ p _ => noScope_ok p.1 p.2) Tryz.func47 (c := c47) (an := an47) (pks := pk47) (rks := rk47) (by kernel_rfl) (by kernel_rfl) hv ((S47_run n xs).symm.trans h)
abbrev R40 := List Int × Int
noncomputable def c40 : Code := bodyOf Tryz.f40
noncomputable def an40 : Ann := (.s .l (.s (.s .l (.s .l (.j [0, 41, 42, 43, 44, 51, 52, 53, 54, 55, 56, 57, 58, 59, 60, 61, 62, 63, 64, 65, 66, 67, 68, 69, 70, 71, 72] .l .l))) (.s .l (.s (.s .l (.j [5] (.j [0, 5, 19, 20, 41, 42, 43, 44, 51, 52, 53, 54, 55, 56, 57, 58, 59, 60, 61, 62, 63, 64, 65, 66, 67, 68, 69, 70, 71, 72] (.s .l (.s (.j [0, 5, 19, 20, 41, 42, 43, 44, 51, 52, 53, 54, 55, 56, 57, 58, 59, 60, 61, 62, 63, 64, 65, 66, 67, 68, 69, 70, 71, 72] .l .l) (.j [] (.j [0, 5, 19, 20, 41, 42, 43, 44, 51, 52, 53, 54, 55, 56, 57, 58, 59, 60, 61, 62, 63, 64, 65, 66, 67, 68, 69, 70, 71, 72] (.s .l (.s .l (.s .l (.s .l (.s (.s .l (.j [0, 5, 7, 9, 19, 20, 41, 42, 43, 44, 51, 52, 53, 54, 55, 56, 57, 58, 59, 60, 61, 62, 63, 64, 65, 66, 67, 68, 69, 70, 71, 72] (.j [0, 5, 6, 7, 8, 9, 19, 20, 23, 24, 25, 41, 42, 43, 44, 51, 52, 53, 54, 55, 56, 57, 58, 59, 60, 61, 62, 63, 64, 65, 66, 67, 68, 69, 70, 71, 72] (.s .l (.s (.j [0, 5, 6, 7, 8, 9, 19, 20, 23, 24, 25, 41, 42, 43, 44, 51, 52, 53, 54, 55, 56, 57, 58, 59, 60, 61, 62, 63, 64, 65, 66, 67, 68, 69, 70, 71, 72] .l .l) (.j [] (.j [0, 5, 6, 7, 8, 9, 19, 20, 23, 24, 25, 41, 42, 43, 44, 51, 52, 53, 54, 55, 56, 57, 58, 59, 60, 61, 62, 63, 64, 65, 66, 67, 68, 69, 70, 71, 72] (.s .l (.s (.s .l (.j [0, 5, 6, 7, 8, 9, 11, 19, 20, 23, 24, 25, 41, 42, 43, 44, 51, 52, 53, 54, 55, 56, 57, 58, 59, 60, 61, 62, 63, 64, 65, 66, 67, 68, 69, 70, 71, 72] .l .l)) .l)) .l) .l))) .l) .l)) (.s .l (.j [0, 5, 19, 20, 41, 42, 43, 44, 51, 52, 53, 54, 55, 56, 57, 58, 59, 60, 61, 62, 63, 64, 65, 66, 67, 68, 69, 70, 71, 72] (.s .l (.s .l (.j [0, 5, 19, 20, 41, 42, 43, 44, 51, 52, 53, 54, 55, 56, 57, 58, 59, 60, 61, 62, 63, 64, 65, 66, 67, 68, 69, 70, 71, 72] .l .l))) .l))))))) .l) .l))) .l) .l)) .l))))
def pk40 : List PK := [.c (.sl (.pair (.int .i64) (.int .i64)))]
def rk40 : List RK := [.own (.int .i64) 2, .c (.int .i64) 3]
noncomputable def rt40 (st : St) : Option R40 := rtG rk40 st
noncomputable def E40 (n : Nat × Nat) : Env := { T := tabN, phi := (consPhi 46 (fun _ => true) (P46 n) (consPhi 47 (fun _ => true) (P47 n) noPhi)), eff := fun _ => false, fuel := n.1, hold := n.2 }
noncomputable def kq40_3 (n : Nat × Nat) : St → Option R40 := run (E40 n) (cB (cB (cB (cB c40)))) (Ann.snd (Ann.snd (Ann.snd (Ann.snd an40)))) rt40 (fun _ _ => none) rt40
noncomputable def xb40_5 (n : Nat × Nat) : Nat → St → Option R40 := fun j s => bif Nat.beq j 0 then normC [5] s (kq40_3 n) else (fun _ _ => none) j s
noncomputable def F40_6 (n : Nat × Nat) : (St → Option R40) → St → Option R40 := fun K s => run (E40 n) (cA (cA (cB (cA (cB (cB (cB c40))))))) (Ann.fst (Ann.fst (Ann.snd (Ann.fst (Ann.snd (Ann.snd (Ann.snd an40))))))) (fun s => normC [0, 5, 19, 20, 41, 42, 43, 44, 51, 52, 53, 54, 55, 56, 57, 58, 59, 60, 61, 62, 63, 64, 65, 66, 67, 68, 69, 70, 71, 72] s K) (xb40_5 n) rt40 s
noncomputable def kq40_9 (n : Nat × Nat) (m1 : Nat) : St → Option R40 := run (E40 n) (cB (cB (cB (cA (cA (cB (cA (cB (cB (cB c40)))))))))) (Ann.snd (Ann.snd (Ann.snd (Ann.fst (Ann.fst (Ann.snd (Ann.fst (Ann.snd (Ann.snd (Ann.snd an40)))))))))) (fun s => normC [0, 5, 19, 20, 41, 42, 43, 44, 51, 52, 53, 54, 55, 56, 57, 58, 59, 60, 61, 62, 63, 64, 65, 66, 67, 68, 69, 70, 71, 72] s (loopN (F40_6 n) m1)) (xb40_5 n) rt40
noncomputable def kc40_10 (n : Nat × Nat) (m1 : Nat) : St → Option R40 := fun s => normC [0, 5, 19, 20, 41, 42, 43, 44, 51, 52, 53, 54, 55, 56, 57, 58, 59, 60, 61, 62, 63, 64, 65, 66, 67, 68, 69, 70, 71, 72] s (loopN (fun _ => (kq40_9 n m1)) n.2)
noncomputable def xb40_11 (n : Nat × Nat) (m1 : Nat) : Nat → St → Option R40 := fun j s => bif Nat.beq j 1 then normC [0, 5, 19, 20, 41, 42, 43, 44, 51, 52, 53, 54, 55, 56, 57, 58, 59, 60, 61, 62, 63, 64, 65, 66, 67, 68, 69, 70, 71, 72] s (loopN (fun _ => (kq40_9 n m1)) n.2) else (xb40_5 n) j s
noncomputable def kq40_12 (n : Nat × Nat) (m1 : Nat) : St → Option R40 := run (E40 n) (cB (cB (cB (cB (cB (cA (cA (cB (cB (cA (cA (cB (cA (cB (cB (cB c40)))))))))))))))) (Ann.snd (Ann.snd (Ann.snd (Ann.snd (Ann.snd (Ann.fst (Ann.fst (Ann.snd (Ann.snd (Ann.fst (Ann.fst (Ann.snd (Ann.fst (Ann.snd (Ann.snd (Ann.snd an40)))))))))))))))) (kc40_10 n m1) (xb40_11 n m1) rt40
noncomputable def xb40_14 (n : Nat × Nat) (m1 : Nat) : Nat → St → Option R40 := fun j s => bif Nat.beq j 2 then normC [0, 5, 7, 9, 19, 20, 41, 42, 43, 44, 51, 52, 53, 54, 55, 56, 57, 58, 59, 60, 61, 62, 63, 64, 65, 66, 67, 68, 69, 70, 71, 72] s (kq40_12 n m1) else (xb40_11 n m1) j s
noncomputable def F40_15 (n : Nat × Nat) (m1 : Nat) : (St → Option R40) → St → Option R40 := fun K s => run (E40 n) (cA (cA (cB (cA (cB (cB (cB (cB (cA (cA (cB (cB (cA (cA (cB (cA (cB (cB (cB c40))))))))))))))))))) (Ann.fst (Ann.fst (Ann.snd (Ann.fst (Ann.snd (Ann.snd (Ann.snd (Ann.snd (Ann.fst (Ann.fst (Ann.snd (Ann.snd (Ann.fst (Ann.fst (Ann.snd (Ann.fst (Ann.snd (Ann.snd (Ann.snd an40))))))))))))))))))) (fun s => normC [0, 5, 6, 7, 8, 9, 19, 20, 23, 24, 25, 41, 42, 43, 44, 51, 52, 53, 54, 55, 56, 57, 58, 59, 60, 61, 62, 63, 64, 65, 66, 67, 68, 69, 70, 71, 72] s K) (xb40_14 n m1) rt40 s
noncomputable def kq40_18 (n : Nat × Nat) (m1 m2 : Nat) : St → Option R40 := run (E40 n) (cB (cB (cB (cA (cA (cB (cA (cB (cB (cB (cB (cA (cA (cB (cB (cA (cA (cB (cA (cB (cB (cB c40)))))))))))))))))))))) (Ann.snd (Ann.snd (Ann.snd (Ann.fst (Ann.fst (Ann.snd (Ann.fst (Ann.snd (Ann.snd (Ann.snd (Ann.snd (Ann.fst (Ann.fst (Ann.snd (Ann.snd (Ann.fst (Ann.fst (Ann.snd (Ann.fst (Ann.snd (Ann.snd (Ann.snd an40)))))))))))))))))))))) (fun s => normC [0, 5, 6, 7, 8, 9, 19, 20, 23, 24, 25, 41, 42, 43, 44, 51, 52, 53, 54, 55, 56, 57, 58, 59, 60, 61, 62, 63, 64, 65, 66, 67, 68, 69, 70, 71, 72] s (loopN (F40_15 n m1) m2)) (xb40_14 n m1) rt40
noncomputable def L40_1 (n : Nat × Nat) (m : Nat) (l0 : List (Int × Int)) (v19 : Int) (v20 : Int) (best5 : List Int) : Option R40 := loopN (F40_6 n) m { tm := [.c (.sl (.pair (.int .i64) (.int .i64)) l0 false), uu, uu, uu, uu, .own 5 none false, uu, uu, uu, uu, uu, uu, uu, uu, uu, uu, uu, uu, uu, .c (.int .i64 v19), .c (.int .i64 v20), uu, uu, uu, uu, uu, uu, uu, uu, uu, uu, uu, uu, uu, uu, uu, uu, uu, uu, uu, uu, uu, uu, uu, uu, uu, uu, uu, uu, uu, uu, uu, uu, uu, uu, uu, uu, uu, uu, uu, uu, uu, uu, uu, uu, uu, uu, uu, uu, uu, uu, uu, uu, uu, uu, uu, uu, uu, uu], hp := (upd emp 5 (.arr (.int .i64) best5 true)) }
noncomputable def L40_2 (n : Nat × Nat) (m1 : Nat) (m : Nat) (l0 : List (Int × Int)) (v6 : Int) (v8 : Int) (good9 : Bool) (v19 : Int) (v20 : Int) (v23 : List (Int × Int)) (v24 : Int) (v25 : Int) (best5 : List Int) (out7 : List Int) : Option R40 := loopN (F40_15 n m1) m { tm := [.c (.sl (.pair (.int .i64) (.int .i64)) l0 false), uu, uu, uu, uu, .own 5 none false, .c (.int .i64 v6), .own 7 none false, .c (.int .i64 v8), .c (.bool good9), uu, uu, uu, uu, uu, uu, uu, uu, uu, .c (.int .i64 v19), .c (.int .i64 v20), uu, uu, .c (.sl (.pair (.int .i64) (.int .i64)) v23 false), .c (.int .i64 v24), .c (.int .i64 v25), uu, uu, uu, uu, uu, uu, uu, uu, uu, uu, uu, uu, uu, uu, uu, uu, uu, uu, uu, uu, uu, uu, uu, uu, uu, uu, uu, uu, uu, uu, uu, uu, uu, uu, uu, uu, uu, uu, uu, uu, uu, uu, uu, uu, uu, uu, uu, uu, uu, uu, uu, uu, uu], hp := (upd (upd emp 7 (.arr (.int .i64) out7 true)) 5 (.arr (.int .i64) best5 true)) }
noncomputable def L40_3 (n : Nat × Nat) (m1 m2 : Nat) (l0 : List (Int × Int)) (v6 : Int) (v8 : Int) (good9 : Bool) (v19 : Int) (v20 : Int) (v23 : List (Int × Int)) (v24 : Int) (v25 : Int) (best5 : List Int) (out7 : List Int) : Option R40 := loopN (fun _ => (kq40_18 n m1 m2)) n.2 { tm := [.c (.sl (.pair (.int .i64) (.int .i64)) l0 false), uu, uu, uu, uu, .own 5 none false, .c (.int .i64 v6), .own 7 none false, .c (.int .i64 v8), .c (.bool good9), uu, uu, uu, uu, uu, uu, uu, uu, uu, .c (.int .i64 v19), .c (.int .i64 v20), uu, uu, .c (.sl (.pair (.int .i64) (.int .i64)) v23 false), .c (.int .i64 v24), .c (.int .i64 v25), uu, uu, uu, uu, uu, uu, uu, uu, uu, uu, uu, uu, uu, uu, uu, uu, uu, uu, uu, uu, uu, uu, uu, uu, uu, uu, uu, uu, uu, uu, uu, uu, uu, uu, uu, uu, uu, uu, uu, uu, uu, uu, uu, uu, uu, uu, uu, uu, uu, uu, uu, uu, uu], hp := (upd (upd emp 7 (.arr (.int .i64) out7 true)) 5 (.arr (.int .i64) best5 true)) }
noncomputable def L40_4 (n : Nat × Nat) (m1 : Nat) (l0 : List (Int × Int)) (v19 : Int) (v20 : Int) (best5 : List Int) : Option R40 := loopN (fun _ => (kq40_9 n m1)) n.2 { tm := [.c (.sl (.pair (.int .i64) (.int .i64)) l0 false), uu, uu, uu, uu, .own 5 none false, uu, uu, uu, uu, uu, uu, uu, uu, uu, uu, uu, uu, uu, .c (.int .i64 v19), .c (.int .i64 v20), uu, uu, uu, uu, uu, uu, uu, uu, uu, uu, uu, uu, uu, uu, uu, uu, uu, uu, uu, uu, uu, uu, uu, uu, uu, uu, uu, uu, uu, uu, uu, uu, uu, uu, uu, uu, uu, uu, uu, uu, uu, uu, uu, uu, uu, uu, uu, uu, uu, uu, uu, uu, uu, uu, uu, uu, uu, uu], hp := (upd emp 5 (.arr (.int .i64) best5 true)) }
theorem L40_1_eq (n : Nat × Nat) (m1 : Nat) (l0 : List (Int × Int)) (v19 : Int) (v20 : Int) (best5 : List Int) : L40_1 n (m1 + 1) l0 v19 v20 best5 =
 (bif decide (v20 < v19) then L40_2 n m1 n.1 l0 v20 (-1) true v19 v20 l0 (l0.length : Int) 0 best5 []
 else some (best5, 0)) := by kernel_rfl
theorem L40_2_eq (n : Nat × Nat) (m1 m2 : Nat) (l0 : List (Int × Int)) (v6 : Int) (v8 : Int) (good9 : Bool) (v19 : Int) (v20 : Int) (v23 : List (Int × Int)) (v24 : Int) (v25 : Int) (best5 : List Int) (out7 : List Int) : L40_2 n m1 (m2 + 1) l0 v6 v8 good9 v19 v20 v23 v24 v25 best5 out7 =
 (bif decide (v25 < v24) then (idx v23 v25).bind fun x2' =>
 (bif decide (v25 < 0) then none
 else (bif ((wr .i64 (BitVec.ofInt (IntKind.bits .i64) (Int.fdiv v6 (2 ^ (min (Int.toNat v25) (IntKind.bits .i64)))) &&& BitVec.ofInt (IntKind.bits .i64) 1).toNat) == 1) then (bif decide (out7.length + [v25].length ≤ lim) then L40_3 n m1 m2 l0 v6 v8 good9 v19 v20 v23 v24 v25 best5 (out7 ++ [v25])
 else none)
 else ((bif (good9 == true) then some (decide (x2'.1 ≥ v8))
 else some false)).bind fun b3' =>
          L40_3 n m1 m2 l0 v6 x2'.1 b3' v19 v20 v23 v24 v25 best5 out7))
 else ((bif (good9 == true) then ((bif (best5.isEmpty == false) then some (decide ((out7.length : Int) < (best5.length : Int)))
 else some true)).bind fun b4' =>
 ((bif (b4' == false) then ((bif (((out7.length : Int) == (best5.length : Int)) == true) then (S47 n out7 best5).bind fun r5' =>
 some (decide (r5' < 0))
 else some false)).bind fun b6' =>
 some b6'
 else some true)).bind fun b7' =>
 some b7'
 else some false)).bind fun b8' =>
 (bif b8' then (bif out7.isEmpty then some ([], 0)
 else L40_4 n m1 l0 v19 v20 out7)
 else L40_4 n m1 l0 v19 v20 best5)) := by kernel_rfl
theorem L40_3_raw (n : Nat × Nat) (m1 m2 : Nat) (l0 : List (Int × Int)) (v6 : Int) (v8 : Int) (good9 : Bool) (v19 : Int) (v20 : Int) (v23 : List (Int × Int)) (v24 : Int) (v25 : Int) (best5 : List Int) (out7 : List Int) : (kq40_18 n m1 m2) { tm := [.c (.sl (.pair (.int .i64) (.int .i64)) l0 false), uu, uu, uu, uu, .own 5 none false, .c (.int .i64 v6), .own 7 none false, .c (.int .i64 v8), .c (.bool good9), uu, uu, uu, uu, uu, uu, uu, uu, uu, .c (.int .i64 v19), .c (.int .i64 v20), uu, uu, .c (.sl (.pair (.int .i64) (.int .i64)) v23 false), .c (.int .i64 v24), .c (.int .i64 v25), uu, uu, uu, uu, uu, uu, uu, uu, uu, uu, uu, uu, uu, uu, uu, uu, uu, uu, uu, uu, uu, uu, uu, uu, uu, uu, uu, uu, uu, uu, uu, uu, uu, uu, uu, uu, uu, uu, uu, uu, uu, uu, uu, uu, uu, uu, uu, uu, uu, uu, uu, uu, uu], hp := (upd (upd emp 7 (.arr (.int .i64) out7 true)) 5 (.arr (.int .i64) best5 true)) } =
    L40_2 n m1 m2 l0 v6 v8 good9 v19 v20 v23 v24 (wr .i64 (v25 + 1)) best5 out7 := by kernel_rfl
theorem L40_4_raw (n : Nat × Nat) (m1 : Nat) (l0 : List (Int × Int)) (v19 : Int) (v20 : Int) (best5 : List Int) : (kq40_9 n m1) { tm := [.c (.sl (.pair (.int .i64) (.int .i64)) l0 false), uu, uu, uu, uu, .own 5 none false, uu, uu, uu, uu, uu, uu, uu, uu, uu, uu, uu, uu, uu, .c (.int .i64 v19), .c (.int .i64 v20), uu, uu, uu, uu, uu, uu, uu, uu, uu, uu, uu, uu, uu, uu, uu, uu, uu, uu, uu, uu, uu, uu, uu, uu, uu, uu, uu, uu, uu, uu, uu, uu, uu, uu, uu, uu, uu, uu, uu, uu, uu, uu, uu, uu, uu, uu, uu, uu, uu, uu, uu, uu, uu, uu, uu, uu, uu, uu], hp := (upd emp 5 (.arr (.int .i64) best5 true)) } =
    L40_1 n m1 l0 v19 (wr .i64 (v20 + 1)) best5 := by kernel_rfl
noncomputable def S40 (n : Nat × Nat) (l0 : List (Int × Int)) : Option R40 := run (E40 n) c40 an40 rt40 (fun _ _ => none) rt40 { tm := [.c (.sl (.pair (.int .i64) (.int .i64)) l0 false), uu, uu, uu, uu, uu, uu, uu, uu, uu, uu, uu, uu, uu, uu, uu, uu, uu, uu, uu, uu, uu, uu, uu, uu, uu, uu, uu, uu, uu, uu, uu, uu, uu, uu, uu, uu, uu, uu, uu, uu, uu, uu, uu, uu, uu, uu, uu, uu, uu, uu, uu, uu, uu, uu, uu, uu, uu, uu, uu, uu, uu, uu, uu, uu, uu, uu, uu, uu, uu, uu, uu, uu, uu, uu, uu, uu, uu, uu], hp := emp }
theorem S40_eq (n : Nat × Nat) (l0 : List (Int × Int)) : S40 n l0 =
 (S46 n l0).bind fun r1' =>
 (bif (r1' != 0) then some ([], r1')
 else (bif decide ((l0.length : Int) < 0) then none
 else L40_1 n n.1 l0 (wr .i64 (1 * 2 ^ (min (Int.toNat (l0.length : Int)) (IntKind.bits .i64)))) 0 [])) := by kernel_rfl
theorem S40_run (n : Nat × Nat) (xs : pksDen pk40) : S40 n xs.1 = runG (E40 n) noScope c40 an40 (rtG rk40) (fun _ _ => none) (rtG rk40) (st0 pk40 xs Tryz.f40.ntmps) := by kernel_rfl
noncomputable def P40 (n : Nat × Nat) := phiOf pk40 rk40 (fun xs => S40 n xs.1)
theorem call40 : CallOK Tryz.prog 40 := callOK_of Tryz.func40 (by kernel_rfl) (by kernel_rfl)
theorem env40 (n : Nat × Nat) : EnvOK Tryz.prog (E40 n) := envOK0 (consPhi_ok (FC46 n) call46 (consPhi_ok (FC47 n) call47 noPhi_ok)) rfl rfl
theorem par40 (n : Nat × Nat) : EnvPar (E40 n) := envPar0 (consPhi_par phiOf_Par1 (consPhi_par phiOf_Par1 noPhi_par)) rfl
theorem FC40 (n : Nat × Nat) : FCs Tryz.prog 40 (P40 n) := phiOf_FCs fun xs r h vs hv => FC.of_runG tabNOK eqsNOK (env40 n) (par40 n) mixed (fun _ p _ => noScope_ok p.1 p.2) Tryz.func40 (c := c40) (an := an40) (pks := pk40) (rks := rk40) (by kernel_rfl) (by kernel_rfl) hv ((S40_run n xs).symm.trans h)
abbrev R16 := Bool
noncomputable def c16 : Code := bodyOf Tryz.f16
noncomputable def an16 : Ann := (.s .l (.s (.s .l (.j [0, 1] .l .l)) (.s (.s .l (.j [] (.j [0, 1, 12, 13] (.s .l (.s (.j [0, 1, 12, 13] .l .l) (.s (.j [0, 1, 12, 13] (.s .l (.s .l (.j [0, 1, 12, 13] .l .l))) .l) .l))) .l) .l)) .l)))
def pk16 : List PK := [.c (.sl (.int .i64)), .c (.sl (.int .i64))]
def rk16 : List RK := [.c .bool 4]
noncomputable def rt16 (st : St) : Option R16 := rtG rk16 st
noncomputable def E16 (n : Nat × Nat) : Env := { T := tab, phi := noPhi, eff := fun _ => false, fuel := n.1, hold := n.2 }
noncomputable def kq16_3 (n : Nat × Nat) : St → Option R16 := run (E16 n) (cB (cB (cB c16))) (Ann.snd (Ann.snd (Ann.snd an16))) rt16 (fun _ _ => none) rt16
noncomputable def xb16_5 (n : Nat × Nat) : Nat → St → Option R16 := fun j s => bif Nat.beq j 0 then normC [] s (kq16_3 n) else (fun _ _ => none) j s
noncomputable def F16_6 (n : Nat × Nat) : (St → Option R16) → St → Option R16 := fun K s => run (E16 n) (cA (cA (cB (cA (cB (cB c16)))))) (Ann.fst (Ann.fst (Ann.snd (Ann.fst (Ann.snd (Ann.snd an16)))))) (fun s => normC [0, 1, 12, 13] s K) (xb16_5 n) rt16 s
noncomputable def L16_1 (n : Nat × Nat) (m : Nat) (a0 : List Int) (b1 : List Int) (v12 : Int) (v13 : Int) : Option R16 := loopN (F16_6 n) m { tm := [.c (.sl (.int .i64) a0 false), .c (.sl (.int .i64) b1 false), uu, uu, uu, uu, uu, uu, uu, uu, uu, uu, .c (.int .i64 v12), .c (.int .i64 v13), uu, uu, uu, uu, uu, uu, uu, uu, uu, uu, uu, uu], hp := emp }
theorem L16_1_eq (n : Nat × Nat) (m1 : Nat) (a0 : List Int) (b1 : List Int) (v12 : Int) (v13 : Int) : L16_1 n (m1 + 1) a0 b1 v12 v13 =
 (bif decide (v13 < v12) then (idx a0 v13).bind fun x1' =>
 (idx b1 v13).bind fun x2' =>
 (bif (x1' != x2') then some false
 else L16_1 n m1 a0 b1 v12 (wr .i64 (v13 + 1)))
 else some true) := by kernel_rfl
noncomputable def S16 (n : Nat × Nat) (a0 : List Int) (b1 : List Int) : Option R16 := run (E16 n) c16 an16 rt16 (fun _ _ => none) rt16 { tm := [.c (.sl (.int .i64) a0 false), .c (.sl (.int .i64) b1 false), uu, uu, uu, uu, uu, uu, uu, uu, uu, uu, uu, uu, uu, uu, uu, uu, uu, uu, uu, uu, uu, uu, uu, uu], hp := emp }
theorem S16_eq (n : Nat × Nat) (a0 : List Int) (b1 : List Int) : S16 n a0 b1 =
 (bif ((a0.length : Int) != (b1.length : Int)) then some false
 else L16_1 n n.1 a0 b1 (a0.length : Int) 0) := by kernel_rfl
theorem S16_run (n : Nat × Nat) (xs : pksDen pk16) : S16 n xs.1 xs.2.1 = runG (E16 n) noScope c16 an16 (rtG rk16) (fun _ _ => none) (rtG rk16) (st0 pk16 xs Tryz.f16.ntmps) := by kernel_rfl
noncomputable def P16 (n : Nat × Nat) := phiOf pk16 rk16 (fun xs => S16 n xs.1 xs.2.1)
theorem call16 : CallOK Tryz.prog 16 := callOK_of Tryz.func16 (by kernel_rfl) (by kernel_rfl)
theorem env16 (n : Nat × Nat) : EnvOK Tryz.prog (E16 n) := envOK0 noPhi_ok rfl rfl
theorem par16 (n : Nat × Nat) : EnvPar (E16 n) := envPar0 noPhi_par rfl
theorem FC16 (n : Nat × Nat) : FCs Tryz.prog 16 (P16 n) := phiOf_FCs fun xs r h vs hv => FC.of_runG tabOK eqsOK (env16 n) (par16 n) mixed (fun _ p _ => noScope_ok p.1 p.2) Tryz.func16 (c := c16) (an := an16) (pks := pk16) (rks := rk16) (by kernel_rfl) (by kernel_rfl) hv ((S16_run n xs).symm.trans h)
end Go.Proofs.YtkfkbebinhkdlaaGreatDoor
set_option linter.unusedVariables false
set_option linter.unusedSimpArgs false
set_option maxRecDepth 100000
namespace Go.Proofs.YtkfkbebinhkdlaaGreatDoor
open Go.RowKit Go.Shelf
attribute [local go_sem] Oper.semAt_some
/-- What a round keeps: what lay below n₀, and the box that holds the slice. -/
def KpB (n₀ Bs : Nat) (W W' : World) : Prop := Below n₀ W W' ∧ W'.heap[Bs]? = W.heap[Bs]?
theorem KpB.refl (n₀ Bs : Nat) (W : World) : KpB n₀ Bs W W := ⟨Below.refl _ _, rfl⟩
theorem KpB.trans {n₀ Bs : Nat} {A B C : World} (h : KpB n₀ Bs A B) (k : KpB n₀ Bs B C) : KpB n₀ Bs A C := ⟨h.1.trans k.1, k.2.trans h.2⟩
theorem KpB.b {w : World} {n₀ Bs : Nat} (hn : n₀ ≤ w.heap.size) (hb : Bs < w.heap.size) (W : World) (l : Nat) (o o' : Obj) (hl : w.heap.size ≤ l) (ho : W.heap[l]? = some o) (hc : o.isCells = false) (hw : o.isWalk = false) : KpB n₀ Bs W (W.putObj l o') :=
  ⟨belowK_b hn W l o o' hl ho hc hw, World.putObj_heap_other (by omega)⟩
end Go.Proofs.YtkfkbebinhkdlaaGreatDoor
/-
  What the walks by hand share: blocks of cells; numbers that are handed in; numbers that go out.
-/
set_option linter.unusedVariables false
set_option linter.unusedSimpArgs false
set_option maxRecDepth 100000
namespace Go.Proofs.YtkfkbebinhkdlaaGreatDoor
open Go.RowKit Go.Shelf
/-- A block of cells. -/
def Blk (W : World) (b : Nat) (cur : Array Value) (t : TypeId) : Prop := W.heap[b]? = some (.cells cur t (0, 0))
theorem Blk.cell {W : World} {b : Nat} {cur : Array Value} {t : TypeId} (h : Blk W b cur t) (j : Nat) {v : Value} (hv : cur[j]? = some v) : W.cell? ⟨b, j, none⟩ = some v := by simp [World.cell?, show W.heap[b]? = _ from h, hv]
theorem Blk.frozen {W : World} {b : Nat} {cur : Array Value} {t : TypeId} (h : Blk W b cur t) (j : Nat) : W.frozen? ⟨b, j, none⟩ = false := by simp [World.frozen?, show W.heap[b]? = _ from h]
theorem Blk.lt {W : World} {b : Nat} {cur : Array Value} {t : TypeId} (h : Blk W b cur t) : b < W.heap.size := (Array.getElem?_eq_some_iff.1 h).1
theorem Blk.kept {W W' : World} {row : Option Nat} {b : Nat} {cur : Array Value} {t : TypeId} (h : Blk W b cur t) (hg : W.grownBy W' row) (hne : some b ≠ row) : Blk W' b cur t := (hg.block b h.lt hne).trans h
theorem Blk.alloc {W : World} {b : Nat} {cur : Array Value} {t : TypeId} (h : Blk W b cur t) (o : Obj) : Blk (W.alloc o) b cur t := h.kept (World.grownBy_alloc W o none) (by simp)
theorem Blk.new (W : World) (cur : Array Value) (t : TypeId) : Blk (W.alloc (.cells cur t)) W.heap.size cur t := World.alloc_heap_new W _
theorem Blk.set {W : World} {b : Nat} {cur : Array Value} {t : TypeId} (h : Blk W b cur t) (j : Nat) (v : Value) : Blk (W.setCell ⟨b, j, none⟩ v) b (cur.setIfInBounds j v) t := heap_setCell_same W b j cur t v h
theorem Blk.other {W : World} {b : Nat} {cur : Array Value} {t : TypeId} (h : Blk W b cur t) {b' : Nat} (j : Nat) (v : Value) (hne : b ≠ b') : Blk (W.setCell ⟨b', j, none⟩ v) b cur t :=
  (heap_setCell_other W ⟨b', j, none⟩ b v (fun e => hne e)).trans h
theorem Own.and {β : Type} {I J : β → World → Prop} (h : Own I) (k : Own J) : Own (fun s W => I s W ∧ J s W) := fun s X Y row hs hg hr => ⟨h s X Y row hs.1 hg hr, k s X Y row hs.2 hg hr⟩
open Go.Vi
end Go.Proofs.YtkfkbebinhkdlaaGreatDoor
set_option linter.unusedVariables false
namespace Go.Proofs.YtkfkbebinhkdlaaGreatDoor
/-- How many pages stand. -/
def cntF (f : Nat) : Nat := ((List.range 6).filter fun p => f.testBit p).length
/-- Which pages stand. -/
def bitsF (f : Nat) : List Nat := (List.range 6).filter fun p => f.testBit p
def addF (f p : Nat) : Nat := f ||| 2 ^ p
def swF (f p g : Nat) : Nat := (bif f.testBit g then f - 2 ^ g else f) ||| 2 ^ p
/-- The smallest value. -/
def mnl (v : Nat → Int) : List Nat → Int
  | [] => 0
  | g :: l => l.foldl (fun m g => bif decide (v g < m) then v g else m) (v g)
theorem mnl_snoc (v : Nat → Int) (l : List Nat) (g : Nat) (h : l ≠ []) : mnl v (l ++ [g]) = bif decide (v g < mnl v l) then v g else mnl v l := by
  cases l with
  | nil => exact absurd rfl h
  | cons x l =>
    show List.foldl _ _ (l ++ [g]) = _
    rw [List.foldl_append]
    rfl
theorem mnl_mem (v : Nat → Int) (l : List Nat) (h : l ≠ []) : ∃ g ∈ l, mnl v l = v g := by
  have key : ∀ (l : List Nat) (m : Int), l.foldl (fun m g => bif decide (v g < m) then v g else m) m = m ∨ ∃ g ∈ l, l.foldl (fun m g => bif decide (v g < m) then v g else m) m = v g := by
    intro l
    induction l with
    | nil => intro m; exact .inl rfl
    | cons x l ih =>
      intro m
      simp only [List.foldl_cons]
      rcases ih (bif decide (v x < m) then v x else m) with h | ⟨g, hg, h⟩
      · by_cases hx : v x < m
        · rw [h, decide_eq_true hx, cond_true]
          exact .inr ⟨x, by simp, rfl⟩
        · rw [h, decide_eq_false hx, cond_false]
          exact .inl rfl
      · exact .inr ⟨g, by simp [hg], h⟩
  cases l with
  | nil => exact absurd rfl h
  | cons x l =>
    rcases key l (v x) with h | ⟨g, hg, h⟩
    · exact ⟨x, by simp, h⟩
    · exact ⟨g, by simp [hg], h⟩
/-- The fewest settings, from a floor on. -/
def lst (room : Nat) : List Nat → Nat → Int
  | [], _ => 0
  | p :: ps, f => bif f.testBit p then lst room ps f else bif decide (cntF f < room) then 1 + lst room ps (addF f p) else mnl (fun g => 1 + lst room ps (swF f p g)) (bitsF f)
def all6 (q : Nat → Bool) : Bool := (List.range 6).all q
def all64 (q : Nat → Bool) : Bool := (List.range 64).all q
theorem all6_get {q : Nat → Bool} (h : all6 q = true) {p : Nat} (hp : p < 6) : q p = true := List.all_eq_true.1 h p (List.mem_range.2 hp)
theorem all64_get {q : Nat → Bool} (h : all64 q = true) {p : Nat} (hp : p < 64) : q p = true := List.all_eq_true.1 h p (List.mem_range.2 hp)
theorem floors_ok : (all64 fun f => all6 fun p => Nat.blt (addF f p) 64 && (addF f p).testBit p && all6 fun g => Nat.blt (swF f p g) 64 && (swF f p g).testBit p) = true := by decide +kernel
theorem addF_lt {f p : Nat} (hf : f < 64) (hp : p < 6) : addF f p < 64 := by
  have := all6_get (all64_get floors_ok hf) hp
  simp only [Bool.and_eq_true, Nat.blt_eq] at this
  exact this.1.1
theorem swF_lt {f p g : Nat} (hf : f < 64) (hp : p < 6) (hg : g < 6) : swF f p g < 64 := by
  have := all6_get (all64_get floors_ok hf) hp
  simp only [Bool.and_eq_true] at this
  have := all6_get this.2 hg
  simp only [Bool.and_eq_true, Nat.blt_eq] at this
  exact this.1
theorem bitsF_lt {f g : Nat} (hg : g ∈ bitsF f) : g < 6 := by
  unfold bitsF at hg
  exact List.mem_range.1 (List.mem_filter.1 hg).1
theorem cntF_bits (f : Nat) : cntF f = (bitsF f).length := rfl
theorem lst_bd (room : Nat) (hr : 0 < room) : ∀ (ps : List Nat) (f : Nat), 0 ≤ lst room ps f ∧ lst room ps f ≤ ps.length
  | [], f => ⟨Int.le_refl _, Int.le_refl _⟩
  | p :: ps, f => by
    simp only [lst, List.length_cons]
    have hi := lst_bd room hr ps
    cases f.testBit p with
    | true => have := hi f; rw [cond_true]; omega
    | false =>
      rw [cond_false]
      cases hc : decide (cntF f < room) with
      | true => have := hi (addF f p); rw [cond_true]; omega
      | false =>
        rw [cond_false]
        have hne : bitsF f ≠ [] := fun e => by
          have : ¬ cntF f < room := of_decide_eq_false hc
          rw [cntF_bits, e] at this
          exact this hr
        obtain ⟨g, _, e⟩ := mnl_mem (fun g => 1 + lst room ps (swF f p g)) (bitsF f) hne
        rw [e]
        have := hi (swF f p g)
        omega
theorem lst_step {room : Nat} {ps : List Nat} {p f : Nat} (h : f.testBit p = true) : lst room (p :: ps) f = lst room ps f := by simp [lst, h]
theorem lst_add {room : Nat} {ps : List Nat} {p f : Nat} (h : f.testBit p = false) (hc : cntF f < room) : lst room (p :: ps) f = 1 + lst room ps (addF f p) := by simp [lst, h, hc]
theorem lst_sw {room : Nat} {ps : List Nat} {p f : Nat} (h : f.testBit p = false) (hc : ¬ cntF f < room) : lst room (p :: ps) f = mnl (fun g => 1 + lst room ps (swF f p g)) (bitsF f) := by simp [lst, h, hc]
end Go.Proofs.YtkfkbebinhkdlaaGreatDoor
set_option linter.unusedVariables false
set_option linter.unusedSimpArgs false
set_option maxRecDepth 100000
namespace Go.Proofs.YtkfkbebinhkdlaaGreatDoor
open Go.RowKit Go.Shelf
/-- What is known: the job, and for each time and floor nothing, or the fewest settings. -/
def Known (V : Nat → Nat → Int) (cur : Array Value) : Prop :=
  ∀ t f, t < 12 → f < 64 → ∃ s p : Int, cur[2 + t * 128 + f * 2]? = some (.int .i64 s) ∧ cur[2 + t * 128 + f * 2 + 1]? = some (.int .i64 p) ∧ (s = 0 ∧ p = 0 ∨ s = V t f)
structure Tbl (V : Nat → Nat → Int) (room : Nat) (a : Option Addr) (L cap b : Nat) (cur : Array Value) (W : World) : Prop where
  blk : Blk W b cur 99
  size : cur.size = 1538
  room : cur[0]? = some (.int .i64 room)
  pages : cur[1]? = some (.slice a L cap)
  known : Known V cur
/-- The fewest settings from a time on. -/
def Vs (room : Nat) (zs : List Int) (t f : Nat) : Int := lst room ((zs.drop t).map Int.toNat) f
set_option maxHeartbeats 4000000 in
theorem least_end (V : Nat → Nat → Int) (room : Nat) (a : Option Addr) (L cap b f : Nat) (cur : Array Value) (w : World) (hL : L ≤ 12) (hT : Tbl V room a L cap b cur w) :
    Calls Tryz.prog 56 #[.pointer (some ⟨b, 0, none⟩), .int .i64 L, .agg #[.int .u64 f]] w fun e W' => e = .returned (.agg #[.int .i64 0, .int .i64 1]) ∧ Below w.heap.size w W' := by
  have hb := hT.blk.lt
  have c1 := hT.blk.cell 1 hT.pages
  go_enter Tryz.func56, Tryz.ntmps56
  go_wp2
  refine bodyPost_ret (v := .agg #[.int .i64 0, .int .i64 1]) (by simp [results, Tryz.results56, go_sem]) rfl ⟨rfl, ?_⟩
  exact ((Below.refl _ w).alloc (Nat.le_refl _) _).alloc (by simp) _
/-- The boxes of a call. -/
structure Bx (w : World) (f : Nat) (o : Array Value) (W : World) : Prop where
  fl : Blk W w.heap.size #[.int .u64 f] 102
  out : Blk W (w.heap.size + 1) o 95
  size : W.heap.size = w.heap.size + 2
  low : Below w.heap.size w W
theorem Bx.start (w : World) (f : Nat) : Bx w f #[.int .i64 0, .int .i64 0] ((w.alloc (.cells #[.int .u64 f] 102)).alloc (.cells #[.int .i64 0, .int .i64 0] 95)) := by
  refine ⟨(Blk.new w _ _).alloc _, ?_, by simp, ((Below.refl _ w).alloc (Nat.le_refl _) _).alloc (by simp) _⟩
  have := Blk.new (w.alloc (.cells #[.int .u64 f] 102)) #[.int .i64 0, .int .i64 0] 95
  rwa [World.size_alloc] at this
theorem Blk.drew {W : World} {b : Nat} {cur : Array Value} {t : TypeId} (h : Blk W b cur t) : Blk W.drew b cur t := h
theorem least_res {tmps : Array Value} {W : World} {g : Nat} {s p : Int} (hp : tmps.getD 6 undef = .pointer (some ⟨g, 0, none⟩)) (hb : Blk W g #[.int .i64 s, .int .i64 p] 95) :
    (results Tryz.f56 tmps).run Tryz.prog W = .ok (.agg #[.int .i64 s, .int .i64 p]) W :=
  results_cell_row Tryz.results56 tmps W g 95 _ (0, 0) _ hp hb Tryz.underlying95 rfl (by kernel_rfl)
set_option maxHeartbeats 4000000 in
theorem least_known (V : Nat → Nat → Int) (room : Nat) (a : Option Addr) (L cap b t f : Nat) (s p : Int) (cur : Array Value) (w : World) (hL : L ≤ 12) (ht : t < L) (hf : f < 64) (hT : Tbl V room a L cap b cur w)
    (k1 : cur[2 + t * 128 + f * 2]? = some (.int .i64 s)) (k2 : cur[2 + t * 128 + f * 2 + 1]? = some (.int .i64 p)) (hn : ¬ (s = 0 ∧ p = 0)) :
    Calls Tryz.prog 56 #[.pointer (some ⟨b, 0, none⟩), .int .i64 t, .agg #[.int .u64 f]] w fun e W' => e = .returned (.agg #[.int .i64 s, .int .i64 p]) ∧ Below w.heap.size w W' := by
  have hb := hT.blk.lt
  have c1 := hT.blk.cell 1 hT.pages
  have ht1 : (t : Int) < 12 := by omega
  have ht2 : (t : Int) ≠ L := by omega
  have hf1 : (f : Int) < 64 := by omega
  have hbx := Bx.start w f
  go_enter Tryz.func56, Tryz.ntmps56
  go_wp2
  generalize World.alloc (World.alloc w _) _ = W1 at hbx ⊢
  have hb1 : b < W1.heap.size := by rw [hbx.size]; omega
  have c2 : W1.cell? ⟨b, 2 + t * 128 + f * 2, none⟩ = some (.int .i64 s) := (hbx.low.cell (p := ⟨b, _, none⟩) hb).trans (hT.blk.cell _ k1)
  have c3 : W1.cell? ⟨b, 2 + t * 128 + f * 2 + 1, none⟩ = some (.int .i64 p) := (hbx.low.cell (p := ⟨b, _, none⟩) hb).trans (hT.blk.cell _ k2)
  have c4 := hbx.fl.cell 0 rfl
  have c5 := hbx.out.cell 0 rfl
  have c6 := hbx.out.cell 1 rfl
  have c7 := hbx.out.frozen 0
  have c8 := hbx.out.frozen 1
  have n1 : w.heap.size < W1.heap.size := by rw [hbx.size]; omega
  have n2 : w.heap.size + 1 < W1.heap.size := by rw [hbx.size]; omega
  clear c1
  by_cases hs : s = 0
  · have hp : (p == 0) = false := by simpa using fun e => hn ⟨hs, e⟩
    subst hs
    clear hn k1 k2
    go_region
    go_wp2
    refine bodyPost_ret (v := .agg #[.int .i64 0, .int .i64 p]) (least_res rfl ?_) rfl ⟨rfl, ?_⟩
    · exact ((((hbx.out.set 0 _).set 1 _).alloc _).drew)
    · exact (((((hbx.low.setCell (p := ⟨_, _, none⟩) (Nat.le_succ _) _).setCell (p := ⟨_, _, none⟩) (Nat.le_succ _) _)).alloc (by simp; omega) _).drew)
  · have hs' : (s == 0) = false := by simpa using hs
    clear hn hs k1 k2
    go_region
    go_wp2
    refine bodyPost_ret (v := .agg #[.int .i64 s, .int .i64 p]) (least_res rfl ?_) rfl ⟨rfl, ?_⟩
    · exact ((((hbx.out.set 0 _).set 1 _).alloc _).drew)
    · exact (((((hbx.low.setCell (p := ⟨_, _, none⟩) (Nat.le_succ _) _).setCell (p := ⟨_, _, none⟩) (Nat.le_succ _) _)).alloc (by simp; omega) _).drew)
/-- The pages that are asked for. -/
def PgOK (zs : List Int) (a : Option Addr) (b : Nat) (W : World) : Prop :=
  ∀ j (h : j < zs.length), ∃ pb off, a = some ⟨pb, off, none⟩ ∧ pb ≠ b ∧ pb < W.heap.size ∧ W.cell? ⟨pb, off + j, none⟩ = some (.int .i64 zs[j])
theorem PgOK.grown {zs : List Int} {a : Option Addr} {b : Nat} {W W' : World} (h : PgOK zs a b W) (hg : W.grownBy W' (some b)) : PgOK zs a b W' := fun j hj => by
  obtain ⟨pb, off, h1, h2, h3, h4⟩ := h j hj
  exact ⟨pb, off, h1, h2, Nat.lt_of_lt_of_le h3 hg.size, (World.cell?_of_block (a := ⟨pb, off + j, none⟩) (hg.block pb h3 (by simpa using h2))).trans h4⟩
/-- What the search from a time and a floor gives. -/
def LeastAt (V : Nat → Nat → Int) (room : Nat) (a : Option Addr) (L cap b t f : Nat) (W : World) (e : Ending) (W' : World) : Prop :=
  ∃ (pl : Int) (cur : Array Value), e = .returned (.agg #[.int .i64 (V t f), .int .i64 pl]) ∧ Tbl V room a L cap b cur W' ∧ W.grownBy W' (some b)
theorem gb_below {W W' : World} {r : Option Nat} (h : Below W.heap.size W W') : W.grownBy W' r := ⟨h.os, h.tape, h.output, h.size, fun k hk _ => h.block k hk⟩
theorem gb_trans {W W1 W2 : World} {r : Option Nat} (h : W.grownBy W1 r) (h' : W1.grownBy W2 r) : W.grownBy W2 r :=
  ⟨h'.os.trans h.os, h'.tape.trans h.tape, h'.output.trans h.output, Nat.le_trans h.size h'.size, fun k hk hr => (h'.block k (Nat.lt_of_lt_of_le hk h.size) hr).trans (h.block k hk hr)⟩
theorem gb_alloc (W : World) (o : Obj) (r : Option Nat) : W.grownBy (W.alloc o) r := World.grownBy_alloc W o r
theorem gb_drew (W : World) (r : Option Nat) : W.grownBy W.drew r := ⟨rfl, rfl, rfl, Nat.le_refl _, fun _ _ _ => rfl⟩
theorem gb_set {W W1 : World} {b g j : Nat} {v : Value} (h : W.grownBy W1 (some b)) (hg : W.heap.size ≤ g ∨ g = b) : W.grownBy (W1.setCell ⟨g, j, none⟩ v) (some b) :=
  ⟨h.os, h.tape, h.output, Nat.le_trans h.size (KeepsWalks.setCell W1 _ _).size, fun k hk hr => (heap_setCell_other W1 ⟨g, j, none⟩ k v (by
    rcases hg with hg | hg
    · show k ≠ g
      omega
    · show k ≠ g
      rintro rfl
      exact hr (by rw [hg]))).trans (h.block k hk hr)⟩
theorem Tbl.other {V : Nat → Nat → Int} {room : Nat} {a : Option Addr} {L cap b : Nat} {cur : Array Value} {W W' : World} (h : Tbl V room a L cap b cur W) (hb : Blk W' b cur 99) : Tbl V room a L cap b cur W' := ⟨hb, h.size, h.room, h.pages, h.known⟩
theorem Tbl.store {V : Nat → Nat → Int} {room : Nat} {a : Option Addr} {L cap b : Nat} {cur : Array Value} {W : World} (h : Tbl V room a L cap b cur W) {t f : Nat} (ht : t < 12) (hf : f < 64) (p : Int) :
    Tbl V room a L cap b ((cur.setIfInBounds (2 + t * 128 + f * 2) (.int .i64 (V t f))).setIfInBounds (2 + t * 128 + f * 2 + 1) (.int .i64 p))
      ((W.setCell ⟨b, 2 + t * 128 + f * 2, none⟩ (.int .i64 (V t f))).setCell ⟨b, 2 + t * 128 + f * 2 + 1, none⟩ (.int .i64 p)) := by
  have hs := h.size
  refine ⟨(h.blk.set _ _).set _ _, by simpa using h.size, ?_, ?_, fun t' f' ht' hf' => ?_⟩
  · rw [Array.getElem?_setIfInBounds_ne (by omega), Array.getElem?_setIfInBounds_ne (by omega)]; exact h.room
  · rw [Array.getElem?_setIfInBounds_ne (by omega), Array.getElem?_setIfInBounds_ne (by omega)]; exact h.pages
  · by_cases e : t' = t ∧ f' = f
    · obtain ⟨rfl, rfl⟩ := e
      refine ⟨V t' f', p, ?_, ?_, .inr rfl⟩
      · rw [Array.getElem?_setIfInBounds_ne (by omega), Array.getElem?_setIfInBounds_self_of_lt (by omega)]
      · rw [Array.getElem?_setIfInBounds_self_of_lt (by simp; omega)]
    · obtain ⟨s, q, h1, h2, h3⟩ := h.known t' f' ht' hf'
      have hne : t' * 64 + f' ≠ t * 64 + f := by omega
      refine ⟨s, q, ?_, ?_, h3⟩
      · rw [Array.getElem?_setIfInBounds_ne (by omega), Array.getElem?_setIfInBounds_ne (by omega)]; exact h1
      · rw [Array.getElem?_setIfInBounds_ne (by omega), Array.getElem?_setIfInBounds_ne (by omega)]; exact h2
/-- Behind the look at what is known: nothing is known. -/
structure Bx2 (w : World) (b f n7 : Nat) (W : World) : Prop where
  fl : Blk W w.heap.size #[.int .u64 f] 102
  out : Blk W (w.heap.size + 1) #[.int .i64 0, .int .i64 0] 95
  size : w.heap.size + 1 < W.heap.size
  low : Below w.heap.size w W
theorem Bx.next {w W : World} {b f : Nat} (h : Bx w f #[.int .i64 0, .int .i64 0] W) (o : Obj) : Bx2 w b f W.heap.size (W.alloc o).drew :=
  ⟨(h.fl.alloc o).drew, (h.out.alloc o).drew, by have := h.size; simp; omega, (h.low.alloc (by rw [h.size]; omega) o).drew⟩
/-- What each of the walks is given. -/
structure Job (V : Nat → Nat → Int) (room : Nat) (zs : List Int) (a : Option Addr) (L cap b t f : Nat) (cur : Array Value) (w : World) : Prop where
  len : zs.length = L
  big : L ≤ 12
  time : t < L
  floor : f < 64
  tbl : Tbl V room a L cap b cur w
  pgs : PgOK zs a b w
  k1 : cur[2 + t * 128 + f * 2]? = some (.int .i64 0)
  k2 : cur[2 + t * 128 + f * 2 + 1]? = some (.int .i64 0)
  pag : ∀ z ∈ zs, 0 ≤ z ∧ z < 6
/-- What is left to do: what came out is known, too. -/
structure Rest (V : Nat → Nat → Int) (room : Nat) (a : Option Addr) (L cap b t f n9 : Nat) (pl : Int) (cur : Array Value) (w W : World) : Prop where
  fl : Blk W w.heap.size #[.int .u64 f] 102
  out : Blk W (w.heap.size + 1) #[.int .i64 0, .int .i64 0] 95
  res : Blk W n9 #[.int .i64 (V t f), .int .i64 pl] 95
  tbl : Tbl V room a L cap b cur W
  low : w.grownBy W (some b)
theorem Rest.fin {V : Nat → Nat → Int} {room : Nat} {a : Option Addr} {L cap b t f n9 : Nat} {pl : Int} {cur : Array Value} {w W : World} (h : Rest V room a L cap b t f n9 pl cur w W) (ht : t < 12) (hf : f < 64) (hb : b < w.heap.size) :
    Blk ((((((W.setCell ⟨b, 2 + t * 128 + f * 2, none⟩ (.int .i64 (V t f))).setCell ⟨b, 2 + t * 128 + f * 2 + 1, none⟩ (.int .i64 pl))).setCell ⟨w.heap.size + 1, 0, none⟩ (.int .i64 (V t f))).setCell ⟨w.heap.size + 1, 1, none⟩ (.int .i64 pl))) (w.heap.size + 1) #[.int .i64 (V t f), .int .i64 pl] 95 ∧
      ∃ cur', Tbl V room a L cap b cur' ((((((W.setCell ⟨b, 2 + t * 128 + f * 2, none⟩ (.int .i64 (V t f))).setCell ⟨b, 2 + t * 128 + f * 2 + 1, none⟩ (.int .i64 pl))).setCell ⟨w.heap.size + 1, 0, none⟩ (.int .i64 (V t f))).setCell ⟨w.heap.size + 1, 1, none⟩ (.int .i64 pl))) ∧
        w.grownBy ((((((W.setCell ⟨b, 2 + t * 128 + f * 2, none⟩ (.int .i64 (V t f))).setCell ⟨b, 2 + t * 128 + f * 2 + 1, none⟩ (.int .i64 pl))).setCell ⟨w.heap.size + 1, 0, none⟩ (.int .i64 (V t f))).setCell ⟨w.heap.size + 1, 1, none⟩ (.int .i64 pl))) (some b) := by
  have h1 := h.tbl.store ht hf pl
  refine ⟨(((h.out.other _ _ (by omega)).other _ _ (by omega)).set 0 _).set 1 _, _, h1.other ((h1.blk.other _ _ (by omega)).other _ _ (by omega)), ?_⟩
  exact gb_set (gb_set (gb_set (gb_set h.low (.inr rfl)) (.inr rfl)) (.inl (by omega))) (.inl (by omega))
set_option maxHeartbeats 4000000 in
theorem least_stand (V : Nat → Nat → Int) (room : Nat) (a : Option Addr) (L cap b t f : Nat) (zs : List Int) (cur : Array Value) (w : World) (h : Job V room zs a L cap b t f cur w) (hV : V t f = V (t + 1) f)
    (hbit : ∀ h : t < zs.length, (bits BinOp.and IntKind.u64 ((f : Int) / 2 ^ (zs[t]'h).toNat) 1 == 1) = true)
    (G : World → Prop) (hG : ∀ W, w.grownBy W (some b) → G W)
    (hrec : ∀ W cur, G W → Tbl V room a L cap b cur W → PgOK zs a b W → Calls Tryz.prog 56 #[.pointer (some ⟨b, 0, none⟩), .int .i64 ((t : Int) + 1), .agg #[.int .u64 f]] W (LeastAt V room a L cap b (t + 1) f W)) :
    Calls Tryz.prog 56 #[.pointer (some ⟨b, 0, none⟩), .int .i64 t, .agg #[.int .u64 f]] w (LeastAt V room a L cap b t f w) := by
  obtain ⟨hzl, hL, ht, hf, hT, hP, k1, k2, hp⟩ := h
  have hb := hT.blk.lt
  have c1 := hT.blk.cell 1 hT.pages
  have ht1 : (t : Int) < 12 := by omega
  have ht2 : (t : Int) ≠ L := by omega
  have ht3 : (t : Int) < L := by omega
  have hf1 : (f : Int) < 64 := by omega
  have htz : t < zs.length := by omega
  have hbit := hbit htz
  obtain ⟨hp0, hp1⟩ := hp zs[t] (List.getElem_mem _)
  have hbx := Bx.start w f
  obtain ⟨pb, off, rfl, hpb, hpw, hpc⟩ := hP t (by omega)
  go_enter Tryz.func56, Tryz.ntmps56
  go_wp2
  generalize World.alloc (World.alloc w _) _ = W1 at hbx ⊢
  have hb1 : b < W1.heap.size := by rw [hbx.size]; omega
  have c2 : W1.cell? ⟨b, 2 + t * 128 + f * 2, none⟩ = some (.int .i64 0) := (hbx.low.cell (p := ⟨b, _, none⟩) hb).trans (hT.blk.cell _ k1)
  have c3 : W1.cell? ⟨b, 2 + t * 128 + f * 2 + 1, none⟩ = some (.int .i64 0) := (hbx.low.cell (p := ⟨b, _, none⟩) hb).trans (hT.blk.cell _ k2)
  have c4 := hbx.fl.cell 0 rfl
  have n1 : w.heap.size < W1.heap.size := by rw [hbx.size]; omega
  have n2 : w.heap.size + 1 < W1.heap.size := by rw [hbx.size]; omega
  clear c1 k1 k2
  go_region
  have hbx2 := hbx.next (b := b) (.cells #[.int .i64 0, .int .i64 0] 95)
  have h7 : Blk ((W1.alloc (.cells #[.int .i64 0, .int .i64 0] 95)).drew) W1.heap.size #[.int .i64 0, .int .i64 0] 95 := (Blk.new W1 _ _).drew
  generalize World.drew (World.alloc W1 _) = W2 at hbx2 h7 ⊢
  clear c2 c3 c4 n1 n2 hb1
  have hb2 : b < W2.heap.size := Nat.lt_of_lt_of_le hb hbx2.low.size
  have hg2 : w.grownBy W2 (some b) := gb_below hbx2.low
  have hT2 : Tbl V room (some ⟨pb, off, none⟩) L cap b cur W2 := hT.other ((hbx2.low.block b hb).trans hT.blk)
  have hP2 := hP.grown hg2
  have d1 := hT2.blk.cell 1 hT2.pages
  have d2 : W2.cell? ⟨pb, off + t, none⟩ = some (.int .i64 zs[t]) := (hbx2.low.cell (p := ⟨pb, _, none⟩) hpw).trans hpc
  have d3 := hbx2.fl.cell 0 rfl
  have d4 := h7.cell 0 rfl
  have d5 := h7.cell 1 rfl
  have n1 : w.heap.size < W2.heap.size := by have := hbx2.size; omega
  have n2 : w.heap.size + 1 < W2.heap.size := by have := hbx2.size; omega
  have n3 : pb < W2.heap.size := by omega
  have n4 := h7.lt
  have hrec' : ∀ o, Calls Tryz.prog 56 #[.pointer (some ⟨b, 0, none⟩), .int .i64 ((t : Int) + 1), .agg #[.int .u64 f]] (W2.alloc o) (LeastAt V room (some ⟨pb, off, none⟩) L cap b (t + 1) f (W2.alloc o)) :=
    fun o => hrec (W2.alloc o) cur (hG _ (gb_trans hg2 (gb_alloc _ _ _))) (hT2.other (hT2.blk.alloc o)) (hP2.grown (gb_alloc _ _ _))
  have h9 := fun o => Blk.new W2 o 95
  go_wp2_with (go_at_call 56; refine (hrec' _).mono ?_; rintro e W3 ⟨pl, cur3, rfl, hT3, hg3⟩; have h9' := (h9 _).kept hg3 (by simp; omega); have e1 := h9'.cell 0 rfl; have e2 := h9'.cell 1 rfl; have e3 := h9'.frozen 0; have e4 := h9'.frozen 1; have hfl := (hbx2.fl.alloc _).kept hg3 (by simp; omega); have hout := (hbx2.out.alloc _).kept hg3 (by simp; omega); have e5 := hfl.cell 0 rfl)
  have hlt : W2.heap.size < W3.heap.size := h9'.lt
  have hR : Rest V room (some ⟨pb, off, none⟩) L cap b t f W2.heap.size pl cur3 w ((W3.setCell ⟨W2.heap.size, 0, none⟩ (.int .i64 (V (t + 1) f))).setCell ⟨W2.heap.size, 1, none⟩ (.int .i64 pl)) := by
    refine ⟨(hfl.other _ _ (by omega)).other _ _ (by omega), (hout.other _ _ (by omega)).other _ _ (by omega), ?_, hT3.other ((hT3.blk.other _ _ (by omega)).other _ _ (by omega)), ?_⟩
    · rw [hV]; exact (h9'.set 0 _).set 1 _
    · exact gb_set (gb_set (gb_trans (gb_trans hg2 (gb_alloc _ _ _)) hg3) (.inl (by omega))) (.inl (by omega))
  generalize World.setCell (World.setCell W3 _ _) _ _ = W4 at hR ⊢
  clear e1 e2 e3 e4 e5 h9' hfl hout hT3 hlt hg3 h9 hrec' n1 n2 n3 n4 d1 d2 d3 d4 d5 hT2 hP2 hb2 hg2 hbx2 h7
  have r1 := hR.fl.cell 0 rfl
  have r2 := hR.res.cell 0 rfl
  have r3 := hR.res.cell 1 rfl
  obtain ⟨s0, q0, k1, k2, k3⟩ := hR.tbl.known t f (by omega) hf
  have r4 := hR.tbl.blk.cell _ k1
  have r5 := hR.tbl.blk.cell _ k2
  have r6 := fun j => hR.tbl.blk.frozen j
  have r7 := hR.out.cell 0 rfl
  have r8 := hR.out.cell 1 rfl
  have r9 := hR.out.frozen 0
  have r10 := hR.out.frozen 1
  have m1 := hR.res.lt
  have m2 := hR.out.lt
  obtain ⟨f1, cur', f2, f3⟩ := hR.fin (by omega) hf hb
  clear k1 k2 k3 hbit hrec hT hP hp hpc hV hR
  go_region
  go_wp2
  exact bodyPost_ret (v := .agg #[.int .i64 (V t f), .int .i64 pl]) (least_res rfl f1.drew) rfl ⟨pl, cur', rfl, f2.other f2.blk.drew, gb_trans f3 (gb_drew _ _)⟩
/-- In the midst of a call: its boxes, the table and the pages. -/
structure Mid (V : Nat → Nat → Int) (room : Nat) (zs : List Int) (a : Option Addr) (L cap b f n9 : Nat) (r : Array Value) (cur : Array Value) (w W : World) : Prop where
  fl : Blk W w.heap.size #[.int .u64 f] 102
  out : Blk W (w.heap.size + 1) #[.int .i64 0, .int .i64 0] 95
  res : Blk W n9 r 95
  tbl : Tbl V room a L cap b cur W
  pgs : PgOK zs a b w
  low : w.grownBy W (some b)
  nlo : w.heap.size + 1 < n9
  blo : b < w.heap.size
theorem Mid.call {V : Nat → Nat → Int} {room : Nat} {zs : List Int} {a : Option Addr} {L cap b f n9 : Nat} {r cur cur' : Array Value} {w W W' : World} (h : Mid V room zs a L cap b f n9 r cur w W) (hg : W.grownBy W' (some b)) (hT : Tbl V room a L cap b cur' W') :
    Mid V room zs a L cap b f n9 r cur' w W' := by
  have h1 := h.nlo
  have h2 := h.blo
  exact ⟨h.fl.kept hg (by simp; omega), h.out.kept hg (by simp; omega), h.res.kept hg (by simp; omega), hT, h.pgs, gb_trans h.low hg, h.nlo, h.blo⟩
theorem Mid.below {V : Nat → Nat → Int} {room : Nat} {zs : List Int} {a : Option Addr} {L cap b f n9 : Nat} {r cur : Array Value} {w W W' : World} (h : Mid V room zs a L cap b f n9 r cur w W) (hB : Below W.heap.size W W') :
    Mid V room zs a L cap b f n9 r cur w W' := h.call (gb_below hB) (h.tbl.other ((hB.block b h.tbl.blk.lt).trans h.tbl.blk))
theorem Mid.alloc {V : Nat → Nat → Int} {room : Nat} {zs : List Int} {a : Option Addr} {L cap b f n9 : Nat} {r cur : Array Value} {w W : World} (h : Mid V room zs a L cap b f n9 r cur w W) (o : Obj) :
    Mid V room zs a L cap b f n9 r cur w (W.alloc o) := h.below ((Below.refl _ _).alloc (Nat.le_refl _) _)
theorem Mid.drew {V : Nat → Nat → Int} {room : Nat} {zs : List Int} {a : Option Addr} {L cap b f n9 : Nat} {r cur : Array Value} {w W : World} (h : Mid V room zs a L cap b f n9 r cur w W) :
    Mid V room zs a L cap b f n9 r cur w W.drew := h.below (Below.refl _ _).drew
theorem Mid.set {V : Nat → Nat → Int} {room : Nat} {zs : List Int} {a : Option Addr} {L cap b f n9 : Nat} {r cur : Array Value} {w W : World} (h : Mid V room zs a L cap b f n9 r cur w W) (j : Nat) (v : Value) :
    Mid V room zs a L cap b f n9 (r.setIfInBounds j v) cur w (W.setCell ⟨n9, j, none⟩ v) := by
  have h1 := h.nlo
  have h2 := h.blo
  refine ⟨h.fl.other _ _ (by omega), h.out.other _ _ (by omega), h.res.set _ _, h.tbl.other (h.tbl.blk.other _ _ (by omega)), h.pgs, gb_set h.low (.inl (by omega)), h.nlo, h.blo⟩
theorem Mid.pgsW {V : Nat → Nat → Int} {room : Nat} {zs : List Int} {a : Option Addr} {L cap b f n9 : Nat} {r cur : Array Value} {w W : World} (h : Mid V room zs a L cap b f n9 r cur w W) : PgOK zs a b W := h.pgs.grown h.low
theorem Mid.rest {V : Nat → Nat → Int} {room : Nat} {zs : List Int} {a : Option Addr} {L cap b t f n9 : Nat} {s pl : Int} {cur : Array Value} {w W : World} (h : Mid V room zs a L cap b f n9 #[.int .i64 s, .int .i64 pl] cur w W) (hs : V t f = s) :
    Rest V room a L cap b t f n9 pl cur w W := ⟨h.fl, h.out, by rw [hs]; exact h.res, h.tbl, h.low⟩
set_option maxHeartbeats 8000000 in
theorem least_add (V : Nat → Nat → Int) (room : Nat) (a : Option Addr) (L cap b t f f' : Nat) (zs : List Int) (cur : Array Value) (w : World) (h : Job V room zs a L cap b t f cur w) (hV : V t f = V (t + 1) f' + 1) (hVb : 0 ≤ V (t + 1) f' ∧ V (t + 1) f' ≤ 12)
    (hbit : ∀ h : t < zs.length, (bits BinOp.and IntKind.u64 ((f : Int) / 2 ^ (zs[t]'h).toNat) 1 == 1) = false)
    (G : World → Prop) (hG : ∀ W, w.grownBy W (some b) → G W)
    (hfull : ∀ (W : World) (_ : G W) (h : t < zs.length), Calls Tryz.prog 64 #[.agg #[.int .u64 f], .int .i64 (zs[t]'h), .int .i64 room] W fun e W' => e = .returned (.bool false) ∧ Below W.heap.size W W')
    (hwith : ∀ (W : World) (_ : G W) (h : t < zs.length), Calls Tryz.prog 65 #[.agg #[.int .u64 f], .int .i64 (zs[t]'h), .int .i64 (-1)] W fun e W' => e = .returned (.agg #[.int .u64 f']) ∧ Below W.heap.size W W')
    (hrec : ∀ W cur, G W → Tbl V room a L cap b cur W → PgOK zs a b W → Calls Tryz.prog 56 #[.pointer (some ⟨b, 0, none⟩), .int .i64 ((t : Int) + 1), .agg #[.int .u64 f']] W (LeastAt V room a L cap b (t + 1) f' W)) :
    Calls Tryz.prog 56 #[.pointer (some ⟨b, 0, none⟩), .int .i64 t, .agg #[.int .u64 f]] w (LeastAt V room a L cap b t f w) := by
  obtain ⟨hzl, hL, ht, hf, hT, hP, k1, k2, hp⟩ := h
  have hb := hT.blk.lt
  have c1 := hT.blk.cell 1 hT.pages
  have ht1 : (t : Int) < 12 := by omega
  have ht2 : (t : Int) ≠ L := by omega
  have ht3 : (t : Int) < L := by omega
  have hf1 : (f : Int) < 64 := by omega
  have htz : t < zs.length := by omega
  have hbit := hbit htz
  have hfull := fun W hW => hfull W hW htz
  have hwith := fun W hW => hwith W hW htz
  obtain ⟨hp0, hp1⟩ := hp zs[t] (List.getElem_mem _)
  have hbx := Bx.start w f
  obtain ⟨pb, off, rfl, hpb, hpw, hpc⟩ := hP t (by omega)
  go_enter Tryz.func56, Tryz.ntmps56
  go_wp2
  generalize World.alloc (World.alloc w _) _ = W1 at hbx ⊢
  have hb1 : b < W1.heap.size := by rw [hbx.size]; omega
  have c2 : W1.cell? ⟨b, 2 + t * 128 + f * 2, none⟩ = some (.int .i64 0) := (hbx.low.cell (p := ⟨b, _, none⟩) hb).trans (hT.blk.cell _ k1)
  have c3 : W1.cell? ⟨b, 2 + t * 128 + f * 2 + 1, none⟩ = some (.int .i64 0) := (hbx.low.cell (p := ⟨b, _, none⟩) hb).trans (hT.blk.cell _ k2)
  have c4 := hbx.fl.cell 0 rfl
  have n1 : w.heap.size < W1.heap.size := by rw [hbx.size]; omega
  have n2 : w.heap.size + 1 < W1.heap.size := by rw [hbx.size]; omega
  clear c1 k1 k2
  go_region
  have hbx2 := hbx.next (b := b) (.cells #[.int .i64 0, .int .i64 0] 95)
  have h7 : Blk ((W1.alloc (.cells #[.int .i64 0, .int .i64 0] 95)).drew) W1.heap.size #[.int .i64 0, .int .i64 0] 95 := (Blk.new W1 _ _).drew
  generalize World.drew (World.alloc W1 _) = W2 at hbx2 h7 ⊢
  clear c2 c3 c4 n1 n2 hb1
  have hb2 : b < W2.heap.size := Nat.lt_of_lt_of_le hb hbx2.low.size
  have hT2 : Tbl V room (some ⟨pb, off, none⟩) L cap b cur W2 := hT.other ((hbx2.low.block b hb).trans hT.blk)
  have d1 := hT2.blk.cell 1 hT2.pages
  have d2 : W2.cell? ⟨pb, off + t, none⟩ = some (.int .i64 zs[t]) := (hbx2.low.cell (p := ⟨pb, _, none⟩) hpw).trans hpc
  have d3 := hbx2.fl.cell 0 rfl
  have d4 := h7.cell 0 rfl
  have d5 := h7.cell 1 rfl
  have n1 : w.heap.size < W2.heap.size := by have := hbx2.size; omega
  have n2 : w.heap.size + 1 < W2.heap.size := hbx2.size
  have n3 : pb < W2.heap.size := by omega
  have n4 := h7.lt
  have hM3 : Mid V room zs (some ⟨pb, off, none⟩) L cap b f W2.heap.size #[.int .i64 0, .int .i64 0] cur w (W2.alloc (.cells #[.int .i64 0, .int .i64 0] 95)) :=
    ⟨hbx2.fl.alloc _, hbx2.out.alloc _, Blk.new W2 _ _, hT2.other (hT2.blk.alloc _), hP, gb_trans (gb_below hbx2.low) (gb_alloc _ _ _), n2, hb⟩
  go_wp2
  generalize World.alloc W2 _ = W3 at hM3 ⊢
  clear n1 n2 n3 n4 d1 d2 d3 d4 d5 h7 hT2 hb2 hbx2 hbx
  have d1 := hM3.tbl.blk.cell 0 hM3.tbl.room
  have d3 := hM3.fl.cell 0 rfl
  go_region_with (go_at_call 64; refine (hfull _ (hG _ hM3.drew.low)).mono ?_; rintro e W4 ⟨rfl, hB4⟩; have hM4 := hM3.drew.below hB4)
  all_goals
    have e0 := hM4.fl.cell 0 rfl
    have n9 := hM4.res.lt
    go_wp2_with (first | (go_at_call 65; refine (hwith _ (hG _ hM4.low)).mono ?_; rintro e W5 ⟨rfl, hB5⟩; have hM5 := hM4.below hB5) | (go_at_call 56; refine (hrec _ _ (hG _ hM5.low) hM5.tbl hM5.pgsW).mono ?_; rintro e W6 ⟨pl, cur6, rfl, hT6, hg6⟩; have hM6 := hM5.call hg6 hT6; have e1 := hM6.res.cell 0 rfl; have e2 := hM6.res.cell 1 rfl; have e3 := hM6.res.frozen 0; have e4 := hM6.res.frozen 1))
    have hR := (((hM6.set 0 (.int .i64 (V (t + 1) f'))).set 1 (.int .i64 pl)).set 0 (.int .i64 (V (t + 1) f' + 1))).rest hV
    generalize World.setCell (World.setCell (World.setCell W6 _ _) _ _) _ _ = W7 at hR ⊢
    clear e0 e1 e2 e3 e4 n9 hM6 hM5 hM4 hM3 hB4 hB5 hT6 hg6 hwith hfull d1 d3 hbit hrec hT hP hp hpc hV hVb
    have r1 := hR.fl.cell 0 rfl
    have r2 := hR.res.cell 0 rfl
    have r3 := hR.res.cell 1 rfl
    obtain ⟨s0, q0, k1, k2, k3⟩ := hR.tbl.known t f (by omega) hf
    have r4 := hR.tbl.blk.cell _ k1
    have r5 := hR.tbl.blk.cell _ k2
    have r6 := fun j => hR.tbl.blk.frozen j
    have r7 := hR.out.cell 0 rfl
    have r8 := hR.out.cell 1 rfl
    have r9 := hR.out.frozen 0
    have r10 := hR.out.frozen 1
    have m1 := hR.res.lt
    have m2 := hR.out.lt
    obtain ⟨f1, cur', f2, f3⟩ := hR.fin (by omega) hf hb
    clear k1 k2 k3 hR
    go_region
    go_wp2
    exact bodyPost_ret (v := .agg #[.int .i64 (V t f), .int .i64 pl]) (least_res rfl f1.drew) rfl ⟨pl, cur', rfl, f2.other f2.blk.drew, gb_trans f3 (gb_drew _ _)⟩
/-- Pages in a slice of the call's own. -/
def Lst (l : List Nat) (b2 : Nat) (W : World) : Prop := ∃ cur ty, Blk W b2 cur ty ∧ ∀ i (h : i < l.length), cur[i]? = some (.int .i64 (l[i] : Int))
theorem Lst.kept {l : List Nat} {b2 : Nat} {W W' : World} {r : Option Nat} (h : Lst l b2 W) (hg : W.grownBy W' r) (hne : some b2 ≠ r) : Lst l b2 W' := by
  obtain ⟨cur, ty, h1, h2⟩ := h
  exact ⟨cur, ty, h1.kept hg hne, h2⟩
theorem Lst.cell {l : List Nat} {b2 : Nat} {W : World} (h : Lst l b2 W) {i : Nat} (hi : i < l.length) : W.cell? ⟨b2, i, none⟩ = some (.int .i64 (l[i] : Int)) := by
  obtain ⟨cur, ty, h1, h2⟩ := h
  exact h1.cell i (h2 i hi)
theorem Lst.lt {l : List Nat} {b2 : Nat} {W : World} (h : Lst l b2 W) : b2 < W.heap.size := by
  obtain ⟨cur, ty, h1, h2⟩ := h
  exact h1.lt
theorem Lst.other {l : List Nat} {b2 : Nat} {W : World} (h : Lst l b2 W) {b' : Nat} (j : Nat) (v : Value) (hne : b2 ≠ b') : Lst l b2 (W.setCell ⟨b', j, none⟩ v) := by
  obtain ⟨cur, ty, h1, h2⟩ := h
  exact ⟨cur, ty, h1.other j v hne, h2⟩
/-- What has come out behind k pages. -/
def Out (v : Nat → Int) (l : List Nat) (k : Nat) (r : Array Value) : Prop :=
  (k = 0 ∧ r = #[.int .i64 0, .int .i64 0]) ∨ (0 < k ∧ ∃ p : Int, r = #[.int .i64 (mnl v (l.take k)), .int .i64 p])
/-- A round's head. -/
def Head (V : Nat → Nat → Int) (room : Nat) (zs : List Int) (a : Option Addr) (L cap b f n9 b2 : Nat) (v : Nat → Int) (l : List Nat) (k : Nat) (w W : World) : Prop :=
  ∃ r cur, Mid V room zs a L cap b f n9 r cur w W ∧ Lst l b2 W ∧ Out v l k r ∧ n9 < b2
theorem Head.next {V : Nat → Nat → Int} {room : Nat} {zs : List Int} {a : Option Addr} {L cap b f n9 b2 : Nat} {v : Nat → Int} {l : List Nat} {k : Nat} {r cur : Array Value} {w W : World} (hM : Mid V room zs a L cap b f n9 r cur w W) (hL : Lst l b2 W) (hn : n9 < b2) (ho : Out v l (k + 1) r) :
    Head V room zs a L cap b f n9 b2 v l (k + 1) w W := ⟨r, cur, hM, hL, ho, hn⟩
theorem out_first {v : Nat → Int} {l : List Nat} (h : 0 < l.length) (p : Int) : Out v l 1 #[.int .i64 (v l[0]), .int .i64 p] := by
  right
  refine ⟨Nat.one_pos, p, ?_⟩
  rw [List.take_succ_eq_append_getElem h]
  rfl
theorem mnl_take {v : Nat → Int} {l : List Nat} {k : Nat} (h : k < l.length) (h0 : 0 < k) : mnl v (l.take (k + 1)) = bif decide (v l[k] < mnl v (l.take k)) then v l[k] else mnl v (l.take k) := by
  rw [List.take_succ_eq_append_getElem h]
  exact mnl_snoc v _ _ (by
    intro e
    have := congrArg List.length e
    rw [List.length_take, List.length_nil] at this
    omega)
theorem out_less {v : Nat → Int} {l : List Nat} {k : Nat} (h : k < l.length) (h0 : 0 < k) (hl : v l[k] < mnl v (l.take k)) (p : Int) : Out v l (k + 1) #[.int .i64 (v l[k]), .int .i64 p] := by
  right
  refine ⟨Nat.succ_pos _, p, ?_⟩
  rw [mnl_take h h0, decide_eq_true hl]
  rfl
theorem out_more {v : Nat → Int} {l : List Nat} {k : Nat} (h : k < l.length) (h0 : 0 < k) (hl : ¬ v l[k] < mnl v (l.take k)) (p : Int) : Out v l (k + 1) #[.int .i64 (mnl v (l.take k)), .int .i64 p] := by
  right
  refine ⟨Nat.succ_pos _, p, ?_⟩
  rw [mnl_take h h0, decide_eq_false hl]
  rfl
theorem mnl_bd (v : Nat → Int) (l : List Nat) (h : l ≠ []) (hb : ∀ g ∈ l, 1 ≤ v g ∧ v g ≤ 13) : 1 ≤ mnl v l ∧ mnl v l ≤ 13 := by
  obtain ⟨g, hg, e⟩ := mnl_mem v l h
  rw [e]
  exact hb g hg
set_option maxHeartbeats 16000000 in
theorem least_swap (V : Nat → Nat → Int) (room : Nat) (a : Option Addr) (L cap b t f : Nat) (l : List Nat) (sw : Nat → Nat) (zs : List Int) (cur : Array Value) (w : World) (h : Job V room zs a L cap b t f cur w) (hl0 : 0 < l.length) (hl6 : l.length ≤ 6) (hlg : ∀ g ∈ l, g < 6) (hV : V t f = mnl (fun g => V (t + 1) (sw g) + 1) l)
    (hVb : ∀ g ∈ l, 0 ≤ V (t + 1) (sw g) ∧ V (t + 1) (sw g) ≤ 12)
    (hbit : ∀ h : t < zs.length, (bits BinOp.and IntKind.u64 ((f : Int) / 2 ^ (zs[t]'h).toNat) 1 == 1) = false)
    (G : World → Prop) (hG : ∀ W, w.grownBy W (some b) → G W)
    (hfull : ∀ (W : World) (_ : G W) (h : t < zs.length), Calls Tryz.prog 64 #[.agg #[.int .u64 f], .int .i64 (zs[t]'h), .int .i64 room] W fun e W' => e = .returned (.bool true) ∧ Below W.heap.size W W')
    (hlist : ∀ W : World, G W → Calls Tryz.prog 66 #[.int .u64 f] W fun e W' => ∃ b2 cap2, e = .returned (.slice (some ⟨b2, 0, none⟩) l.length cap2) ∧ W.heap.size ≤ b2 ∧ Lst l b2 W' ∧ Below W.heap.size W W')
    (hwith : ∀ (W : World) (_ : G W) (h : t < zs.length), ∀ g ∈ l, Calls Tryz.prog 65 #[.agg #[.int .u64 f], .int .i64 (zs[t]'h), .int .i64 (g : Int)] W fun e W' => e = .returned (.agg #[.int .u64 (sw g)]) ∧ Below W.heap.size W W')
    (hrec : ∀ g ∈ l, ∀ W cur, G W → Tbl V room a L cap b cur W → PgOK zs a b W → Calls Tryz.prog 56 #[.pointer (some ⟨b, 0, none⟩), .int .i64 ((t : Int) + 1), .agg #[.int .u64 (sw g)]] W (LeastAt V room a L cap b (t + 1) (sw g) W)) :
    Calls Tryz.prog 56 #[.pointer (some ⟨b, 0, none⟩), .int .i64 t, .agg #[.int .u64 f]] w (LeastAt V room a L cap b t f w) := by
  obtain ⟨hzl, hL, ht, hf, hT, hP, k1, k2, hp⟩ := h
  have hb := hT.blk.lt
  have c1 := hT.blk.cell 1 hT.pages
  have ht1 : (t : Int) < 12 := by omega
  have ht2 : (t : Int) ≠ L := by omega
  have ht3 : (t : Int) < L := by omega
  have hf1 : (f : Int) < 64 := by omega
  have htz : t < zs.length := by omega
  have hbit := hbit htz
  have hfull := fun W hW => hfull W hW htz
  have hwith := fun W hW => hwith W hW htz
  obtain ⟨hp0, hp1⟩ := hp zs[t] (List.getElem_mem _)
  have hbx := Bx.start w f
  obtain ⟨pb, off, rfl, hpb, hpw, hpc⟩ := hP t (by omega)
  go_enter Tryz.func56, Tryz.ntmps56
  go_wp2
  generalize World.alloc (World.alloc w _) _ = W1 at hbx ⊢
  have hb1 : b < W1.heap.size := by rw [hbx.size]; omega
  have c2 : W1.cell? ⟨b, 2 + t * 128 + f * 2, none⟩ = some (.int .i64 0) := (hbx.low.cell (p := ⟨b, _, none⟩) hb).trans (hT.blk.cell _ k1)
  have c3 : W1.cell? ⟨b, 2 + t * 128 + f * 2 + 1, none⟩ = some (.int .i64 0) := (hbx.low.cell (p := ⟨b, _, none⟩) hb).trans (hT.blk.cell _ k2)
  have c4 := hbx.fl.cell 0 rfl
  have n1 : w.heap.size < W1.heap.size := by rw [hbx.size]; omega
  have n2 : w.heap.size + 1 < W1.heap.size := by rw [hbx.size]; omega
  clear c1 k1 k2
  go_region
  have hbx2 := hbx.next (b := b) (.cells #[.int .i64 0, .int .i64 0] 95)
  have h7 : Blk ((W1.alloc (.cells #[.int .i64 0, .int .i64 0] 95)).drew) W1.heap.size #[.int .i64 0, .int .i64 0] 95 := (Blk.new W1 _ _).drew
  generalize World.drew (World.alloc W1 _) = W2 at hbx2 h7 ⊢
  clear c2 c3 c4 n1 n2 hb1
  have hb2 : b < W2.heap.size := Nat.lt_of_lt_of_le hb hbx2.low.size
  have hT2 : Tbl V room (some ⟨pb, off, none⟩) L cap b cur W2 := hT.other ((hbx2.low.block b hb).trans hT.blk)
  have d1 := hT2.blk.cell 1 hT2.pages
  have d2 : W2.cell? ⟨pb, off + t, none⟩ = some (.int .i64 zs[t]) := (hbx2.low.cell (p := ⟨pb, _, none⟩) hpw).trans hpc
  have d3 := hbx2.fl.cell 0 rfl
  have d4 := h7.cell 0 rfl
  have d5 := h7.cell 1 rfl
  have n1 : w.heap.size < W2.heap.size := by have := hbx2.size; omega
  have n2 : w.heap.size + 1 < W2.heap.size := hbx2.size
  have n3 : pb < W2.heap.size := by omega
  have n4 := h7.lt
  have hM3 : Mid V room zs (some ⟨pb, off, none⟩) L cap b f W2.heap.size #[.int .i64 0, .int .i64 0] cur w (W2.alloc (.cells #[.int .i64 0, .int .i64 0] 95)) :=
    ⟨hbx2.fl.alloc _, hbx2.out.alloc _, Blk.new W2 _ _, hT2.other (hT2.blk.alloc _), hP, gb_trans (gb_below hbx2.low) (gb_alloc _ _ _), n2, hb⟩
  go_wp2
  generalize World.alloc W2 _ = W3 at hM3 ⊢
  clear n1 n2 n3 n4 d1 d2 d3 d4 d5 h7 hT2 hb2 hbx2 hbx hpc hP hT
  have d1 := hM3.tbl.blk.cell 0 hM3.tbl.room
  have d3 := hM3.fl.cell 0 rfl
  go_region_with (go_at_call 64; refine (hfull _ (hG _ hM3.drew.low)).mono ?_; rintro e W4 ⟨rfl, hB4⟩; have hM4 := hM3.drew.below hB4)
  all_goals
    have e0 := hM4.fl.cell 0 rfl
    have n9 := hM4.res.lt
    go_wp2_with (go_at_call 66; refine (hlist _ (hG _ hM4.low)).mono ?_; rintro e W5 ⟨b2, cap2, rfl, hb2, hL5, hB5⟩; have hM5 := hM4.below hB5)
    clear e0 d1 d3 hfull hlist hB4 hB5 hM3
    have hH5 : Head V room zs (some ⟨pb, off, none⟩) L cap b f W2.heap.size b2 (fun g => V (t + 1) (sw g) + 1) l 0 w W5 := ⟨_, _, hM5, hL5, .inl ⟨rfl, rfl⟩, by omega⟩
    clear hM5 hL5 hM4 n9 hb2
    go_loopw [47] (fun i wr => ∃ k : Nat, i = .int .i64 k ∧ k ≤ l.length ∧ Head V room zs (some ⟨pb, off, none⟩) L cap b f W2.heap.size b2 (fun g => V (t + 1) (sw g) + 1) l k w wr) (fun i _ => l.length - (intOf i).toNat)
    case atStart => exact ⟨0, rfl, Nat.zero_le _, hH5⟩
    case round =>
      obtain ⟨k, rfl, hk, r, cur5, hM, hLs, hO, hn9⟩ := hrel
      obtain ⟨wi, rfl⟩ : ∃ wi, wi = wr := ⟨wr, rfl⟩
      clear hH5
      by_cases hkl : k < l.length
      · have cl := hLs.cell hkl
        have hg6 := hlg l[k] (List.getElem_mem _)
        obtain ⟨hx0, hx1⟩ := hVb l[k] (List.getElem_mem _)
        have hwk := fun W hW => hwith W hW l[k] (List.getElem_mem _)
        have hrk := hrec l[k] (List.getElem_mem _)
        have e0 := hM.fl.cell 0 rfl
        rcases hO with ⟨hk0, rfl⟩ | ⟨hk0, p, rfl⟩
        · have hk1 : k < 1 := by omega
          clear hk0
          go_wp2_with (first | (go_at_call 65; refine (hwk _ (hG _ hM.low)).mono ?_; rintro e W5 ⟨rfl, hB5⟩; have hM5 := hM.below hB5; have hL5 := hLs.kept (gb_below hB5 (r := none)) (by simp)) | (go_at_call 56; refine (hrk _ _ (hG _ hM5.low) hM5.tbl hM5.pgsW).mono ?_; rintro e W6 ⟨pl, cur6, rfl, hT6, hg6⟩; have hM6 := hM5.call hg6 hT6; have hL6 := hL5.kept hg6 (by have := hM5.blo; have := hM5.nlo; simp; omega); have e1 := hM6.res.cell 0 rfl; have e2 := hM6.res.cell 1 rfl; have e3 := hM6.res.frozen 0; have e4 := hM6.res.frozen 1; have e5 := hM6.res.lt))
          refine ⟨⟨k + 1, by simp, by omega, Head.next (r := #[.int .i64 (V (t + 1) (sw l[k]) + 1), .int .i64 pl]) (((hM6.set 0 _).set 1 _).alloc _) (((hL6.other _ _ (by omega)).other _ _ (by omega)).kept (gb_alloc _ _ none) (by simp)) hn9 ?_⟩, by simp [intOf]; omega⟩
          obtain rfl : k = 0 := by omega
          exact out_first (v := fun g => V (t + 1) (sw g) + 1) hkl pl
        · have hm := mnl_bd (fun g => V (t + 1) (sw g) + 1) (l.take k) (by intro e; have := congrArg List.length e; rw [List.length_take, List.length_nil] at this; omega) (fun g hg => by have := hVb g (List.mem_of_mem_take hg); omega)
          have o1 := out_less (v := fun g => V (t + 1) (sw g) + 1) hkl hk0
          have o2 := out_more (v := fun g => V (t + 1) (sw g) + 1) hkl hk0
          have O1 := Lib.hid o1
          have O2 := Lib.hid o2
          clear o1 o2
          obtain ⟨m, hmm⟩ : ∃ m, m = mnl (fun g => V (t + 1) (sw g) + 1) (l.take k) := ⟨_, rfl⟩
          rw [← hmm] at hm hM O1 O2
          clear hmm
          have hm0 : (m == 0) = false := by simp; omega
          by_cases hlm : V (t + 1) (sw l[k]) + 1 < m
          · go_wp2_with (first | (go_at_call 65; refine (hwk _ (hG _ hM.low)).mono ?_; rintro e W5 ⟨rfl, hB5⟩; have hM5 := hM.below hB5; have hL5 := hLs.kept (gb_below hB5 (r := none)) (by simp)) | (go_at_call 56; refine (hrk _ _ (hG _ hM5.low) hM5.tbl hM5.pgsW).mono ?_; rintro e W6 ⟨pl, cur6, rfl, hT6, hg6⟩; have hM6 := hM5.call hg6 hT6; have hL6 := hL5.kept hg6 (by have := hM5.blo; have := hM5.nlo; simp; omega); have e1 := hM6.res.cell 0 rfl; have e2 := hM6.res.cell 1 rfl; have e3 := hM6.res.frozen 0; have e4 := hM6.res.frozen 1; have e5 := hM6.res.lt))
            exact ⟨⟨k + 1, by simp, by omega, Head.next (r := #[.int .i64 (V (t + 1) (sw l[k]) + 1), .int .i64 pl]) (((hM6.set 0 _).set 1 _).alloc _) (((hL6.other _ _ (by omega)).other _ _ (by omega)).kept (gb_alloc _ _ none) (by simp)) hn9 (O1.out hlm pl)⟩, by simp [intOf]; omega⟩
          · by_cases heq : V (t + 1) (sw l[k]) + 1 = m
            · have heq' : (V (t + 1) (sw l[k]) + 1 == m) = true := by simp [heq]
              have HE := Lib.hid heq
              clear heq
              go_wp2_with (first | (go_at_call 65; refine (hwk _ (hG _ hM.low)).mono ?_; rintro e W5 ⟨rfl, hB5⟩; have hM5 := hM.below hB5; have hL5 := hLs.kept (gb_below hB5 (r := none)) (by simp)) | (go_at_call 56; refine (hrk _ _ (hG _ hM5.low) hM5.tbl hM5.pgsW).mono ?_; rintro e W6 ⟨pl, cur6, rfl, hT6, hg6⟩; have hM6 := hM5.call hg6 hT6; have hL6 := hL5.kept hg6 (by have := hM5.blo; have := hM5.nlo; simp; omega); have e1 := hM6.res.cell 0 rfl; have e2 := hM6.res.cell 1 rfl; have e3 := hM6.res.frozen 0; have e4 := hM6.res.frozen 1; have e5 := hM6.res.lt))
              exact ⟨⟨k + 1, by simp, by omega, Head.next (r := #[.int .i64 m, .int .i64 _]) ((hM6.set 1 _).alloc _) ((hL6.other _ _ (by omega)).kept (gb_alloc _ _ none) (by simp)) hn9 (O2.out hlm _)⟩, by simp [intOf]; omega⟩
            · have heq' : (V (t + 1) (sw l[k]) + 1 == m) = false := by simp [heq]
              go_wp2_with (first | (go_at_call 65; refine (hwk _ (hG _ hM.low)).mono ?_; rintro e W5 ⟨rfl, hB5⟩; have hM5 := hM.below hB5; have hL5 := hLs.kept (gb_below hB5 (r := none)) (by simp)) | (go_at_call 56; refine (hrk _ _ (hG _ hM5.low) hM5.tbl hM5.pgsW).mono ?_; rintro e W6 ⟨pl, cur6, rfl, hT6, hg6⟩; have hM6 := hM5.call hg6 hT6; have hL6 := hL5.kept hg6 (by have := hM5.blo; have := hM5.nlo; simp; omega); have e1 := hM6.res.cell 0 rfl; have e2 := hM6.res.cell 1 rfl; have e3 := hM6.res.frozen 0; have e4 := hM6.res.frozen 1; have e5 := hM6.res.lt))
              exact ⟨⟨k + 1, by simp, by omega, Head.next (r := #[.int .i64 m, .int .i64 p]) (hM6.alloc _) (hL6.kept (gb_alloc _ _ none) (by simp)) hn9 (O2.out hlm p)⟩, by simp [intOf]; omega⟩
      · obtain rfl : k = l.length := by omega
        rcases hO with ⟨hk0, _⟩ | ⟨hk0, p, rfl⟩
        · omega
        rw [List.take_length] at hM
        have hR := hM.rest hV
        clear hM hV hVb hlg hwith hrec hbit hLs hp
        go_wp2
        have r1 := hR.fl.cell 0 rfl
        have r2 := hR.res.cell 0 rfl
        have r3 := hR.res.cell 1 rfl
        obtain ⟨s0, q0, k1, k2, k3⟩ := hR.tbl.known t f (by omega) hf
        have r4 := hR.tbl.blk.cell _ k1
        have r5 := hR.tbl.blk.cell _ k2
        have r6 := fun j => hR.tbl.blk.frozen j
        have r7 := hR.out.cell 0 rfl
        have r8 := hR.out.cell 1 rfl
        have r9 := hR.out.frozen 0
        have r10 := hR.out.frozen 1
        have m1 := hR.res.lt
        have m2 := hR.out.lt
        obtain ⟨f1, cur', f2, f3⟩ := hR.fin (by omega) hf hb
        clear k1 k2 k3 hR
        go_region
        go_wp2
        exact bodyPost_ret (v := .agg #[.int .i64 (V t f), .int .i64 p]) (least_res rfl f1.drew) rfl ⟨p, cur', rfl, f2.other f2.blk.drew, gb_trans f3 (gb_drew _ _)⟩
end Go.Proofs.YtkfkbebinhkdlaaGreatDoor
set_option linter.unusedVariables false
set_option linter.unusedSimpArgs false
set_option maxRecDepth 100000
namespace Go.Proofs.YtkfkbebinhkdlaaGreatDoor
open Go.Vi
abbrev R55 := Int
noncomputable def c55 : Code := bodyOf Tryz.f55
noncomputable def an55 : Ann := (.s .l (.s (.j [] (.s .l (.j [] .l (.s .l (.j [] .l (.s .l (.j [] .l .l)))))) .l) .l))
def pk55 : List PK := [.c (.pair (.int .i64) (.sl (.int .i64)))]
def rk55 : List RK := [.c (.int .i64) 2]
noncomputable def rt55 (st : St) : Option R55 := rtG rk55 st
noncomputable def E55 (n : Nat × Nat) : Env := { T := tab, phi := (consPhi 34 (isFns [none, some 63]) (P34c63 n) noPhi), eff := fun _ => false, fuel := n.1, hold := n.2 }
noncomputable def S55 (n : Nat × Nat) (j0 : Int × List Int) : Option R55 := run (E55 n) c55 an55 rt55 (fun _ _ => none) rt55 { tm := [.agg [.int .i64 j0.1, .sl (.int .i64) j0.2 false], uu, uu, uu, uu, uu, uu, uu, uu, uu, uu, uu, uu, uu, uu, uu, uu, uu, uu, uu, uu], hp := emp }
theorem S55_eq (n : Nat × Nat) (j0 : Int × List Int) : S55 n j0 =
 ((bif (decide (j0.1 < 1) == false) then some (decide (j0.1 > 5))
 else some true)).bind fun b1' =>
 (bif b1' then some 1
 else (bif decide ((j0.2.length : Int) > 12) then some 3
 else (S34c63 n j0.2).bind fun r2' =>
 (bif r2' then some 2
 else some 0))) := by kernel_rfl
theorem S55_run (n : Nat × Nat) (xs : pksDen pk55) : S55 n xs.1 = runG (E55 n) noScope c55 an55 (rtG rk55) (fun _ _ => none) (rtG rk55) (st0 pk55 xs Tryz.f55.ntmps) := by kernel_rfl
noncomputable def P55 (n : Nat × Nat) := phiOf pk55 rk55 (fun xs => S55 n xs.1)
theorem env55 (n : Nat × Nat) : EnvOK Tryz.prog (E55 n) := envOK0 (consPhi_ok (FC34c63 n) call34 noPhi_ok) rfl rfl
theorem par55 (n : Nat × Nat) : EnvPar (E55 n) := envPar0 (consPhi_par phiOf_Par1 noPhi_par) rfl
theorem FC55 (n : Nat × Nat) : FCs Tryz.prog 55 (P55 n) := phiOf_FCs fun xs r h vs hv => FC.of_runG tabOK eqsOK (env55 n) (par55 n) mixed (fun _ p _ => noScope_ok p.1 p.2) Tryz.func55 (c := c55) (an := an55) (pks := pk55) (rks := rk55) (by kernel_rfl) (by kernel_rfl) hv ((S55_run n xs).symm.trans h)
/-D 63 -/
noncomputable def D63 (n : Nat × Nat) (p0 : Int) : Option R63 :=
 ((bif (decide (p0 < 0) == false) then some (decide (p0 ≥ 6))
 else some true)).bind fun b1' =>
 some b1'
theorem S63_D (n : Nat × Nat) (hn : n.2 = 1) : S63 n = D63 n := by
  funext p0; refine (S63_eq n p0).trans ?_
  unfold D63
  first | with_reducible rfl | rfl
/-D 43c63 -/
noncomputable def DF43c63_1 (n : Nat × Nat) (f1 : List Int → Int → Int → Option R43c63) (s0 : List Int) (v7 : Int) (v8 : Int) : Option R43c63 :=
 (bif decide (v8 < v7) then (idx s0 v8).bind fun x1' =>
 (D63 n x1').bind fun r2' =>
 (bif r2' then some v8
 else f1 s0 v7 (wr .i64 (v8 + 1)))
 else some (-1))
noncomputable def DL43c63_1 (n : Nat × Nat) (m : Nat) : List Int → Int → Int → Option R43c63 := Nat.rec (motive := fun _ => List Int → Int → Int → Option R43c63) (fun _ _ _ => none) (fun _ ih => DF43c63_1 n ih) m
theorem DL43c63_1_succ (n : Nat × Nat) (m : Nat) : DL43c63_1 n (m + 1) = DF43c63_1 n (DL43c63_1 n m) := rfl
theorem DL43c63_1_eq (n : Nat × Nat) (hn : n.2 = 1) : ∀ m, L43c63_1 n m = DL43c63_1 n m
  | 0 => by funext s0 v7 v8; kernel_rfl
  | m + 1 => by
    have ih := DL43c63_1_eq n hn m
    funext s0 v7 v8; refine (L43c63_1_eq n m s0 v7 v8).trans ?_
    rw [DL43c63_1_succ]
    unfold DF43c63_1
    (try simp only [ih, S63_D n hn]) <;> first | with_reducible rfl | rfl
noncomputable def D43c63 (n : Nat × Nat) (s0 : List Int) : Option R43c63 :=
    DL43c63_1 n n.1 s0 (s0.length : Int) 0
theorem S43c63_D (n : Nat × Nat) (hn : n.2 = 1) : S43c63 n = D43c63 n := by
  funext s0; refine (S43c63_eq n s0).trans ?_
  unfold D43c63
  (try simp only [DL43c63_1_eq n hn, S63_D n hn]) <;> first | with_reducible rfl | rfl
/-D 34c63 -/
noncomputable def D34c63 (n : Nat × Nat) (s0 : List Int) : Option R34c63 :=
 (D43c63 n s0).bind fun r1' =>
 some (decide (r1' ≥ 0))
theorem S34c63_D (n : Nat × Nat) (hn : n.2 = 1) : S34c63 n = D34c63 n := by
  funext s0; refine (S34c63_eq n s0).trans ?_
  unfold D34c63
  (try simp only [S43c63_D n hn]) <;> first | with_reducible rfl | rfl
/-D 55 -/
noncomputable def D55 (n : Nat × Nat) (j0 : Int × List Int) : Option R55 :=
 ((bif (decide (j0.1 < 1) == false) then some (decide (j0.1 > 5))
 else some true)).bind fun b1' =>
 (bif b1' then some 1
 else (bif decide ((j0.2.length : Int) > 12) then some 3
 else (D34c63 n j0.2).bind fun r2' =>
 (bif r2' then some 2
 else some 0)))
theorem S55_D (n : Nat × Nat) (hn : n.2 = 1) : S55 n = D55 n := by
  funext j0; refine (S55_eq n j0).trans ?_
  unfold D55
  (try simp only [S34c63_D n hn]) <;> first | with_reducible rfl | rfl
/- math/bits.OnesCount64 -/
abbrev R82 := Int
noncomputable def c82 : Code := bodyOf Tryz.f82
noncomputable def an82 : Ann := .l
def pk82 : List PK := [.c (.int .u64)]
def rk82 : List RK := [.c (.int .i64) 2]
noncomputable def rt82 (st : St) : Option R82 := rtG rk82 st
noncomputable def E82 (n : Nat × Nat) : Env := { T := tab, phi := noPhi, eff := fun _ => false, fuel := n.1, hold := n.2 }
noncomputable def S82 (n : Nat × Nat) (x0 : Int) : Option R82 := run (E82 n) c82 an82 rt82 (fun _ _ => none) rt82 { tm := [.c (.int .u64 x0), uu, uu, uu, uu, uu, uu, uu, uu, uu, uu, uu, uu, uu, uu, uu, uu, uu, uu, uu, uu, uu, uu, uu, uu, uu, uu, uu, uu, uu, uu, uu, uu, uu, uu], hp := emp }
noncomputable def o82_1 (x0 : Int) : Int := (wr .u64 ((wr .u64 (BitVec.ofInt (IntKind.bits .u64) (Int.fdiv x0 (2 ^ (min (Int.toNat 1) (IntKind.bits .u64)))) &&& BitVec.ofInt (IntKind.bits .u64) 6148914691236517205).toNat) + (wr .u64 (BitVec.ofInt (IntKind.bits .u64) x0 &&& BitVec.ofInt (IntKind.bits .u64) 6148914691236517205).toNat)))
noncomputable def o82_2 (y1 : Int) : Int := (wr .u64 ((wr .u64 (BitVec.ofInt (IntKind.bits .u64) (Int.fdiv y1 (2 ^ (min (Int.toNat 2) (IntKind.bits .u64)))) &&& BitVec.ofInt (IntKind.bits .u64) 3689348814741910323).toNat) + (wr .u64 (BitVec.ofInt (IntKind.bits .u64) y1 &&& BitVec.ofInt (IntKind.bits .u64) 3689348814741910323).toNat)))
noncomputable def o82_3 (y2 : Int) : Int := (wr .u64 ((Int.fdiv y2 (2 ^ (min (Int.toNat 4) (IntKind.bits .u64)))) + y2))
noncomputable def o82_4 (y3 : Int) : Int := (wr .u64 (BitVec.ofInt (IntKind.bits .u64) y3 &&& BitVec.ofInt (IntKind.bits .u64) 1085102592571150095).toNat)
noncomputable def o82_5 (y4 : Int) : Int := (wr .u64 (y4 + (Int.fdiv y4 (2 ^ (min (Int.toNat 8) (IntKind.bits .u64))))))
noncomputable def o82_6 (y5 : Int) : Int := (wr .u64 (y5 + (Int.fdiv y5 (2 ^ (min (Int.toNat 16) (IntKind.bits .u64))))))
noncomputable def o82_7 (y6 : Int) : Int := (wr .i64 (BitVec.ofInt (IntKind.bits .i64) (wr .i64 (wr .u64 (y6 + (Int.fdiv y6 (2 ^ (min (Int.toNat 32) (IntKind.bits .u64))))))) &&& BitVec.ofInt (IntKind.bits .i64) 127).toNat)
theorem S82_eq (n : Nat × Nat) (x0 : Int) : S82 n x0 =
 (bif decide (1 < 0) then none
 else (bif decide (2 < 0) then none
 else (bif decide (4 < 0) then none
 else (bif decide (8 < 0) then none
 else (bif decide (16 < 0) then none
 else (bif decide (32 < 0) then none
 else some (o82_7 (o82_6 (o82_5 (o82_4 (o82_3 (o82_2 (o82_1 x0))))))))))))) := by kernel_rfl
theorem S82_run (n : Nat × Nat) (xs : pksDen pk82) : S82 n xs.1 = runG (E82 n) noScope c82 an82 (rtG rk82) (fun _ _ => none) (rtG rk82) (st0 pk82 xs Tryz.f82.ntmps) := by kernel_rfl
noncomputable def P82 (n : Nat × Nat) := phiOf pk82 rk82 (fun xs => S82 n xs.1)
theorem call82 : CallOK Tryz.prog 82 := callOK_of Tryz.func82 (by kernel_rfl) (by kernel_rfl)
theorem env82 (n : Nat × Nat) : EnvOK Tryz.prog (E82 n) := envOK0 noPhi_ok rfl rfl
theorem par82 (n : Nat × Nat) : EnvPar (E82 n) := envPar0 noPhi_par rfl
theorem FC82 (n : Nat × Nat) : FCs Tryz.prog 82 (P82 n) := phiOf_FCs fun xs r h vs hv => FC.of_runG tabOK eqsOK (env82 n) (par82 n) mixed (fun _ p _ => noScope_ok p.1 p.2) Tryz.func82 (c := c82) (an := an82) (pks := pk82) (rks := rk82) (by kernel_rfl) (by kernel_rfl) hv ((S82_run n xs).symm.trans h)
/- math/bits.OnesCount -/
abbrev R72 := Int
noncomputable def c72 : Code := bodyOf Tryz.f72
noncomputable def an72 : Ann := (.s .l (.s (.j [0] .l .l) .l))
def pk72 : List PK := [.c (.int .u64)]
def rk72 : List RK := [.c (.int .i64) 2]
noncomputable def rt72 (st : St) : Option R72 := rtG rk72 st
noncomputable def E72 (n : Nat × Nat) : Env := { T := tab, phi := (consPhi 82 (fun _ => true) (P82 n) noPhi), eff := fun _ => false, fuel := n.1, hold := n.2 }
noncomputable def S72 (n : Nat × Nat) (x0 : Int) : Option R72 := run (E72 n) c72 an72 rt72 (fun _ _ => none) rt72 { tm := [.c (.int .u64 x0), uu, uu, uu, uu, uu, uu, uu], hp := emp }
theorem S72_eq (n : Nat × Nat) (x0 : Int) : S72 n x0 =
 (S82 n x0).bind fun r1' =>
 some r1' := by kernel_rfl
theorem S72_run (n : Nat × Nat) (xs : pksDen pk72) : S72 n xs.1 = runG (E72 n) noScope c72 an72 (rtG rk72) (fun _ _ => none) (rtG rk72) (st0 pk72 xs Tryz.f72.ntmps) := by kernel_rfl
noncomputable def P72 (n : Nat × Nat) := phiOf pk72 rk72 (fun xs => S72 n xs.1)
theorem call72 : CallOK Tryz.prog 72 := callOK_of Tryz.func72 (by kernel_rfl) (by kernel_rfl)
theorem env72 (n : Nat × Nat) : EnvOK Tryz.prog (E72 n) := envOK0 (consPhi_ok (FC82 n) call82 noPhi_ok) rfl rfl
theorem par72 (n : Nat × Nat) : EnvPar (E72 n) := envPar0 (consPhi_par phiOf_Par1 noPhi_par) rfl
theorem FC72 (n : Nat × Nat) : FCs Tryz.prog 72 (P72 n) := phiOf_FCs fun xs r h vs hv => FC.of_runG tabOK eqsOK (env72 n) (par72 n) mixed (fun _ p _ => noScope_ok p.1 p.2) Tryz.func72 (c := c72) (an := an72) (pks := pk72) (rks := rk72) (by kernel_rfl) (by kernel_rfl) hv ((S72_run n xs).symm.trans h)
/- (headword/stand.floor).full -/
abbrev R64 := Bool
noncomputable def c64 : Code := bodyOf Tryz.f64
noncomputable def an64 : Ann := .l
def pk64 : List PK := [.c (.pair (.int .u64) .unit), .c (.int .i64), .c (.int .i64)]
def rk64 : List RK := [.c .bool 6]
noncomputable def rt64 (st : St) : Option R64 := rtG rk64 st
noncomputable def E64 (n : Nat × Nat) : Env := { T := tab, phi := (consPhi 72 (fun _ => true) (P72 n) noPhi), eff := fun _ => false, fuel := n.1, hold := n.2 }
noncomputable def S64 (n : Nat × Nat) (f0 : Int × Unit) (page1 : Int) (room2 : Int) : Option R64 := run (E64 n) c64 an64 rt64 (fun _ _ => none) rt64 { tm := [.agg [.int .u64 f0.1], .c (.int .i64 page1), .c (.int .i64 room2), uu, uu, uu, uu, uu, uu, uu, uu, uu, uu, uu, uu, uu, uu, uu, uu, uu], hp := emp }
theorem S64_eq (n : Nat × Nat) (f0 : Int × Unit) (page1 : Int) (room2 : Int) : S64 n f0 page1 room2 =
 (bif decide (page1 < 0) then none
 else ((bif (((wr .u64 (BitVec.ofInt (IntKind.bits .u64) (Int.fdiv f0.1 (2 ^ (min (Int.toNat page1) (IntKind.bits .u64)))) &&& BitVec.ofInt (IntKind.bits .u64) 1).toNat) == 0) == true) then (S72 n f0.1).bind fun r1' =>
 some (decide (r1' ≥ room2))
 else some false)).bind fun b2' =>
 some b2') := by kernel_rfl
theorem S64_run (n : Nat × Nat) (xs : pksDen pk64) : S64 n xs.1 xs.2.1 xs.2.2.1 = runG (E64 n) noScope c64 an64 (rtG rk64) (fun _ _ => none) (rtG rk64) (st0 pk64 xs Tryz.f64.ntmps) := by kernel_rfl
noncomputable def P64 (n : Nat × Nat) := phiOf pk64 rk64 (fun xs => S64 n xs.1 xs.2.1 xs.2.2.1)
theorem env64 (n : Nat × Nat) : EnvOK Tryz.prog (E64 n) := envOK0 (consPhi_ok (FC72 n) call72 noPhi_ok) rfl rfl
theorem par64 (n : Nat × Nat) : EnvPar (E64 n) := envPar0 (consPhi_par phiOf_Par1 noPhi_par) rfl
theorem FC64 (n : Nat × Nat) : FCs Tryz.prog 64 (P64 n) := phiOf_FCs fun xs r h vs hv => FC.of_runG tabOK eqsOK (env64 n) (par64 n) mixed (fun _ p _ => noScope_ok p.1 p.2) Tryz.func64 (c := c64) (an := an64) (pks := pk64) (rks := rk64) (by kernel_rfl) (by kernel_rfl) hv ((S64_run n xs).symm.trans h)
/-D 82 -/
noncomputable def D82 (n : Nat × Nat) (x0 : Int) : Option R82 :=
 (bif decide (1 < 0) then none
 else (bif decide (2 < 0) then none
 else (bif decide (4 < 0) then none
 else (bif decide (8 < 0) then none
 else (bif decide (16 < 0) then none
 else (bif decide (32 < 0) then none
 else some (o82_7 (o82_6 (o82_5 (o82_4 (o82_3 (o82_2 (o82_1 x0)))))))))))))
theorem S82_D (n : Nat × Nat) (hn : n.2 = 1) : S82 n = D82 n := by
  funext x0; exact S82_eq n x0
/-D 72 -/
noncomputable def D72 (n : Nat × Nat) (x0 : Int) : Option R72 :=
 (D82 n x0).bind fun r1' =>
 some r1'
theorem S72_D (n : Nat × Nat) (hn : n.2 = 1) : S72 n = D72 n := by
  funext x0; refine (S72_eq n x0).trans ?_
  unfold D72
  (try simp only [S82_D n hn]) <;> first | with_reducible rfl | rfl
/-D 64 -/
noncomputable def D64 (n : Nat × Nat) (f0 : Int × Unit) (page1 : Int) (room2 : Int) : Option R64 :=
 (bif decide (page1 < 0) then none
 else ((bif (((wr .u64 (BitVec.ofInt (IntKind.bits .u64) (Int.fdiv f0.1 (2 ^ (min (Int.toNat page1) (IntKind.bits .u64)))) &&& BitVec.ofInt (IntKind.bits .u64) 1).toNat) == 0) == true) then (D72 n f0.1).bind fun r1' =>
 some (decide (r1' ≥ room2))
 else some false)).bind fun b2' =>
 some b2')
theorem S64_D (n : Nat × Nat) (hn : n.2 = 1) : S64 n = D64 n := by
  funext f0 page1 room2; refine (S64_eq n f0 page1 room2).trans ?_
  unfold D64
  (try simp only [S72_D n hn]) <;> first | with_reducible rfl | rfl
/- (headword/stand.floor).with -/
abbrev R65 := Int × Unit
noncomputable def c65 : Code := bodyOf Tryz.f65
noncomputable def an65 : Ann := (.s .l (.s (.s .l (.j [1, 3, 6] .l .l)) .l))
def pk65 : List PK := [.c (.pair (.int .u64) .unit), .c (.int .i64), .c (.int .i64)]
def rk65 : List RK := [.box (.pair (.int .u64) .unit) 6]
noncomputable def rt65 (st : St) : Option R65 := rtG rk65 st
noncomputable def E65 (n : Nat × Nat) : Env := { T := tab, phi := noPhi, eff := fun _ => false, fuel := n.1, hold := n.2 }
noncomputable def S65 (n : Nat × Nat) (f0 : Int × Unit) (page1 : Int) (gone2 : Int) : Option R65 := run (E65 n) c65 an65 rt65 (fun _ _ => none) rt65 { tm := [.agg [.int .u64 f0.1], .c (.int .i64 page1), .c (.int .i64 gone2), uu, uu, uu, uu, uu, uu, uu, uu, uu, uu, uu, uu, uu, uu, uu, uu, uu, uu, uu], hp := emp }
theorem S65_eq (n : Nat × Nat) (f0 : Int × Unit) (page1 : Int) (gone2 : Int) : S65 n f0 page1 gone2 =
 (bif decide (gone2 ≥ 0) then (bif decide (gone2 < 0) then none
 else (bif decide (page1 < 0) then none
 else some (wr .u64 (BitVec.ofInt (IntKind.bits .u64) (wr .u64 (BitVec.ofInt (IntKind.bits .u64) f0.1 &&& ~~~BitVec.ofInt (IntKind.bits .u64) (wr .u64 (1 * 2 ^ (min (Int.toNat gone2) (IntKind.bits .u64))))).toNat) ||| BitVec.ofInt (IntKind.bits .u64) (wr .u64 (1 * 2 ^ (min (Int.toNat page1) (IntKind.bits .u64))))).toNat, ())))
 else (bif decide (page1 < 0) then none
 else some (wr .u64 (BitVec.ofInt (IntKind.bits .u64) f0.1 ||| BitVec.ofInt (IntKind.bits .u64) (wr .u64 (1 * 2 ^ (min (Int.toNat page1) (IntKind.bits .u64))))).toNat, ()))) := by kernel_rfl
theorem S65_run (n : Nat × Nat) (xs : pksDen pk65) : S65 n xs.1 xs.2.1 xs.2.2.1 = runG (E65 n) noScope c65 an65 (rtG rk65) (fun _ _ => none) (rtG rk65) (st0 pk65 xs Tryz.f65.ntmps) := by kernel_rfl
noncomputable def P65 (n : Nat × Nat) := phiOf pk65 rk65 (fun xs => S65 n xs.1 xs.2.1 xs.2.2.1)
theorem env65 (n : Nat × Nat) : EnvOK Tryz.prog (E65 n) := envOK0 noPhi_ok rfl rfl
theorem par65 (n : Nat × Nat) : EnvPar (E65 n) := envPar0 noPhi_par rfl
theorem FC65 (n : Nat × Nat) : FCs Tryz.prog 65 (P65 n) := phiOf_FCs fun xs r h vs hv => FC.of_runG tabOK eqsOK (env65 n) (par65 n) mixed (fun _ p _ => noScope_ok p.1 p.2) Tryz.func65 (c := c65) (an := an65) (pks := pk65) (rks := rk65) (by kernel_rfl) (by kernel_rfl) hv ((S65_run n xs).symm.trans h)
/-D 65 -/
noncomputable def D65 (n : Nat × Nat) (f0 : Int × Unit) (page1 : Int) (gone2 : Int) : Option R65 :=
 (bif decide (gone2 ≥ 0) then (bif decide (gone2 < 0) then none
 else (bif decide (page1 < 0) then none
 else some (wr .u64 (BitVec.ofInt (IntKind.bits .u64) (wr .u64 (BitVec.ofInt (IntKind.bits .u64) f0.1 &&& ~~~BitVec.ofInt (IntKind.bits .u64) (wr .u64 (1 * 2 ^ (min (Int.toNat gone2) (IntKind.bits .u64))))).toNat) ||| BitVec.ofInt (IntKind.bits .u64) (wr .u64 (1 * 2 ^ (min (Int.toNat page1) (IntKind.bits .u64))))).toNat, ())))
 else (bif decide (page1 < 0) then none
 else some (wr .u64 (BitVec.ofInt (IntKind.bits .u64) f0.1 ||| BitVec.ofInt (IntKind.bits .u64) (wr .u64 (1 * 2 ^ (min (Int.toNat page1) (IntKind.bits .u64))))).toNat, ())))
theorem S65_D (n : Nat × Nat) (hn : n.2 = 1) : S65 n = D65 n := by
  funext f0 page1 gone2; refine (S65_eq n f0 page1 gone2).trans ?_
  unfold D65
  first | with_reducible rfl | rfl
end Go.Proofs.YtkfkbebinhkdlaaGreatDoor
set_option linter.unusedVariables false
set_option linter.unusedSimpArgs false
set_option maxRecDepth 100000
namespace Go.Proofs.YtkfkbebinhkdlaaGreatDoor
open Go.RowKit Go.Vi
def tzTab : List Int := [0, 1, 56, 2, 57, 49, 28, 3, 61, 58, 42, 50, 38, 29, 17, 4, 62, 47, 59, 36, 45, 43, 51, 22, 53, 39, 33, 30, 24, 18, 12, 5, 63, 55, 48, 27, 60, 41, 37, 16, 46, 35, 44, 21, 52, 32, 23, 11, 54, 26, 40, 15, 34, 20, 31, 10, 25, 14, 19, 9, 13, 8, 7, 6]
def tzIx (x : Int) : Int := IntKind.u64.wrap (bits BinOp.and IntKind.u64 x (IntKind.u64.wrap (-x)) * 285870213051353865) / 288230376151711744
def tzF (x q : Int) : Option Int := bif x == 0 then some 64 else bif decide (0 ≤ q) && decide (q < 64) then tzTab[q.toNat]? else none
def HF84 (x : Int) : Option Int := tzF x (tzIx x)
theorem tzF_zero {q r : Int} (h : tzF 0 q = some r) : r = 64 := by
  have : tzF 0 q = some 64 := rfl
  rw [this] at h
  exact (Option.some.inj h).symm
theorem tzF_pos {x q r : Int} (hx : (x == 0) = false) (h : tzF x q = some r) : 0 ≤ q ∧ q < 64 ∧ tzTab[q.toNat]? = some r := by
  unfold tzF at h
  rw [hx, cond_false] at h
  cases hd : decide (0 ≤ q) && decide (q < 64) with
  | true =>
    rw [hd, cond_true] at h
    simp only [Bool.and_eq_true, decide_eq_true_eq] at hd
    exact ⟨hd.1, hd.2, h⟩
  | false => rw [hd, cond_false] at h; cases h
theorem tz_zero (w : World) : Calls Tryz.prog 84 #[.int .u64 0] w fun e W' => e = .returned (.int .i64 64) ∧ w = W' := by
  go_enter Tryz.func84, Tryz.ntmps84
  go_wp2
  go_ret
  exact ⟨rfl, rfl⟩
theorem tz_in (x r : Int) (w : World) (hx : (x == 0) = false) (h0 : 0 ≤ tzIx x) (h1 : tzIx x < 64) (hr0 : 0 ≤ r) (hr1 : r ≤ 64) (hc : w.cell? ⟨2, (tzIx x).toNat, none⟩ = some (.int .u8 r)) :
    Calls Tryz.prog 84 #[.int .u64 x] w fun e W' => e = .returned (.int .i64 r) ∧ w = W' := by
  unfold tzIx at h0 h1 hc
  go_enter Tryz.func84, Tryz.ntmps84
  go_wp2
  go_ret
  exact ⟨rfl, rfl⟩
theorem tz_bd {q : Nat} {r : Int} (h : tzTab[q]? = some r) : 0 ≤ r ∧ r ≤ 64 := by
  have hb : ∀ z ∈ tzTab, 0 ≤ z ∧ z ≤ 64 := by decide +kernel
  exact hb r (List.mem_of_getElem? h)
theorem tz_cell {w : World} {cur : Array Value} {et : TypeId} {fz : Nat × Nat} {q : Nat} {r : Int} (h3 : w.heap[2]? = some (.cells cur et fz)) (h4 : cur.toList = (tzTab.map fun z => (IntKind.u8, z)).map fun p => .int p.1 p.2) (h : tzTab[q]? = some r) :
    w.cell? ⟨2, q, none⟩ = some (.int .u8 r) := by
  simp only [World.cell?, h3]
  rw [← Array.getElem?_toList, h4]
  simp [List.getElem?_map, h]
theorem HC84 (n : Nat × Nat) (xs : pksDen [.c (.int .u64)]) (r : rksDen [.c (.int .i64) 0]) (h : HF84 xs.1 = some r) (vs : List V) (hv : pksArg [.c (.int .u64)] vs = some xs) :
    FC Tryz.prog 84 vs (rets [.c (.int .i64) 0] r) := by
  obtain ⟨x, ⟨⟩⟩ := xs
  intro w A0 args hA hargs hgl
  have hv2 := pksArg_VR _ _ _ _ hv hargs
  match args, hv2 with
  | [u1], hv2 =>
    have e1 : u1 = .int .u64 x := hv2.1
    subst e1
    have key : Calls Tryz.prog 84 #[.int .u64 x] w fun e W' => e = .returned (.int .i64 (r : Int)) ∧ w = W' := by
      cases hz : x == 0 with
      | true =>
        obtain rfl : x = 0 := by simpa using hz
        obtain rfl : r = 64 := tzF_zero h
        exact tz_zero w
      | false =>
        obtain ⟨h5, h6, h7⟩ := tzF_pos hz h
        obtain ⟨h1, h2, cur, et, fz, h3, h4⟩ := hgl 2 (tzTab.map fun z => (IntKind.u8, z)) rfl
        have hr := tz_bd h7
        exact tz_in x r w hz h5 h6 hr.1 hr.2 (tz_cell h3 h4 h7)
    refine key.mono ?_
    rintro e W' ⟨rfl, rfl⟩
    exact ⟨⟨Nat.le_refl _, rfl, rfl, rfl, fun _ _ => rfl⟩, [.emp], [_], rfl, rfl, fun b c h => (by cases h), trivial⟩
end Go.Proofs.YtkfkbebinhkdlaaGreatDoor
set_option linter.unusedVariables false
set_option linter.unusedSimpArgs false
set_option maxRecDepth 100000
namespace Go.Proofs.YtkfkbebinhkdlaaGreatDoor
open Go.Vi
/- math/bits.TrailingZeros64 -/
abbrev R84 := Int
def pk84 : List PK := [.c (.int .u64)]
def rk84 : List RK := [.c (.int .i64) 0]
noncomputable def S84 (n : Nat × Nat) (x0 : Int) : Option R84 := HF84 x0
noncomputable def P84 (n : Nat × Nat) := phiOf pk84 rk84 (fun xs => S84 n xs.1)
theorem call84 : CallOK Tryz.prog 84 := callOK_of Tryz.func84 (by kernel_rfl) (by kernel_rfl)
theorem FC84 (n : Nat × Nat) : FCs Tryz.prog 84 (P84 n) := phiOf_FCs fun xs r h vs hv => HC84 n xs r h vs hv
/- math/bits.TrailingZeros -/
abbrev R73 := Int
noncomputable def c73 : Code := bodyOf Tryz.f73
noncomputable def an73 : Ann := (.s .l (.s (.j [0] .l .l) .l))
def pk73 : List PK := [.c (.int .u64)]
def rk73 : List RK := [.c (.int .i64) 2]
noncomputable def rt73 (st : St) : Option R73 := rtG rk73 st
noncomputable def E73 (n : Nat × Nat) : Env := { T := tab, phi := (consPhi 84 (fun _ => true) (P84 n) noPhi), eff := fun _ => false, fuel := n.1, hold := n.2 }
noncomputable def S73 (n : Nat × Nat) (x0 : Int) : Option R73 := run (E73 n) c73 an73 rt73 (fun _ _ => none) rt73 { tm := [.c (.int .u64 x0), uu, uu, uu, uu, uu, uu, uu], hp := emp }
theorem S73_eq (n : Nat × Nat) (x0 : Int) : S73 n x0 =
 (S84 n x0).bind fun r1' =>
 some r1' := by kernel_rfl
theorem S73_run (n : Nat × Nat) (xs : pksDen pk73) : S73 n xs.1 = runG (E73 n) noScope c73 an73 (rtG rk73) (fun _ _ => none) (rtG rk73) (st0 pk73 xs Tryz.f73.ntmps) := by kernel_rfl
noncomputable def P73 (n : Nat × Nat) := phiOf pk73 rk73 (fun xs => S73 n xs.1)
theorem call73 : CallOK Tryz.prog 73 := callOK_of Tryz.func73 (by kernel_rfl) (by kernel_rfl)
theorem env73 (n : Nat × Nat) : EnvOK Tryz.prog (E73 n) := envOK0 (consPhi_ok (FC84 n) call84 noPhi_ok) rfl rfl
theorem par73 (n : Nat × Nat) : EnvPar (E73 n) := envPar0 (consPhi_par phiOf_Par1 noPhi_par) rfl
theorem FC73 (n : Nat × Nat) : FCs Tryz.prog 73 (P73 n) := phiOf_FCs fun xs r h vs hv => FC.of_runG tabOK eqsOK (env73 n) (par73 n) mixed (fun _ p _ => noScope_ok p.1 p.2) Tryz.func73 (c := c73) (an := an73) (pks := pk73) (rks := rk73) (by kernel_rfl) (by kernel_rfl) hv ((S73_run n xs).symm.trans h)
abbrev R66 := List Int
noncomputable def c66 : Code := bodyOf Tryz.f66
noncomputable def an66 : Ann := (.s .l (.s .l (.s (.j [3] (.j [0, 3] (.s (.s .l (.j [0, 3] .l .l)) (.s (.j [0, 3] .l .l) .l)) .l) .l) .l)))
def pk66 : List PK := [.c (.int .u64)]
def rk66 : List RK := [.own (.int .i64) 2]
noncomputable def rt66 (st : St) : Option R66 := rtG rk66 st
noncomputable def E66 (n : Nat × Nat) : Env := { T := tab, phi := (consPhi 73 (fun _ => true) (P73 n) noPhi), eff := fun _ => false, fuel := n.1, hold := n.2 }
noncomputable def kq66_1 (n : Nat × Nat) : St → Option R66 := run (E66 n) (cB (cB (cB c66))) (Ann.snd (Ann.snd (Ann.snd an66))) rt66 (fun _ _ => none) rt66
noncomputable def xb66_3 (n : Nat × Nat) : Nat → St → Option R66 := fun j s => bif Nat.beq j 0 then normC [3] s (kq66_1 n) else (fun _ _ => none) j s
noncomputable def F66_4 (n : Nat × Nat) : (St → Option R66) → St → Option R66 := fun K s => run (E66 n) (cA (cA (cA (cB (cB c66))))) (Ann.fst (Ann.fst (Ann.fst (Ann.snd (Ann.snd an66))))) (fun s => normC [0, 3] s K) (xb66_3 n) rt66 s
noncomputable def L66_1 (n : Nat × Nat) (m : Nat) (v0 : Int) (out3 : List Int) : Option R66 := loopN (F66_4 n) m { tm := [.c (.int .u64 v0), uu, uu, .own 3 none false, uu, uu, uu, uu, uu, uu, uu, uu, uu, uu, uu, uu], hp := (upd emp 3 (.arr (.int .i64) out3 false)) }
theorem L66_1_eq (n : Nat × Nat) (m1 : Nat) (v0 : Int) (out3 : List Int) : L66_1 n (m1 + 1) v0 out3 =
 (bif (v0 != 0) then (S73 n v0).bind fun r1' =>
 (bif decide (out3.length + [r1'].length ≤ lim) then L66_1 n m1 (wr .u64 (BitVec.ofInt (IntKind.bits .u64) v0 &&& BitVec.ofInt (IntKind.bits .u64) (wr .u64 (v0 - 1))).toNat) (out3 ++ [r1'])
 else none)
 else some out3) := by kernel_rfl
noncomputable def S66 (n : Nat × Nat) (v0 : Int) : Option R66 := run (E66 n) c66 an66 rt66 (fun _ _ => none) rt66 { tm := [.c (.int .u64 v0), uu, uu, uu, uu, uu, uu, uu, uu, uu, uu, uu, uu, uu, uu, uu], hp := emp }
theorem S66_eq (n : Nat × Nat) (v0 : Int) : S66 n v0 =
    L66_1 n n.1 v0 [] := by kernel_rfl
theorem S66_run (n : Nat × Nat) (xs : pksDen pk66) : S66 n xs.1 = runG (E66 n) noScope c66 an66 (rtG rk66) (fun _ _ => none) (rtG rk66) (st0 pk66 xs Tryz.f66.ntmps) := by kernel_rfl
noncomputable def P66 (n : Nat × Nat) := phiOf pk66 rk66 (fun xs => S66 n xs.1)
theorem env66 (n : Nat × Nat) : EnvOK Tryz.prog (E66 n) := envOK0 (consPhi_ok (FC73 n) call73 noPhi_ok) rfl rfl
theorem par66 (n : Nat × Nat) : EnvPar (E66 n) := envPar0 (consPhi_par phiOf_Par1 noPhi_par) rfl
theorem FC66 (n : Nat × Nat) : FCs Tryz.prog 66 (P66 n) := phiOf_FCs fun xs r h vs hv => FC.of_runG tabOK eqsOK (env66 n) (par66 n) mixed (fun _ p _ => noScope_ok p.1 p.2) Tryz.func66 (c := c66) (an := an66) (pks := pk66) (rks := rk66) (by kernel_rfl) (by kernel_rfl) hv ((S66_run n xs).symm.trans h)
/-D 84 -/
noncomputable def D84 (n : Nat × Nat) (x0 : Int) : Option R84 := HF84 x0
theorem S84_D (n : Nat × Nat) (hn : n.2 = 1) : S84 n = D84 n := by unfold S84 D84; rfl
/-D 73 -/
noncomputable def D73 (n : Nat × Nat) (x0 : Int) : Option R73 :=
 (D84 n x0).bind fun r1' =>
 some r1'
theorem S73_D (n : Nat × Nat) (hn : n.2 = 1) : S73 n = D73 n := by
  funext x0; refine (S73_eq n x0).trans ?_
  unfold D73
  (try simp only [S84_D n hn]) <;> first | with_reducible rfl | rfl
/-D 66 -/
noncomputable def DF66_1 (n : Nat × Nat) (f1 : Int → List Int → Option R66) (v0 : Int) (out3 : List Int) : Option R66 :=
 (bif (v0 != 0) then (D73 n v0).bind fun r1' =>
 (bif decide (out3.length + [r1'].length ≤ lim) then f1 (wr .u64 (BitVec.ofInt (IntKind.bits .u64) v0 &&& BitVec.ofInt (IntKind.bits .u64) (wr .u64 (v0 - 1))).toNat) (out3 ++ [r1'])
 else none)
 else some out3)
noncomputable def DL66_1 (n : Nat × Nat) (m : Nat) : Int → List Int → Option R66 := Nat.rec (motive := fun _ => Int → List Int → Option R66) (fun _ _ => none) (fun _ ih => DF66_1 n ih) m
theorem DL66_1_succ (n : Nat × Nat) (m : Nat) : DL66_1 n (m + 1) = DF66_1 n (DL66_1 n m) := rfl
theorem DL66_1_eq (n : Nat × Nat) (hn : n.2 = 1) : ∀ m, L66_1 n m = DL66_1 n m
  | 0 => by funext v0 out3; kernel_rfl
  | m + 1 => by
    have ih := DL66_1_eq n hn m
    funext v0 out3; refine (L66_1_eq n m v0 out3).trans ?_
    rw [DL66_1_succ]
    unfold DF66_1
    (try simp only [ih, S73_D n hn]) <;> first | with_reducible rfl | rfl
noncomputable def D66 (n : Nat × Nat) (v0 : Int) : Option R66 :=
    DL66_1 n n.1 v0 []
theorem S66_D (n : Nat × Nat) (hn : n.2 = 1) : S66 n = D66 n := by
  funext v0; refine (S66_eq n v0).trans ?_
  unfold D66
  (try simp only [DL66_1_eq n hn, S73_D n hn]) <;> first | with_reducible rfl | rfl
def n0 : Nat × Nat := (100, 1)
noncomputable def chkFull (f p r : Nat) : Bool := match D64 n0 ((f : Int), ()) p r with | some b => b == (!f.testBit p && Nat.ble r (cntF f)) | none => false
noncomputable def chkSw (f p g : Nat) : Bool := match D65 n0 ((f : Int), ()) p g with | some b => b.1 == (swF f p g : Int) | none => false
noncomputable def chkAdd (f p : Nat) : Bool := match D65 n0 ((f : Int), ()) p (-1) with | some b => b.1 == (addF f p : Int) | none => false
def eqL : List Int → List Nat → Bool
  | [], [] => true
  | x :: l, y :: m => x == (y : Int) && eqL l m
  | _, _ => false
theorem eqL_eq : ∀ {l : List Int} {m : List Nat}, eqL l m = true → l = m.map fun (y : Nat) => (y : Int)
  | [], [], _ => rfl
  | x :: l, y :: m, h => by
    simp only [eqL, Bool.and_eq_true, beq_iff_eq] at h
    rw [List.map_cons, ← eqL_eq h.2, h.1]
  | [], _ :: _, h => by cases h
  | _ :: _, [], h => by cases h
noncomputable def chkList (f : Nat) : Bool := match D66 n0 (f : Int) with | some l => eqL l (bitsF f) | none => false
def chkBit (f p : Nat) : Bool := (bits BinOp.and IntKind.u64 ((f : Int) / 2 ^ p) 1 == 1) == f.testBit p
theorem full_tab : (all64 fun f => all6 fun p => all6 fun r => chkFull f p r) = true := by kernel_rfl
theorem sw_tab : (all64 fun f => all6 fun p => all6 fun g => chkSw f p g) = true := by kernel_rfl
theorem add_tab : (all64 fun f => all6 fun p => chkAdd f p) = true := by kernel_rfl
theorem list_tab : (all64 fun f => chkList f) = true := by kernel_rfl
theorem bit_tab : (all64 fun f => all6 fun p => chkBit f p) = true := by kernel_rfl
end Go.Proofs.YtkfkbebinhkdlaaGreatDoor
set_option linter.unusedVariables false
set_option linter.unusedSimpArgs false
set_option maxRecDepth 100000
namespace Go.Proofs.YtkfkbebinhkdlaaGreatDoor
open Go.RowKit Go.Shelf
theorem Vs_end (room : Nat) (zs : List Int) (f : Nat) : Vs room zs zs.length f = 0 := by
  unfold Vs
  rw [List.drop_length]
  rfl
theorem Vs_cons {room : Nat} {zs : List Int} {t : Nat} (h : t < zs.length) (f : Nat) : Vs room zs t f = lst room (zs[t].toNat :: (zs.drop (t + 1)).map Int.toNat) f := by
  unfold Vs
  rw [List.drop_eq_getElem_cons h]
  rfl
theorem Vs_bd {room : Nat} (hr : 0 < room) {zs : List Int} (hl : zs.length ≤ 12) (t f : Nat) : 0 ≤ Vs room zs t f ∧ Vs room zs t f ≤ 12 := by
  have := lst_bd room hr ((zs.drop t).map Int.toNat) f
  rw [List.length_map, List.length_drop] at this
  unfold Vs
  omega
theorem bit_eq {f p : Nat} (hf : f < 64) (hp : p < 6) : (bits BinOp.and IntKind.u64 ((f : Int) / 2 ^ p) 1 == 1) = f.testBit p := by
  have := all6_get (all64_get bit_tab hf) hp
  simpa [chkBit] using this
/-- What the search leans on, in each world. -/
structure Calls3 (G : World → Prop) (room : Nat) : Prop where
  full : ∀ (W : World), G W → ∀ f p : Nat, f < 64 → p < 6 → Calls Tryz.prog 64 #[.agg #[.int .u64 f], .int .i64 (p : Int), .int .i64 room] W fun e W' => e = .returned (.bool (!f.testBit p && Nat.ble room (cntF f))) ∧ Below W.heap.size W W'
  add : ∀ (W : World), G W → ∀ f p : Nat, f < 64 → p < 6 → Calls Tryz.prog 65 #[.agg #[.int .u64 f], .int .i64 (p : Int), .int .i64 (-1)] W fun e W' => e = .returned (.agg #[.int .u64 (addF f p)]) ∧ Below W.heap.size W W'
  sw : ∀ (W : World), G W → ∀ f p g : Nat, f < 64 → p < 6 → g < 6 → Calls Tryz.prog 65 #[.agg #[.int .u64 f], .int .i64 (p : Int), .int .i64 (g : Int)] W fun e W' => e = .returned (.agg #[.int .u64 (swF f p g)]) ∧ Below W.heap.size W W'
  list : ∀ (W : World), G W → ∀ f : Nat, f < 64 → 0 < (bitsF f).length → Calls Tryz.prog 66 #[.int .u64 f] W fun e W' => ∃ b2 cap2, e = .returned (.slice (some ⟨b2, 0, none⟩) (bitsF f).length cap2) ∧ W.heap.size ≤ b2 ∧ Lst (bitsF f) b2 W' ∧ Below W.heap.size W W'
theorem least_all {G : World → Prop} {room : Nat} (hC : Calls3 G room) (hr0 : 0 < room) (zs : List Int) (hzl : zs.length ≤ 12) (hz : ∀ z ∈ zs, 0 ≤ z ∧ z < 6) (a : Option Addr) (cap b : Nat) :
    ∀ (m t f : Nat) (cur : Array Value) (w : World), t + m = zs.length → f < 64 → (∀ W, w.grownBy W (some b) → G W) → Tbl (Vs room zs) room a zs.length cap b cur w → PgOK zs a b w →
      Calls Tryz.prog 56 #[.pointer (some ⟨b, 0, none⟩), .int .i64 t, .agg #[.int .u64 f]] w (LeastAt (Vs room zs) room a zs.length cap b t f w)
  | 0, t, f, cur, w, ht, hf, hG, hT, hP => by
    obtain rfl : t = zs.length := by omega
    refine (least_end (Vs room zs) room a zs.length cap b f cur w hzl hT).mono ?_
    rintro e W ⟨rfl, hB⟩
    exact ⟨1, cur, by rw [Vs_end], hT.other ((hB.block b hT.blk.lt).trans hT.blk), gb_below hB⟩
  | m + 1, t, f, cur, w, ht, hf, hG, hT, hP => by
    have htl : t < zs.length := by omega
    obtain ⟨s, p, k1, k2, h3⟩ := hT.known t f (by omega) hf
    by_cases hn : s = 0 ∧ p = 0
    · obtain ⟨rfl, rfl⟩ := hn
      have hJ : Job (Vs room zs) room zs a zs.length cap b t f cur w := ⟨rfl, hzl, htl, hf, hT, hP, k1, k2, hz⟩
      obtain ⟨z0, z1⟩ := hz zs[t] (List.getElem_mem _)
      obtain ⟨q, hq⟩ := Int.eq_ofNat_of_zero_le z0
      have hq6 : q < 6 := by omega
      have hVc := Vs_cons (room := room) htl f
      rw [hq, Int.toNat_natCast] at hVc
      have hbit : ∀ h : t < zs.length, (bits BinOp.and IntKind.u64 ((f : Int) / 2 ^ (zs[t]'h).toNat) 1 == 1) = f.testBit q := fun _ => by
        rw [hq, Int.toNat_natCast]; exact bit_eq hf hq6
      have hrec : ∀ f' : Nat, f' < 64 → ∀ (W : World) (cur : Array Value), (w.grownBy W (some b)) → Tbl (Vs room zs) room a zs.length cap b cur W → PgOK zs a b W → Calls Tryz.prog 56 #[.pointer (some ⟨b, 0, none⟩), .int .i64 ((t : Int) + 1), .agg #[.int .u64 f']] W (LeastAt (Vs room zs) room a zs.length cap b (t + 1) f' W) := fun f' hf' W cur' hW hT' hP' => by
        have := least_all hC hr0 zs hzl hz a cap b m (t + 1) f' cur' W (by omega) hf' (fun W' hW' => hG W' (gb_trans hW hW')) hT' hP'
        simpa using this
      let GW : World → Prop := fun W => w.grownBy W (some b)
      cases hb : f.testBit q with
      | true =>
        exact least_stand (Vs room zs) room a zs.length cap b t f zs cur w hJ (by rw [hVc, lst_step hb]; rfl) (fun h => (hbit h).trans hb) GW (fun W h => h) (fun W cur hW => hrec f hf W cur hW)
      | false =>
        by_cases hc : cntF f < room
        · refine least_add (Vs room zs) room a zs.length cap b t f (addF f q) zs cur w hJ (by rw [hVc, lst_add hb hc, Int.add_comm]; rfl) (Vs_bd hr0 hzl _ _) (fun h => (hbit h).trans hb) GW (fun W h => h) (fun W hW h => ?_) (fun W hW h => ?_)
            (fun W cur hW => hrec _ (addF_lt hf hq6) W cur hW)
          · rw [hq]
            refine (hC.full W (hG W hW) f q hf hq6).mono ?_
            rintro e W' ⟨rfl, hB⟩
            have : Nat.ble room (cntF f) = false := by
              cases h : Nat.ble room (cntF f) with
              | false => rfl
              | true => have := Nat.le_of_ble_eq_true h; omega
            exact ⟨by rw [hb, this]; rfl, hB⟩
          · rw [hq]
            exact hC.add W (hG W hW) f q hf hq6
        · have h6 : (bitsF f).length ≤ 6 := by
            unfold bitsF
            have := List.length_filter_le (fun p => f.testBit p) (List.range 6)
            rw [List.length_range] at this
            exact this
          have h0 : 0 < (bitsF f).length := by rw [← cntF_bits]; omega
          refine least_swap (Vs room zs) room a zs.length cap b t f (bitsF f) (swF f q) zs cur w hJ h0 h6 (fun g hg => bitsF_lt hg) ?_ (fun g hg => Vs_bd hr0 hzl _ _) (fun h => (hbit h).trans hb) GW (fun W h => h) (fun W hW h => ?_) (fun W hW => hC.list W (hG W hW) f hf h0) (fun W hW h g hg => ?_)
            (fun g hg W cur hW => hrec _ (swF_lt hf hq6 (bitsF_lt hg)) W cur hW)
          · rw [hVc, lst_sw hb hc]
            congr 1
            funext g
            rw [Int.add_comm]
            rfl
          · rw [hq]
            refine (hC.full W (hG W hW) f q hf hq6).mono ?_
            rintro e W' ⟨rfl, hB⟩
            have : Nat.ble room (cntF f) = true := by simp only [Nat.ble_eq]; omega
            exact ⟨by rw [hb, this]; rfl, hB⟩
          · rw [hq]
            exact hC.sw W (hG W hW) f q g hf hq6 (bitsF_lt hg)
    · have hs : s = Vs room zs t f := h3.resolve_left hn
      refine (least_known (Vs room zs) room a zs.length cap b t f s p cur w hzl htl hf hT k1 k2 hn).mono ?_
      rintro e W ⟨rfl, hB⟩
      exact ⟨p, cur, by rw [hs], hT.other ((hB.block b hT.blk.lt).trans hT.blk), gb_below hB⟩
/-- The table at the beginning. -/
noncomputable def tblI (room : Int) (a : Option Addr) (L cap : Nat) : Array Value := (Tryz.prog.built 99 [(0, .agg #[.int .i64 room, .slice a L cap])]).getD #[]
def isZ (v : Value) : Bool := match v with | .int .i64 0 => true | _ => false
theorem isZ_eq {v : Value} (h : isZ v = true) : v = .int .i64 0 := by
  unfold isZ at h
  split at h
  · rfl
  · cases h
theorem tblI_some (room : Int) (a : Option Addr) (L cap : Nat) : (Tryz.prog.built 99 [(0, .agg #[.int .i64 room, .slice a L cap])]).isSome = true := by kernel_rfl
theorem tblI_size (room : Int) (a : Option Addr) (L cap : Nat) : (tblI room a L cap).size = 1538 := by kernel_rfl
theorem tblI_0 (room : Int) (a : Option Addr) (L cap : Nat) : (tblI room a L cap)[0]? = some (.int .i64 room) := by kernel_rfl
theorem tblI_1 (room : Int) (a : Option Addr) (L cap : Nat) : (tblI room a L cap)[1]? = some (.slice a L cap) := by kernel_rfl
theorem tblI_zs (room : Int) (a : Option Addr) (L cap : Nat) : ((tblI room a L cap).toList.drop 2).all isZ = true := by kernel_rfl
theorem tblI_built (room : Int) (a : Option Addr) (L cap : Nat) : Tryz.prog.built 99 [(0, .agg #[.int .i64 room, .slice a L cap])] = some (tblI room a L cap) := by
  unfold tblI
  obtain ⟨c, hc⟩ := Option.isSome_iff_exists.1 (tblI_some room a L cap)
  rw [hc]
  rfl
theorem tblI_get (room : Int) (a : Option Addr) (L cap i : Nat) (h : i < 1536) : (tblI room a L cap)[2 + i]? = some (.int .i64 0) := by
  have hs := tblI_size room a L cap
  have hz := tblI_zs room a L cap
  generalize tblI room a L cap = T at hs hz ⊢
  have h1 : (T.toList.drop 2)[i]? = some (T[2 + i]'(by omega)) := by
    rw [List.getElem?_drop, Array.getElem?_toList, Array.getElem?_eq_getElem (by omega)]
  have := isZ_eq (List.all_eq_true.1 hz _ (List.mem_of_getElem? h1))
  rw [Array.getElem?_eq_getElem (by omega), this]
theorem tblI_known (V : Nat → Nat → Int) (room : Int) (a : Option Addr) (L cap : Nat) : Known V (tblI room a L cap) := fun t f ht hf => by
  refine ⟨0, 0, ?_, ?_, .inl ⟨rfl, rfl⟩⟩
  · rw [show 2 + t * 128 + f * 2 = 2 + (t * 128 + f * 2) by omega]
    exact tblI_get room a L cap _ (by omega)
  · rw [show 2 + t * 128 + f * 2 + 1 = 2 + (t * 128 + f * 2 + 1) by omega]
    exact tblI_get room a L cap _ (by omega)
theorem fld95 (x y : Int) (w : World) : (Instr.field 95 (.agg #[.int .i64 x, .int .i64 y]) 0).run Tryz.prog w = .ok (.int .i64 x) w := by kernel_rfl
set_option maxHeartbeats 4000000 in
theorem fewest_in {room : Nat} (a : Option Addr) (L cap : Nat) (v : Int) (Q : World → Prop) (w : World) (h0 : 0 ≤ v) (h1 : v ≤ 12)
    (hck : ∀ W, Below w.heap.size w W → Calls Tryz.prog 55 #[.agg #[.int .i64 room, .slice a L cap]] W fun e W' => e = .returned (.int .i64 0) ∧ Below W.heap.size W W')
    (hls : ∀ W, Below w.heap.size w W → Calls Tryz.prog 56 #[.pointer (some ⟨W.heap.size, 0, none⟩), .int .i64 0, .agg #[.int .u64 0]] (W.alloc (.cells (tblI room a L cap) 99)) fun e W' => ∃ pl : Int, e = .returned (.agg #[.int .i64 v, .int .i64 pl]) ∧ Q W') :
    Calls Tryz.prog 48 #[.agg #[.int .i64 room, .slice a L cap]] w fun e W' => e = .returned (.tuple #[.int .i64 v, .int .i64 0]) ∧ Q W' := by
  have hbd := fun w => run_build (P := Tryz.prog) w 99 #[(0, .agg #[.int .i64 room, .slice a L cap])] _ (tblI_built room a L cap)
  go_enter Tryz.func48, Tryz.ntmps48
  have hfd := fld95
  have hbj := Blk.new w #[.int .i64 room, .slice a L cap] 85
  go_wp2_with (first | (go_at_call 55; refine (hck _ ((Below.refl _ _).alloc (Nat.le_refl _) _)).mono ?_; rintro e W1 ⟨rfl, hB1⟩; have hw1 := ((Below.refl _ w).alloc (Nat.le_refl _) _).trans (hB1.mono (by simp)); have hbk : Blk W1 w.heap.size #[.int .i64 room, .slice a L cap] 85 := (hB1.block w.heap.size (by simp)).trans hbj; have e1 := hbk.cell 0 rfl; have e2 := hbk.cell 1 rfl) | (go_at_call 56; refine (hls _ hw1).mono ?_; rintro e W2 ⟨pl, rfl, hQ⟩))
  go_ret2
  exact ⟨rfl, hQ⟩
end Go.Proofs.YtkfkbebinhkdlaaGreatDoor
set_option linter.unusedVariables false
set_option linter.unusedSimpArgs false
set_option maxRecDepth 100000
namespace Go.Proofs.YtkfkbebinhkdlaaGreatDoor
open Go.RowKit Go.Shelf Go.Vi
theorem fcs_FC {pks : List PK} {rks : List RK} {S : pksDen pks → Option (rksDen rks)} {g : FuncId} (h : FCs Tryz.prog g (phiOf pks rks S)) {xs : pksDen pks} {r : rksDen rks} {vs : List V} (hv : pksArg pks vs = some xs) (hs : S xs = some r) :
    FC Tryz.prog g vs (rets rks r) := by
  obtain ⟨ret, h1, h2⟩ := h vs _ some (rets rks r) (by unfold phiOf; rw [hv]; simp only [Option.bind_some, hs])
  cases h1
  exact h2
/-- A call that gives one thing. -/
theorem fc_one {g : FuncId} {vs : List V} {r1 : Ret1} (h : FC Tryz.prog g vs [r1]) {w : World} {A : Nat → Prop} {args : List Value} (hA : ∀ b, A b → b < w.heap.size) (hv : All2 (VR noGam w A emp) vs args) (hgl : GlobOK w A) :
    Calls Tryz.prog g args.toArray w fun x w2 => ∃ i u A1, x = .returned u ∧ RetR1 w w2 A1 r1 i u ∧ Below w.heap.size w w2 := by
  refine (h w A args hA hv hgl).mono ?_
  intro x w2 hx
  cases x with
  | returned u =>
    obtain ⟨hG, is, us, rfl, hR⟩ := hx
    match is, us, hR with
    | [i], [u], ⟨hu, _, _⟩ => exact ⟨i, u, _, rfl, hu, ⟨hG.os, hG.tape, hG.output, hG.size, hG.blk⟩⟩
    | [], [], hR => exact hR.elim
    | [], _ :: _, hR => exact hR.elim
    | [_], [], hR => exact hR.elim
    | [_], _ :: _ :: _, hR => exact hR.2.2.elim
    | _ :: _ :: _, [], hR => exact hR.elim
    | _ :: _ :: _, [_], hR => exact hR.2.2.elim
    | _ :: _ :: _, _ :: _ :: _, hR => exact hR.2.2.elim
  | _ => exact hx.elim
theorem D64_eq {f p r : Nat} (hf : f < 64) (hp : p < 6) (hr : r < 6) : D64 n0 ((f : Int), ()) p r = some (!f.testBit p && Nat.ble r (cntF f)) := by
  have := all6_get (all6_get (all64_get full_tab hf) hp) hr
  unfold chkFull at this
  cases h : D64 n0 ((f : Int), ()) p r with
  | none => rw [h] at this; cases this
  | some b => rw [h] at this; simp only [beq_iff_eq] at this; rw [this]
theorem D65_sw {f p g : Nat} (hf : f < 64) (hp : p < 6) (hg : g < 6) : D65 n0 ((f : Int), ()) p g = some ((swF f p g : Int), ()) := by
  have := all6_get (all6_get (all64_get sw_tab hf) hp) hg
  unfold chkSw at this
  cases h : D65 n0 ((f : Int), ()) p g with
  | none => rw [h] at this; cases this
  | some b => obtain ⟨b, ⟨⟩⟩ := b; rw [h] at this; simp only [beq_iff_eq] at this; rw [this]
theorem D65_add {f p : Nat} (hf : f < 64) (hp : p < 6) : D65 n0 ((f : Int), ()) p (-1) = some ((addF f p : Int), ()) := by
  have := all6_get (all64_get add_tab hf) hp
  unfold chkAdd at this
  cases h : D65 n0 ((f : Int), ()) p (-1) with
  | none => rw [h] at this; cases this
  | some b => obtain ⟨b, ⟨⟩⟩ := b; rw [h] at this; simp only [beq_iff_eq] at this; rw [this]
theorem D66_eq {f : Nat} (hf : f < 64) : D66 n0 (f : Int) = some ((bitsF f).map fun (y : Nat) => (y : Int)) := by
  have := all64_get list_tab hf
  unfold chkList at this
  cases h : D66 n0 (f : Int) with
  | none => rw [h] at this; cases this
  | some l => rw [h] at this; rw [eqL_eq this]
/-- Pages that are all right. -/
theorem D43_ok (zs : List Int) (hl : zs.length ≤ 12) (hz : ∀ z ∈ zs, 0 ≤ z ∧ z < 6) : ∀ (m i : Nat), zs.length - i < m → i ≤ zs.length → DL43c63_1 n0 m zs (zs.length : Int) (i : Int) = some (-1)
  | 0, i, h, _ => by omega
  | m + 1, i, h, hi => by
    rw [DL43c63_1_succ]
    unfold DF43c63_1
    by_cases hlt : i < zs.length
    · obtain ⟨h1, h2⟩ := hz zs[i] (List.getElem_mem _)
      have e1 : idx zs (i : Int) = some zs[i] := by
        unfold idx
        rw [if_pos (by omega), Int.toNat_natCast, List.getElem?_eq_getElem hlt]
      have e2 : D63 n0 zs[i] = some false := by
        unfold D63
        rw [show decide (zs[i] < 0) = false by simp; omega, show decide (zs[i] ≥ 6) = false by simp; omega]
        rfl
      have e3 : wr .i64 ((i : Int) + 1) = ((i + 1 : Nat) : Int) := by
        show IntKind.i64.wrap _ = _
        rw [IntKind.wrap_i64]
        omega
      rw [show decide ((i : Int) < (zs.length : Int)) = true by simp; omega, cond_true, e1, Option.bind_some, e2, Option.bind_some, cond_false, e3]
      exact D43_ok zs hl hz m (i + 1) (by omega) (by omega)
    · rw [show decide ((i : Int) < (zs.length : Int)) = false by simp; omega]
      rfl
theorem D55_ok (room : Int) (zs : List Int) (h1 : 1 ≤ room) (h2 : room ≤ 5) (hl : zs.length ≤ 12) (hz : ∀ z ∈ zs, 0 ≤ z ∧ z < 6) : D55 n0 (room, zs) = some 0 := by
  have h := D43_ok zs hl hz 100 0 (by omega) (by omega)
  unfold D55 D34c63 D43c63
  rw [show DL43c63_1 n0 n0.1 zs (zs.length : Int) 0 = some (-1) from h, show decide ((room, zs).1 < 1) = false by simp; omega, show decide ((room, zs).1 > 5) = false by simp; omega, show decide (((room, zs).2.length : Int) > 12) = false by simp; omega]
  rfl
def HF48 (j : Int × List Int) : Option (Int × Int) :=
  bif decide (1 ≤ j.1) && decide (j.1 ≤ 5) && decide (j.2.length ≤ 12) && j.2.all (fun z => decide (0 ≤ z) && decide (z < 6)) then some (lst j.1.toNat (j.2.map Int.toNat) 0, 0) else none
theorem calls3 {room : Nat} (hr : room < 6) : Calls3 (fun W => GlobOK W (fun b => b < W.heap.size)) room where
  full W hW f p hf hp := by
    have h := fc_one (fcs_FC (rks := [.c .bool 6]) (FC64 n0) (vs := [.agg [.int .u64 (f : Int)], .c (.int .i64 (p : Int)), .c (.int .i64 (room : Int))]) (xs := (((f : Int), ()), (p : Int), (room : Int), ())) rfl ((congrFun (congrFun (congrFun (S64_D n0 rfl) _) _) _).trans (D64_eq hf hp hr)))
      (args := [.agg #[.int .u64 f], .int .i64 (p : Int), .int .i64 room]) (fun b hb => hb) ⟨⟨[_], rfl, rfl, trivial⟩, rfl, rfl, trivial⟩ hW
    refine h.mono ?_
    rintro e W' ⟨i, u, A1, rfl, hu, hB⟩
    have hu : u = .bool _ := hu
    exact ⟨by rw [hu], hB⟩
  add W hW f p hf hp := by
    have h := fc_one (fcs_FC (rks := [.box (.pair (.int .u64) .unit) 6]) (FC65 n0) (vs := [.agg [.int .u64 (f : Int)], .c (.int .i64 (p : Int)), .c (.int .i64 (-1))]) (xs := (((f : Int), ()), (p : Int), -1, ())) rfl ((congrFun (congrFun (congrFun (S65_D n0 rfl) _) _) _).trans (D65_add hf hp)))
      (args := [.agg #[.int .u64 f], .int .i64 (p : Int), .int .i64 (-1)]) (fun b hb => hb) ⟨⟨[_], rfl, rfl, trivial⟩, rfl, rfl, trivial⟩ hW
    refine h.mono ?_
    rintro e W' ⟨i, u, A1, rfl, ⟨vs, hu, hvs⟩, hB⟩
    match vs, hvs with
    | [u1], ⟨h1, _⟩ =>
      have h1 : u1 = .int .u64 _ := h1
      subst h1
      exact ⟨by rw [hu], hB⟩
  sw W hW f p g hf hp hg := by
    have h := fc_one (fcs_FC (rks := [.box (.pair (.int .u64) .unit) 6]) (FC65 n0) (vs := [.agg [.int .u64 (f : Int)], .c (.int .i64 (p : Int)), .c (.int .i64 (g : Int))]) (xs := (((f : Int), ()), (p : Int), (g : Int), ())) rfl ((congrFun (congrFun (congrFun (S65_D n0 rfl) _) _) _).trans (D65_sw hf hp hg)))
      (args := [.agg #[.int .u64 f], .int .i64 (p : Int), .int .i64 (g : Int)]) (fun b hb => hb) ⟨⟨[_], rfl, rfl, trivial⟩, rfl, rfl, trivial⟩ hW
    refine h.mono ?_
    rintro e W' ⟨i, u, A1, rfl, ⟨vs, hu, hvs⟩, hB⟩
    match vs, hvs with
    | [u1], ⟨h1, _⟩ =>
      have h1 : u1 = .int .u64 _ := h1
      subst h1
      exact ⟨by rw [hu], hB⟩
  list W hW f hf h0 := by
    have h := fc_one (fcs_FC (rks := [.own (.int .i64) 2]) (FC66 n0) (vs := [.c (.int .u64 (f : Int))]) (xs := ((f : Int), ())) rfl ((congrFun (S66_D n0 rfl) _).trans (D66_eq hf)))
      (args := [.int .u64 f]) (fun b hb => hb) ⟨rfl, trivial⟩ hW
    refine h.mono ?_
    rintro e W' ⟨i, u, A1, rfl, ⟨ho, hs, hb⟩, hB⟩
    cases i with
    | emp =>
      have ho : (bitsF f).map (fun (y : Nat) => (y : Int)) = [] := ho
      have := congrArg List.length ho
      rw [List.length_map, List.length_nil] at this
      omega
    | «at» b c =>
      obtain ⟨_, ho1, cur, et, ho2, ho3, ho4⟩ := ho
      obtain ⟨rfl, _, _⟩ := hs
      have e1 : ((bitsF f).map (fun (y : Nat) => (y : Int))).length = (bitsF f).length := List.length_map _
      refine ⟨b, c, by rw [e1], (hb b c rfl).1, ⟨cur, et, ho2, fun i hi => ?_⟩, hB⟩
      have h4 := ho4 i ((bitsF f)[i] : Int) (by simp [List.getElem?_map, hi])
      have h5 : (cur.toList.drop (i * 1)).take 1 = [.int .i64 ((bitsF f)[i] : Int)] := h4
      rw [Nat.mul_one] at h5
      have h6 := congrArg (fun l => l[0]?) h5
      have h7 : cur.toList[i]? = some (.int .i64 ((bitsF f)[i] : Int)) := by simpa [List.getElem?_take, List.getElem?_drop] using h6
      rw [← Array.getElem?_toList, h7]
theorem HC48 (n : Nat × Nat) (xs : pksDen [.c (.pair (.int .i64) (.sl (.int .i64)))]) (r : rksDen [.c (.int .i64) 0, .c (.int .i64) 0]) (h : HF48 xs.1 = some r) (vs : List V) (hv : pksArg [.c (.pair (.int .i64) (.sl (.int .i64)))] vs = some xs) :
    FC Tryz.prog 48 vs (rets [.c (.int .i64) 0, .c (.int .i64) 0] r) := by
  obtain ⟨⟨room, zs⟩, ⟨⟩⟩ := xs
  unfold HF48 at h
  obtain ⟨hd, h⟩ := cond_some h rfl
  simp only [Bool.and_eq_true, decide_eq_true_eq, List.all_eq_true] at hd
  obtain ⟨⟨⟨hr1, hr5⟩, hl⟩, hz⟩ := hd
  have hr1 : 1 ≤ room := hr1
  have hr5 : room ≤ 5 := hr5
  have hl : zs.length ≤ 12 := hl
  have hz : ∀ z ∈ zs, 0 ≤ z ∧ z < 6 := hz
  cases h
  intro w A0 args hA hargs hgl
  have hv2 := pksArg_VR _ _ _ _ hv hargs
  match args, hv2 with
  | [v1], ⟨g0, _⟩ =>
    obtain ⟨us, rfl, hus⟩ := g0
    match us, hus with
    | [u1, u2], ⟨h1, h2, _⟩ =>
      have h1 : u1 = .int .i64 room := h1
      subst h1
      have h2 : CR w A0 (.sl (.int .i64) zs false) u2 := h2
      obtain ⟨a, cap, rfl, hcap, _, hr⟩ := id h2
      obtain ⟨k, rfl⟩ := Int.eq_ofNat_of_zero_le (Int.le_trans (show (0 : Int) ≤ 1 by decide) hr1)
      have hmon : ∀ {W : World}, Below w.heap.size w W → ∀ b, A0 b → A0 b ∧ W.heap[b]? = w.heap[b]? := fun hB b hb => ⟨hb, hB.block b (hA b hb)⟩
      have hk1 : (1 : Int) ≤ (k : Int) := hr1
      have hk5 : (k : Int) ≤ 5 := hr5
      have hk0 : 1 ≤ k ∧ k ≤ 5 := by omega
      have hbd := Vs_bd (room := k) (by omega) hl 0 0
      have key := fewest_in (room := k) a zs.length cap (Vs k zs 0 0) (fun W' => Below w.heap.size w W') w hbd.1 hbd.2
        (fun W hW => by
          have hc := fc_one (fcs_FC (rks := [.c (.int .i64) 2]) (FC55 n0) (vs := [.agg [.int .i64 (k : Int), .sl (.int .i64) zs false]]) (xs := (((k : Int), zs), ())) rfl ((congrFun (S55_D n0 rfl) _).trans (D55_ok k zs hr1 hr5 hl hz)))
            (w := W) (A := A0) (args := [.agg #[.int .i64 k, .slice a zs.length cap]]) (fun b hb => Nat.lt_of_lt_of_le (hA b hb) hW.size) ⟨⟨[_, _], rfl, rfl, CR.mono (hmon hW) _ _ h2, trivial⟩, trivial⟩ (hgl.mono hW.size (hmon hW))
          refine hc.mono ?_
          rintro e W' ⟨i, u, A1, rfl, hu, hB⟩
          have hu : u = .int .i64 0 := hu
          exact ⟨by rw [hu], hB⟩)
        (fun W hW => by
          have hb0 : ∀ b, A0 b → b < W.heap.size := fun b hb => Nat.lt_of_lt_of_le (hA b hb) hW.size
          have hcl := least_all (calls3 (room := k) (by omega)) (by omega) zs hl hz a cap W.heap.size zs.length 0 0 (tblI k a zs.length cap) (W.alloc (.cells (tblI k a zs.length cap) 99)) (by omega) (by omega)
            (fun W' hg => hgl.mono (A' := fun b => b < W'.heap.size) (Nat.le_trans hW.size (Nat.le_trans (by simp) hg.size)) fun b hb => by
              have h3 : b < (W.alloc (.cells (tblI k a zs.length cap) 99)).heap.size := by have := hb0 b hb; simp; omega
              refine ⟨Nat.lt_of_lt_of_le h3 hg.size, ?_⟩
              rw [hg.block b h3 (by have := hb0 b hb; simp; omega)]
              exact ((World.grownBy_alloc W _ none).block b (hb0 b hb) (by simp)).trans (hW.block b (hA b hb)))
            ⟨Blk.new W _ _, tblI_size _ _ _ _, tblI_0 _ _ _ _, tblI_1 _ _ _ _, tblI_known _ _ _ _ _⟩
            (fun j hj => by
              rcases hr with hr | ⟨b, o, cur, et, fz, ha, hb, hc, hlen, hx⟩
              · rw [hr] at hj; simp at hj
              · refine ⟨b, o, ha, by have := hb0 b hb; omega, by have := hb0 b hb; simp; omega, ?_⟩
                have h1 := hx j zs[j] (by simp)
                have h2 : (cur.toList.drop (o + j * 1)).take 1 = [.int .i64 zs[j]] := h1
                have h3 : cur.toList[o + j]? = some (.int .i64 zs[j]) := by
                  rw [Nat.mul_one] at h2
                  have := congrArg (fun l => l[0]?) h2
                  simpa [List.getElem?_take, List.getElem?_drop] using this
                have h4 : cur[o + j]? = some (.int .i64 zs[j]) := by rw [← Array.getElem?_toList]; exact h3
                have h5 : (W.alloc (.cells (tblI k a zs.length cap) 99)).heap[b]? = some (.cells cur et fz) := ((World.grownBy_alloc W _ none).block b (hb0 b hb) (by simp)).trans ((hW.block b (hA b hb)).trans hc)
                show (match (W.alloc (.cells (tblI k a zs.length cap) 99)).heap[b]? with | some (.cells c _ _) => c[o + j]? | _ => none) = _
                rw [h5]
                exact h4)
          refine hcl.mono ?_
          rintro e W' ⟨pl, cur', rfl, hT, hg⟩
          refine ⟨pl, rfl, hW.trans ?_⟩
          have h6 := hW.size
          have h7 : (W.alloc (.cells (tblI k a zs.length cap) 99)).heap.size = W.heap.size + 1 := by simp
          refine Below.mono ?_ h6
          refine ⟨hg.os, hg.tape, hg.output, Nat.le_trans (by omega) hg.size, fun b h3 => by
            rw [hg.block b (by simp; omega) (by simp; omega)]
            exact (World.grownBy_alloc W _ none).block b h3 (by simp)⟩)
      refine key.mono ?_
      rintro e W' ⟨rfl, hB⟩
      exact ⟨Grows.of_below hB, [.emp, .emp], [_, _], rfl, rfl, fun b c h => (by cases h), rfl, fun b c h => (by cases h), trivial⟩
end Go.Proofs.YtkfkbebinhkdlaaGreatDoor
set_option linter.unusedVariables false
set_option linter.unusedSimpArgs false
set_option maxRecDepth 100000
namespace Go.Proofs.YtkfkbebinhkdlaaGreatDoor
open Go.Vi
abbrev R48 := Int × Int
def pk48 : List PK := [.c (.pair (.int .i64) (.sl (.int .i64)))]
def rk48 : List RK := [.c (.int .i64) 0, .c (.int .i64) 0]
noncomputable def S48 (n : Nat × Nat) (j0 : Int × List Int) : Option R48 := HF48 j0
noncomputable def P48 (n : Nat × Nat) := phiOf pk48 rk48 (fun xs => S48 n xs.1)
theorem call48 : CallOK Tryz.prog 48 := callOK_of Tryz.func48 (by kernel_rfl) (by kernel_rfl)
theorem FC48 (n : Nat × Nat) : FCs Tryz.prog 48 (P48 n) := phiOf_FCs fun xs r h vs hv => HC48 n xs r h vs hv
/- slices.Index[[][2]int,[2]int] -/
abbrev R85 := Int
noncomputable def c85 : Code := bodyOf Tryz.f85
noncomputable def an85 : Ann := (.s .l (.s (.s .l (.j [] (.j [0, 3, 7, 8] (.s .l (.s (.j [0, 3, 7, 8] .l .l) (.s (.j [0, 3, 7, 8] (.s .l (.s .l (.j [0, 3, 7, 8] .l .l))) .l) .l))) .l) .l)) .l))
def pk85 : List PK := [.c (.sl (.pair (.int .i64) (.int .i64))), .c (.pair (.int .i64) (.int .i64))]
def rk85 : List RK := [.c (.int .i64) 4]
noncomputable def rt85 (st : St) : Option R85 := rtG rk85 st
noncomputable def E85 (n : Nat × Nat) : Env := { T := tab, phi := noPhi, eff := fun _ => false, fuel := n.1, hold := n.2 }
noncomputable def kq85_1 (n : Nat × Nat) : St → Option R85 := run (E85 n) (cB (cB c85)) (Ann.snd (Ann.snd an85)) rt85 (fun _ _ => none) rt85
noncomputable def xb85_3 (n : Nat × Nat) : Nat → St → Option R85 := fun j s => bif Nat.beq j 0 then normC [] s (kq85_1 n) else (fun _ _ => none) j s
noncomputable def F85_4 (n : Nat × Nat) : (St → Option R85) → St → Option R85 := fun K s => run (E85 n) (cA (cA (cB (cA (cB c85))))) (Ann.fst (Ann.fst (Ann.snd (Ann.fst (Ann.snd an85))))) (fun s => normC [0, 3, 7, 8] s K) (xb85_3 n) rt85 s
noncomputable def L85_1 (n : Nat × Nat) (m : Nat) (s0 : List (Int × Int)) (v7 : Int) (v8 : Int) (v3_0 : Int) (v3_1 : Int) : Option R85 := loopN (F85_4 n) m { tm := [.c (.sl (.pair (.int .i64) (.int .i64)) s0 false), uu, uu, .ptr 3 0, uu, uu, uu, .c (.int .i64 v7), .c (.int .i64 v8), uu, uu, uu, uu, uu, uu, uu, uu, uu, uu], hp := (upd emp 3 (.box [.int .i64 v3_0, .int .i64 v3_1])) }
theorem L85_1_eq (n : Nat × Nat) (m1 : Nat) (s0 : List (Int × Int)) (v7 : Int) (v8 : Int) (v3_0 : Int) (v3_1 : Int) : L85_1 n (m1 + 1) s0 v7 v8 v3_0 v3_1 =
 (bif decide (v8 < v7) then (idx s0 v8).bind fun x1' =>
 (bif ((v3_0 == x1'.1) && ((v3_1 == x1'.2) && true)) then some v8
 else L85_1 n m1 s0 v7 (wr .i64 (v8 + 1)) v3_0 v3_1)
 else some (-1)) := by kernel_rfl
noncomputable def S85 (n : Nat × Nat) (s0 : List (Int × Int)) (v1 : Int × Int) : Option R85 := run (E85 n) c85 an85 rt85 (fun _ _ => none) rt85 { tm := [.c (.sl (.pair (.int .i64) (.int .i64)) s0 false), .agg [.int .i64 v1.1, .int .i64 v1.2], uu, uu, uu, uu, uu, uu, uu, uu, uu, uu, uu, uu, uu, uu, uu, uu, uu], hp := emp }
theorem S85_eq (n : Nat × Nat) (s0 : List (Int × Int)) (v1 : Int × Int) : S85 n s0 v1 =
    L85_1 n n.1 s0 (s0.length : Int) 0 v1.1 v1.2 := by kernel_rfl
theorem S85_run (n : Nat × Nat) (xs : pksDen pk85) : S85 n xs.1 xs.2.1 = runG (E85 n) noScope c85 an85 (rtG rk85) (fun _ _ => none) (rtG rk85) (st0 pk85 xs Tryz.f85.ntmps) := by kernel_rfl
noncomputable def P85 (n : Nat × Nat) := phiOf pk85 rk85 (fun xs => S85 n xs.1 xs.2.1)
theorem call85 : CallOK Tryz.prog 85 := callOK_of Tryz.func85 (by kernel_rfl) (by kernel_rfl)
theorem env85 (n : Nat × Nat) : EnvOK Tryz.prog (E85 n) := envOK0 noPhi_ok rfl rfl
theorem par85 (n : Nat × Nat) : EnvPar (E85 n) := envPar0 noPhi_par rfl
theorem FC85 (n : Nat × Nat) : FCs Tryz.prog 85 (P85 n) := phiOf_FCs fun xs r h vs hv => FC.of_runG tabOK eqsOK (env85 n) (par85 n) mixed (fun _ p _ => noScope_ok p.1 p.2) Tryz.func85 (c := c85) (an := an85) (pks := pk85) (rks := rk85) (by kernel_rfl) (by kernel_rfl) hv ((S85_run n xs).symm.trans h)
/- slices.Contains[[][2]int,[2]int] -/
abbrev R74 := Bool
noncomputable def c74 : Code := bodyOf Tryz.f74
noncomputable def an74 : Ann := .l
def pk74 : List PK := [.c (.sl (.pair (.int .i64) (.int .i64))), .c (.pair (.int .i64) (.int .i64))]
def rk74 : List RK := [.c .bool 4]
noncomputable def rt74 (st : St) : Option R74 := rtG rk74 st
noncomputable def E74 (n : Nat × Nat) : Env := { T := tab, phi := (consPhi 85 (fun _ => true) (P85 n) noPhi), eff := fun _ => false, fuel := n.1, hold := n.2 }
noncomputable def S74 (n : Nat × Nat) (s0 : List (Int × Int)) (v1 : Int × Int) : Option R74 := run (E74 n) c74 an74 rt74 (fun _ _ => none) rt74 { tm := [.c (.sl (.pair (.int .i64) (.int .i64)) s0 false), .agg [.int .i64 v1.1, .int .i64 v1.2], uu, uu, uu, uu, uu, uu, uu], hp := emp }
theorem S74_eq (n : Nat × Nat) (s0 : List (Int × Int)) (v1 : Int × Int) : S74 n s0 v1 =
 (S85 n s0 v1).bind fun r1' =>
 some (decide (r1' ≥ 0)) := by kernel_rfl
theorem S74_run (n : Nat × Nat) (xs : pksDen pk74) : S74 n xs.1 xs.2.1 = runG (E74 n) noScope c74 an74 (rtG rk74) (fun _ _ => none) (rtG rk74) (st0 pk74 xs Tryz.f74.ntmps) := by kernel_rfl
noncomputable def P74 (n : Nat × Nat) := phiOf pk74 rk74 (fun xs => S74 n xs.1 xs.2.1)
theorem call74 : CallOK Tryz.prog 74 := callOK_of Tryz.func74 (by kernel_rfl) (by kernel_rfl)
theorem env74 (n : Nat × Nat) : EnvOK Tryz.prog (E74 n) := envOK0 (consPhi_ok (FC85 n) call85 noPhi_ok) rfl rfl
theorem par74 (n : Nat × Nat) : EnvPar (E74 n) := envPar0 (consPhi_par phiOf_Par1 noPhi_par) rfl
theorem FC74 (n : Nat × Nat) : FCs Tryz.prog 74 (P74 n) := phiOf_FCs fun xs r h vs hv => FC.of_runG tabOK eqsOK (env74 n) (par74 n) mixed (fun _ p _ => noScope_ok p.1 p.2) Tryz.func74 (c := c74) (an := an74) (pks := pk74) (rks := rk74) (by kernel_rfl) (by kernel_rfl) hv ((S74_run n xs).symm.trans h)
abbrev R67 := Int
noncomputable def c67 : Code := bodyOf Tryz.f67
noncomputable def an67 : Ann := (.s .l (.s (.j [1, 35, 36, 37, 38, 39, 40, 41, 42] (.s .l (.j [1, 35, 36, 37, 38, 39, 40, 41, 42] .l (.s .l (.j [1, 35, 36, 37, 38, 39, 40, 41, 42] .l .l)))) .l) (.s (.s .l (.j [] (.j [1, 20, 21, 22, 35, 36, 37, 38, 39, 40, 41, 42] (.s .l (.s (.j [1, 20, 21, 22, 35, 36, 37, 38, 39, 40, 41, 42] .l .l) (.s (.j [1, 20, 21, 22, 35, 36, 37, 38, 39, 40, 41, 42] (.s .l (.j [1, 20, 21, 22, 35, 36, 37, 38, 39, 40, 41, 42] (.s .l (.j [1, 20, 21, 22, 35, 36, 37, 38, 39, 40, 41, 42] .l (.s .l (.j [1, 20, 21, 22, 35, 36, 37, 38, 39, 40, 41, 42] .l (.s .l (.j [1, 20, 21, 22, 35, 36, 37, 38, 39, 40, 41, 42] .l .l)))))) .l)) .l) .l))) .l) .l)) .l)))
def pk67 : List PK := [.c (.pair (.int .i64) (.sl (.pair (.int .i64) (.int .i64))))]
def rk67 : List RK := [.c (.int .i64) 2]
noncomputable def rt67 (st : St) : Option R67 := rtG rk67 st
noncomputable def E67 (n : Nat × Nat) : Env := { T := tab, phi := (consPhi 74 (fun _ => true) (P74 n) noPhi), eff := fun _ => false, fuel := n.1, hold := n.2 }
noncomputable def kq67_6 (n : Nat × Nat) : St → Option R67 := run (E67 n) (cB (cB (cB c67))) (Ann.snd (Ann.snd (Ann.snd an67))) rt67 (fun _ _ => none) rt67
noncomputable def xb67_8 (n : Nat × Nat) : Nat → St → Option R67 := fun j s => bif Nat.beq j 1 then normC [] s (kq67_6 n) else (fun _ _ => none) j s
noncomputable def F67_9 (n : Nat × Nat) : (St → Option R67) → St → Option R67 := fun K s => run (E67 n) (cA (cA (cB (cA (cB (cB c67)))))) (Ann.fst (Ann.fst (Ann.snd (Ann.fst (Ann.snd (Ann.snd an67)))))) (fun s => normC [1, 20, 21, 22, 35, 36, 37, 38, 39, 40, 41, 42] s K) (xb67_8 n) rt67 s
noncomputable def L67_1 (n : Nat × Nat) (m : Nat) (v20 : List (Int × Int)) (v21 : Int) (v22 : Int) (b1_0 : Int) (b1_1 : List (Int × Int)) : Option R67 := loopN (F67_9 n) m { tm := [uu, .ptr 1 0, uu, uu, uu, uu, uu, uu, uu, uu, uu, uu, uu, uu, uu, uu, uu, uu, uu, uu, .c (.sl (.pair (.int .i64) (.int .i64)) v20 false), .c (.int .i64 v21), .c (.int .i64 v22), uu, uu, uu, uu, uu, uu, uu, uu, uu, uu, uu, uu, uu, uu, uu, uu, uu, uu, uu, uu, uu, uu, uu, uu, uu, uu, uu, uu, uu, uu, uu, uu, uu, uu, uu], hp := (upd emp 1 (.box [.int .i64 b1_0, .sl (.pair (.int .i64) (.int .i64)) b1_1 false])) }
theorem L67_1_eq (n : Nat × Nat) (m1 : Nat) (v20 : List (Int × Int)) (v21 : Int) (v22 : Int) (b1_0 : Int) (b1_1 : List (Int × Int)) : L67_1 n (m1 + 1) v20 v21 v22 b1_0 b1_1 =
 (bif decide (v22 < v21) then (idx v20 v22).bind fun x2' =>
 (bif inB 0 2 then (idx [x2'.1, x2'.2] 0).bind fun x3' =>
 (bif inB 1 2 then (idx [x2'.1, x2'.2] 1).bind fun x4' =>
 ((bif (decide ((if x4' < x3' then x4' else x3') < 0) == false) then (bif inB 0 2 then (idx [x2'.1, x2'.2] 0).bind fun x5' =>
 (bif inB 1 2 then (idx [x2'.1, x2'.2] 1).bind fun x6' =>
 some (decide ((if x6' > x5' then x6' else x5') ≥ b1_0))
 else none)
 else none)
 else some true)).bind fun b7' =>
 (bif b7' then some 2
 else (bif inB 0 2 then (idx [x2'.1, x2'.2] 0).bind fun x8' =>
 (bif inB 1 2 then (idx [x2'.1, x2'.2] 1).bind fun x9' =>
 (bif decide (x8' ≥ x9') then some 7
 else (bif bounds none (some v22) none b1_1.length then (S74 n (b1_1.take (Int.toNat v22)) x2').bind fun r10' =>
 (bif r10' then some 6
 else L67_1 n m1 v20 v21 (wr .i64 (v22 + 1)) b1_0 b1_1)
 else none))
 else none)
 else none))
 else none)
 else none)
 else some 0) := by kernel_rfl
noncomputable def S67 (n : Nat × Nat) (b0 : Int × List (Int × Int)) : Option R67 := run (E67 n) c67 an67 rt67 (fun _ _ => none) rt67 { tm := [.agg [.int .i64 b0.1, .sl (.pair (.int .i64) (.int .i64)) b0.2 false], uu, uu, uu, uu, uu, uu, uu, uu, uu, uu, uu, uu, uu, uu, uu, uu, uu, uu, uu, uu, uu, uu, uu, uu, uu, uu, uu, uu, uu, uu, uu, uu, uu, uu, uu, uu, uu, uu, uu, uu, uu, uu, uu, uu, uu, uu, uu, uu, uu, uu, uu, uu, uu, uu, uu, uu, uu], hp := emp }
theorem S67_eq (n : Nat × Nat) (b0 : Int × List (Int × Int)) : S67 n b0 =
 ((bif (decide (b0.1 < 1) == false) then some (decide (b0.1 > 7))
 else some true)).bind fun b1' =>
 (bif b1' then some 1
 else (bif decide ((b0.2.length : Int) > 10) then some 3
 else L67_1 n n.1 b0.2 (b0.2.length : Int) 0 b0.1 b0.2)) := by kernel_rfl
theorem S67_run (n : Nat × Nat) (xs : pksDen pk67) : S67 n xs.1 = runG (E67 n) noScope c67 an67 (rtG rk67) (fun _ _ => none) (rtG rk67) (st0 pk67 xs Tryz.f67.ntmps) := by kernel_rfl
noncomputable def P67 (n : Nat × Nat) := phiOf pk67 rk67 (fun xs => S67 n xs.1)
theorem call67 : CallOK Tryz.prog 67 := callOK_of Tryz.func67 (by kernel_rfl) (by kernel_rfl)
theorem env67 (n : Nat × Nat) : EnvOK Tryz.prog (E67 n) := envOK0 (consPhi_ok (FC74 n) call74 noPhi_ok) rfl rfl
theorem par67 (n : Nat × Nat) : EnvPar (E67 n) := envPar0 (consPhi_par phiOf_Par1 noPhi_par) rfl
theorem FC67 (n : Nat × Nat) : FCs Tryz.prog 67 (P67 n) := phiOf_FCs fun xs r h vs hv => FC.of_runG tabOK eqsOK (env67 n) (par67 n) mixed (fun _ p _ => noScope_ok p.1 p.2) Tryz.func67 (c := c67) (an := an67) (pks := pk67) (rks := rk67) (by kernel_rfl) (by kernel_rfl) hv ((S67_run n xs).symm.trans h)
abbrev R75 := List Int
noncomputable def c75 : Code := bodyOf Tryz.f75
noncomputable def an75 : Ann := (.s .l (.s .l (.s (.j [3] (.j [0, 3] (.s (.s .l (.j [0, 3] .l .l)) (.s (.j [0, 3] .l .l) .l)) .l) .l) .l)))
def pk75 : List PK := [.c (.int .u64)]
def rk75 : List RK := [.own (.int .i64) 2]
noncomputable def rt75 (st : St) : Option R75 := rtG rk75 st
noncomputable def E75 (n : Nat × Nat) : Env := { T := tab, phi := (consPhi 73 (fun _ => true) (P73 n) noPhi), eff := fun _ => false, fuel := n.1, hold := n.2 }
noncomputable def kq75_1 (n : Nat × Nat) : St → Option R75 := run (E75 n) (cB (cB (cB c75))) (Ann.snd (Ann.snd (Ann.snd an75))) rt75 (fun _ _ => none) rt75
noncomputable def xb75_3 (n : Nat × Nat) : Nat → St → Option R75 := fun j s => bif Nat.beq j 0 then normC [3] s (kq75_1 n) else (fun _ _ => none) j s
noncomputable def F75_4 (n : Nat × Nat) : (St → Option R75) → St → Option R75 := fun K s => run (E75 n) (cA (cA (cA (cB (cB c75))))) (Ann.fst (Ann.fst (Ann.fst (Ann.snd (Ann.snd an75))))) (fun s => normC [0, 3] s K) (xb75_3 n) rt75 s
noncomputable def L75_1 (n : Nat × Nat) (m : Nat) (v0 : Int) (out3 : List Int) : Option R75 := loopN (F75_4 n) m { tm := [.c (.int .u64 v0), uu, uu, .own 3 none false, uu, uu, uu, uu, uu, uu, uu, uu, uu, uu, uu, uu], hp := (upd emp 3 (.arr (.int .i64) out3 false)) }
theorem L75_1_eq (n : Nat × Nat) (m1 : Nat) (v0 : Int) (out3 : List Int) : L75_1 n (m1 + 1) v0 out3 =
 (bif (v0 != 0) then (S73 n v0).bind fun r1' =>
 (bif decide (out3.length + [r1'].length ≤ lim) then L75_1 n m1 (wr .u64 (BitVec.ofInt (IntKind.bits .u64) v0 &&& BitVec.ofInt (IntKind.bits .u64) (wr .u64 (v0 - 1))).toNat) (out3 ++ [r1'])
 else none)
 else some out3) := by kernel_rfl
noncomputable def S75 (n : Nat × Nat) (v0 : Int) : Option R75 := run (E75 n) c75 an75 rt75 (fun _ _ => none) rt75 { tm := [.c (.int .u64 v0), uu, uu, uu, uu, uu, uu, uu, uu, uu, uu, uu, uu, uu, uu, uu], hp := emp }
theorem S75_eq (n : Nat × Nat) (v0 : Int) : S75 n v0 =
    L75_1 n n.1 v0 [] := by kernel_rfl
theorem S75_run (n : Nat × Nat) (xs : pksDen pk75) : S75 n xs.1 = runG (E75 n) noScope c75 an75 (rtG rk75) (fun _ _ => none) (rtG rk75) (st0 pk75 xs Tryz.f75.ntmps) := by kernel_rfl
noncomputable def P75 (n : Nat × Nat) := phiOf pk75 rk75 (fun xs => S75 n xs.1)
theorem call75 : CallOK Tryz.prog 75 := callOK_of Tryz.func75 (by kernel_rfl) (by kernel_rfl)
theorem env75 (n : Nat × Nat) : EnvOK Tryz.prog (E75 n) := envOK0 (consPhi_ok (FC73 n) call73 noPhi_ok) rfl rfl
theorem par75 (n : Nat × Nat) : EnvPar (E75 n) := envPar0 (consPhi_par phiOf_Par1 noPhi_par) rfl
theorem FC75 (n : Nat × Nat) : FCs Tryz.prog 75 (P75 n) := phiOf_FCs fun xs r h vs hv => FC.of_runG tabOK eqsOK (env75 n) (par75 n) mixed (fun _ p _ => noScope_ok p.1 p.2) Tryz.func75 (c := c75) (an := an75) (pks := pk75) (rks := rk75) (by kernel_rfl) (by kernel_rfl) hv ((S75_run n xs).symm.trans h)
/- (headword/fact.Book).explained$1 -/
abbrev R87 := Bool
noncomputable def c87 : Code := bodyOf Tryz.f87
noncomputable def an87 : Ann := .l
def pk87 : List PK := [.c (.pair (.int .i64) (.int .i64)), .p (.int .u64)]
def rk87 : List RK := [.c .bool 3]
noncomputable def rt87 (st : St) : Option R87 := rtG rk87 st
noncomputable def E87 (n : Nat × Nat) : Env := { T := tab, phi := noPhi, eff := fun _ => false, fuel := n.1, hold := n.2 }
noncomputable def S87 (n : Nat × Nat) (p0 : Int × Int) (v1 : Int) : Option R87 := run (E87 n) c87 an87 rt87 (fun _ _ => none) rt87 { tm := [.agg [.int .i64 p0.1, .int .i64 p0.2], .iptr [.int .u64 v1], uu, uu, uu, uu, uu, uu, uu, uu, uu, uu, uu, uu, uu, uu, uu, uu], hp := emp }
theorem S87_eq (n : Nat × Nat) (p0 : Int × Int) (v1 : Int) : S87 n p0 v1 =
 (bif inB 0 2 then (idx [p0.1, p0.2] 0).bind fun x1' =>
 (bif decide (x1' < 0) then none
 else ((bif (((wr .u64 (BitVec.ofInt (IntKind.bits .u64) (Int.fdiv v1 (2 ^ (min (Int.toNat x1') (IntKind.bits .u64)))) &&& BitVec.ofInt (IntKind.bits .u64) 1).toNat) == 0) == true) then (bif inB 1 2 then (idx [p0.1, p0.2] 1).bind fun x2' =>
 (bif decide (x2' < 0) then none
 else some ((wr .u64 (BitVec.ofInt (IntKind.bits .u64) (Int.fdiv v1 (2 ^ (min (Int.toNat x2') (IntKind.bits .u64)))) &&& BitVec.ofInt (IntKind.bits .u64) 1).toNat) == 0))
 else none)
 else some false)).bind fun b3' =>
 some b3')
 else none) := by kernel_rfl
theorem S87_run (n : Nat × Nat) (xs : pksDen pk87) : S87 n xs.1 xs.2.1 = runG (E87 n) noScope c87 an87 (rtG rk87) (fun _ _ => none) (rtG rk87) (st0 pk87 xs Tryz.f87.ntmps) := by kernel_rfl
noncomputable def P87 (n : Nat × Nat) := phiOf pk87 rk87 (fun xs => S87 n xs.1 xs.2.1)
theorem call87 : CallOK Tryz.prog 87 := callOK_of Tryz.func87 (by kernel_rfl) (by kernel_rfl)
theorem env87 (n : Nat × Nat) : EnvOK Tryz.prog (E87 n) := envOK0 noPhi_ok rfl rfl
theorem par87 (n : Nat × Nat) : EnvPar (E87 n) := envPar0 noPhi_par rfl
theorem FC87 (n : Nat × Nat) : FCs Tryz.prog 87 (P87 n) := phiOf_FCs fun xs r h vs hv => FC.of_runG tabOK eqsOK (env87 n) (par87 n) mixed (fun _ p _ => noScope_ok p.1 p.2) Tryz.func87 (c := c87) (an := an87) (pks := pk87) (rks := rk87) (by kernel_rfl) (by kernel_rfl) hv ((S87_run n xs).symm.trans h)
/- slices.IndexFunc[[][2]int,[2]int] -/
abbrev R96c87 := Int
noncomputable def c96c87 : Code := bodyOf Tryz.f96
noncomputable def an96c87 : Ann := (.s .l (.s (.s .l (.j [] (.j [0, 1, 7, 8] (.s .l (.s (.j [0, 1, 7, 8] .l .l) (.s (.j [0, 1, 7, 8] (.s .l (.s .l (.j [0, 1, 7, 8] .l .l))) .l) .l))) .l) .l)) .l))
def pk96c87 : List PK := [.c (.sl (.pair (.int .i64) (.int .i64))), .f 87 [(.int .u64)]]
def rk96c87 : List RK := [.c (.int .i64) 4]
noncomputable def rt96c87 (st : St) : Option R96c87 := rtG rk96c87 st
noncomputable def E96c87 (n : Nat × Nat) : Env := { T := tab, phi := (consPhi 87 (fun _ => true) (P87 n) noPhi), eff := fun _ => false, fuel := n.1, hold := n.2, pcl := [11] }
noncomputable def kq96c87_1 (n : Nat × Nat) : St → Option R96c87 := run (E96c87 n) (cB (cB c96c87)) (Ann.snd (Ann.snd an96c87)) rt96c87 (fun _ _ => none) rt96c87
noncomputable def xb96c87_3 (n : Nat × Nat) : Nat → St → Option R96c87 := fun j s => bif Nat.beq j 0 then normC [] s (kq96c87_1 n) else (fun _ _ => none) j s
noncomputable def F96c87_4 (n : Nat × Nat) : (St → Option R96c87) → St → Option R96c87 := fun K s => run (E96c87 n) (cA (cA (cB (cA (cB c96c87))))) (Ann.fst (Ann.fst (Ann.snd (Ann.fst (Ann.snd an96c87))))) (fun s => normC [0, 1, 7, 8] s K) (xb96c87_3 n) rt96c87 s
noncomputable def L96c87_1 (n : Nat × Nat) (m : Nat) (s0 : List (Int × Int)) (f1_0 : Int) (v7 : Int) (v8 : Int) : Option R96c87 := loopN (F96c87_4 n) m { tm := [.c (.sl (.pair (.int .i64) (.int .i64)) s0 false), .fn 87 [.iptr [.int .u64 f1_0]], uu, uu, uu, uu, uu, .c (.int .i64 v7), .c (.int .i64 v8), uu, uu, uu, uu, uu, uu, uu, uu, uu, uu], hp := emp }
theorem L96c87_1_eq (n : Nat × Nat) (m1 : Nat) (s0 : List (Int × Int)) (f1_0 : Int) (v7 : Int) (v8 : Int) : L96c87_1 n (m1 + 1) s0 f1_0 v7 v8 =
 (bif decide (v8 < v7) then (idx s0 v8).bind fun x1' =>
 (S87 n x1' f1_0).bind fun r2' =>
 (bif r2' then some v8
 else L96c87_1 n m1 s0 f1_0 v7 (wr .i64 (v8 + 1)))
 else some (-1)) := by kernel_rfl
noncomputable def S96c87 (n : Nat × Nat) (s0 : List (Int × Int)) (cp_1_0 : Int) : Option R96c87 := run (E96c87 n) c96c87 an96c87 rt96c87 (fun _ _ => none) rt96c87 { tm := [.c (.sl (.pair (.int .i64) (.int .i64)) s0 false), .fn 87 [.iptr [.int .u64 cp_1_0]], uu, uu, uu, uu, uu, uu, uu, uu, uu, uu, uu, uu, uu, uu, uu, uu, uu], hp := emp }
theorem S96c87_eq (n : Nat × Nat) (s0 : List (Int × Int)) (cp_1_0 : Int) : S96c87 n s0 cp_1_0 =
    L96c87_1 n n.1 s0 cp_1_0 (s0.length : Int) 0 := by kernel_rfl
theorem S96c87_run (n : Nat × Nat) (xs : pksDen pk96c87) : S96c87 n xs.1 xs.2.1.1 = runG (E96c87 n) noScope c96c87 an96c87 (rtG rk96c87) (fun _ _ => none) (rtG rk96c87) (st0 pk96c87 xs Tryz.f96.ntmps) := by kernel_rfl
noncomputable def P96c87 (n : Nat × Nat) := phiOf pk96c87 rk96c87 (fun xs => S96c87 n xs.1 xs.2.1.1)
theorem call96 : CallOK Tryz.prog 96 := callOK_of Tryz.func96 (by kernel_rfl) (by kernel_rfl)
theorem env96c87 (n : Nat × Nat) : EnvOK Tryz.prog (E96c87 n) := envOK0 (consPhi_ok (FC87 n) call87 noPhi_ok) rfl rfl
theorem par96c87 (n : Nat × Nat) : EnvPar (E96c87 n) := envPar0 (consPhi_par phiOf_Par1 noPhi_par) rfl
theorem FC96c87 (n : Nat × Nat) : FCs Tryz.prog 96 (P96c87 n) := phiOf_FCs fun xs r h vs hv => FC.of_runG tabOK eqsOK (env96c87 n) (par96c87 n) mixed (fun _ p _ => noScope_ok p.1 p.2) Tryz.func96 (c := c96c87) (an := an96c87) (pks := pk96c87) (rks := rk96c87) (by kernel_rfl) (by kernel_rfl) hv ((S96c87_run n xs).symm.trans h)
/- slices.ContainsFunc[[][2]int,[2]int] -/
abbrev R86c87 := Bool
noncomputable def c86c87 : Code := bodyOf Tryz.f86
noncomputable def an86c87 : Ann := .l
def pk86c87 : List PK := [.c (.sl (.pair (.int .i64) (.int .i64))), .f 87 [(.int .u64)]]
def rk86c87 : List RK := [.c .bool 4]
noncomputable def rt86c87 (st : St) : Option R86c87 := rtG rk86c87 st
noncomputable def E86c87 (n : Nat × Nat) : Env := { T := tab, phi := (consPhi 96 (isFns [none, some 87]) (P96c87 n) noPhi), eff := fun _ => false, fuel := n.1, hold := n.2 }
noncomputable def S86c87 (n : Nat × Nat) (s0 : List (Int × Int)) (cp_1_0 : Int) : Option R86c87 := run (E86c87 n) c86c87 an86c87 rt86c87 (fun _ _ => none) rt86c87 { tm := [.c (.sl (.pair (.int .i64) (.int .i64)) s0 false), .fn 87 [.iptr [.int .u64 cp_1_0]], uu, uu, uu, uu, uu, uu, uu], hp := emp }
theorem S86c87_eq (n : Nat × Nat) (s0 : List (Int × Int)) (cp_1_0 : Int) : S86c87 n s0 cp_1_0 =
 (S96c87 n s0 cp_1_0).bind fun r1' =>
 some (decide (r1' ≥ 0)) := by kernel_rfl
theorem S86c87_run (n : Nat × Nat) (xs : pksDen pk86c87) : S86c87 n xs.1 xs.2.1.1 = runG (E86c87 n) noScope c86c87 an86c87 (rtG rk86c87) (fun _ _ => none) (rtG rk86c87) (st0 pk86c87 xs Tryz.f86.ntmps) := by kernel_rfl
noncomputable def P86c87 (n : Nat × Nat) := phiOf pk86c87 rk86c87 (fun xs => S86c87 n xs.1 xs.2.1.1)
theorem call86 : CallOK Tryz.prog 86 := callOK_of Tryz.func86 (by kernel_rfl) (by kernel_rfl)
theorem env86c87 (n : Nat × Nat) : EnvOK Tryz.prog (E86c87 n) := envOK0 (consPhi_ok (FC96c87 n) call96 noPhi_ok) rfl rfl
theorem par86c87 (n : Nat × Nat) : EnvPar (E86c87 n) := envPar0 (consPhi_par phiOf_Par1 noPhi_par) rfl
theorem FC86c87 (n : Nat × Nat) : FCs Tryz.prog 86 (P86c87 n) := phiOf_FCs fun xs r h vs hv => FC.of_runG tabOK eqsOK (env86c87 n) (par86c87 n) mixed (fun _ p _ => noScope_ok p.1 p.2) Tryz.func86 (c := c86c87) (an := an86c87) (pks := pk86c87) (rks := rk86c87) (by kernel_rfl) (by kernel_rfl) hv ((S86c87_run n xs).symm.trans h)
/- (headword/fact.Book).explained -/
abbrev R76 := Bool
noncomputable def c76 : Code := bodyOf Tryz.f76
noncomputable def an76 : Ann := .l
def pk76 : List PK := [.c (.pair (.int .i64) (.sl (.pair (.int .i64) (.int .i64)))), .c (.int .u64)]
def rk76 : List RK := [.c .bool 4]
noncomputable def rt76 (st : St) : Option R76 := rtG rk76 st
noncomputable def E76 (n : Nat × Nat) : Env := { T := tab, phi := (consPhi 86 (isFns [none, some 87]) (P86c87 n) noPhi), eff := fun _ => false, fuel := n.1, hold := n.2 }
noncomputable def S76 (n : Nat × Nat) (b0 : Int × List (Int × Int)) (v1 : Int) : Option R76 := run (E76 n) c76 an76 rt76 (fun _ _ => none) rt76 { tm := [.agg [.int .i64 b0.1, .sl (.pair (.int .i64) (.int .i64)) b0.2 false], .c (.int .u64 v1), uu, uu, uu, uu, uu, uu, uu, uu], hp := emp }
theorem S76_eq (n : Nat × Nat) (b0 : Int × List (Int × Int)) (v1 : Int) : S76 n b0 v1 =
 (S86c87 n b0.2 v1).bind fun r1' =>
 some (!r1') := by kernel_rfl
theorem S76_run (n : Nat × Nat) (xs : pksDen pk76) : S76 n xs.1 xs.2.1 = runG (E76 n) noScope c76 an76 (rtG rk76) (fun _ _ => none) (rtG rk76) (st0 pk76 xs Tryz.f76.ntmps) := by kernel_rfl
noncomputable def P76 (n : Nat × Nat) := phiOf pk76 rk76 (fun xs => S76 n xs.1 xs.2.1)
theorem call76 : CallOK Tryz.prog 76 := callOK_of Tryz.func76 (by kernel_rfl) (by kernel_rfl)
theorem env76 (n : Nat × Nat) : EnvOK Tryz.prog (E76 n) := envOK0 (consPhi_ok (FC86c87 n) call86 noPhi_ok) rfl rfl
theorem par76 (n : Nat × Nat) : EnvPar (E76 n) := envPar0 (consPhi_par phiOf_Par1 noPhi_par) rfl
theorem FC76 (n : Nat × Nat) : FCs Tryz.prog 76 (P76 n) := phiOf_FCs fun xs r h vs hv => FC.of_runG tabOK eqsOK (env76 n) (par76 n) mixed (fun _ p _ => noScope_ok p.1 p.2) Tryz.func76 (c := c76) (an := an76) (pks := pk76) (rks := rk76) (by kernel_rfl) (by kernel_rfl) hv ((S76_run n xs).symm.trans h)
/- (headword/fact.Book).shortest -/
abbrev R68 := List Int × Int
noncomputable def c68 : Code := bodyOf Tryz.f68
noncomputable def an68 : Ann := (.s .l (.s .l (.s .l (.s (.s .l (.j [4, 5] (.j [1, 4, 5, 10, 11, 21, 22, 23, 24, 25, 26, 27, 28, 29, 34, 35, 36, 37, 38] (.s .l (.s (.j [1, 4, 5, 10, 11, 21, 22, 23, 24, 25, 26, 27, 28, 29, 34, 35, 36, 37, 38] .l .l) (.j [] (.j [1, 4, 5, 10, 11, 21, 22, 23, 24, 25, 26, 27, 28, 29, 34, 35, 36, 37, 38] (.s .l (.s .l (.s (.s .l (.j [1, 4, 5, 7, 10, 11, 21, 22, 23, 24, 25, 26, 27, 28, 29, 34, 35, 36, 37, 38] .l .l)) (.s (.s .l (.j [1, 4, 5, 7, 10, 11, 21, 22, 23, 24, 25, 26, 27, 28, 29, 34, 35, 36, 37, 38] .l .l)) (.s .l (.s .l (.j [1, 4, 5, 10, 11, 21, 22, 23, 24, 25, 26, 27, 28, 29, 34, 35, 36, 37, 38] .l .l))))))) .l) .l))) .l) .l)) .l))))
def pk68 : List PK := [.c (.pair (.int .i64) (.sl (.pair (.int .i64) (.int .i64))))]
def rk68 : List RK := [.own (.int .i64) 2, .c (.int .i64) 3]
noncomputable def rt68 (st : St) : Option R68 := rtG rk68 st
noncomputable def E68 (n : Nat × Nat) : Env := { T := tab, phi := (consPhi 47 (fun _ => true) (P47 n) (consPhi 75 (fun _ => true) (P75 n) (consPhi 76 (fun _ => true) (P76 n) noPhi))), eff := fun _ => false, fuel := n.1, hold := n.2 }
noncomputable def kq68_1 (n : Nat × Nat) : St → Option R68 := run (E68 n) (cB (cB (cB (cB c68)))) (Ann.snd (Ann.snd (Ann.snd (Ann.snd an68)))) rt68 (fun _ _ => none) rt68
noncomputable def xb68_3 (n : Nat × Nat) : Nat → St → Option R68 := fun j s => bif Nat.beq j 0 then normC [4, 5] s (kq68_1 n) else (fun _ _ => none) j s
noncomputable def F68_4 (n : Nat × Nat) : (St → Option R68) → St → Option R68 := fun K s => run (E68 n) (cA (cA (cB (cA (cB (cB (cB c68))))))) (Ann.fst (Ann.fst (Ann.snd (Ann.fst (Ann.snd (Ann.snd (Ann.snd an68))))))) (fun s => normC [1, 4, 5, 10, 11, 21, 22, 23, 24, 25, 26, 27, 28, 29, 34, 35, 36, 37, 38] s K) (xb68_3 n) rt68 s
noncomputable def kq68_7 (n : Nat × Nat) (m1 : Nat) : St → Option R68 := run (E68 n) (cB (cB (cB (cA (cA (cB (cA (cB (cB (cB c68)))))))))) (Ann.snd (Ann.snd (Ann.snd (Ann.fst (Ann.fst (Ann.snd (Ann.fst (Ann.snd (Ann.snd (Ann.snd an68)))))))))) (fun s => normC [1, 4, 5, 10, 11, 21, 22, 23, 24, 25, 26, 27, 28, 29, 34, 35, 36, 37, 38] s (loopN (F68_4 n) m1)) (xb68_3 n) rt68
noncomputable def L68_1 (n : Nat × Nat) (m : Nat) (many5 : Int) (v10 : Int) (v11 : Int) (b1_0 : Int) (b1_1 : List (Int × Int)) (best4 : List Int) : Option R68 := loopN (F68_4 n) m { tm := [uu, .ptr 1 0, uu, uu, .own 4 none false, .c (.int .i64 many5), uu, uu, uu, uu, .c (.int .u64 v10), .c (.int .u64 v11), uu, uu, uu, uu, uu, uu, uu, uu, uu, uu, uu, uu, uu, uu, uu, uu, uu, uu, uu, uu, uu, uu, uu, uu, uu, uu, uu, uu, uu, uu, uu, uu, uu, uu, uu, uu, uu, uu, uu], hp := (upd (upd emp 4 (.arr (.int .i64) best4 false)) 1 (.box [.int .i64 b1_0, .sl (.pair (.int .i64) (.int .i64)) b1_1 false])) }
noncomputable def L68_2 (n : Nat × Nat) (m1 : Nat) (many5 : Int) (v10 : Int) (v11 : Int) (b1_0 : Int) (b1_1 : List (Int × Int)) (best4 : List Int) : Option R68 := loopN (fun _ => (kq68_7 n m1)) n.2 { tm := [uu, .ptr 1 0, uu, uu, .own 4 none false, .c (.int .i64 many5), uu, uu, uu, uu, .c (.int .u64 v10), .c (.int .u64 v11), uu, uu, uu, uu, uu, uu, uu, uu, uu, uu, uu, uu, uu, uu, uu, uu, uu, uu, uu, uu, uu, uu, uu, uu, uu, uu, uu, uu, uu, uu, uu, uu, uu, uu, uu, uu, uu, uu, uu], hp := (upd (upd emp 4 (.arr (.int .i64) best4 false)) 1 (.box [.int .i64 b1_0, .sl (.pair (.int .i64) (.int .i64)) b1_1 false])) }
theorem L68_1_eq (n : Nat × Nat) (m1 : Nat) (many5 : Int) (v10 : Int) (v11 : Int) (b1_0 : Int) (b1_1 : List (Int × Int)) (best4 : List Int) : L68_1 n (m1 + 1) many5 v10 v11 b1_0 b1_1 best4 =
 (bif decide (v11 < v10) then (S75 n v11).bind fun r1' =>
 (S76 n (b1_0, b1_1) v11).bind fun r2' =>
 ((bif ((!r2') == false) then ((bif (decide (many5 > 0) == true) then some (decide ((r1'.length : Int) > (best4.length : Int)))
 else some false)).bind fun b3' =>
 some b3'
 else some true)).bind fun b4' =>
 (bif b4' then L68_2 n m1 many5 v10 v11 b1_0 b1_1 best4
 else ((bif ((many5 == 0) == false) then some (decide ((r1'.length : Int) < (best4.length : Int)))
 else some true)).bind fun b5' =>
 (bif b5' then L68_2 n m1 1 v10 v11 b1_0 b1_1 r1'
 else (S47 n r1' best4).bind fun r6' =>
 (bif decide (r6' < 0) then L68_2 n m1 (wr .i64 (many5 + 1)) v10 v11 b1_0 b1_1 r1'
 else L68_2 n m1 (wr .i64 (many5 + 1)) v10 v11 b1_0 b1_1 best4)))
 else some (best4, many5)) := by kernel_rfl
theorem L68_2_raw (n : Nat × Nat) (m1 : Nat) (many5 : Int) (v10 : Int) (v11 : Int) (b1_0 : Int) (b1_1 : List (Int × Int)) (best4 : List Int) : (kq68_7 n m1) { tm := [uu, .ptr 1 0, uu, uu, .own 4 none false, .c (.int .i64 many5), uu, uu, uu, uu, .c (.int .u64 v10), .c (.int .u64 v11), uu, uu, uu, uu, uu, uu, uu, uu, uu, uu, uu, uu, uu, uu, uu, uu, uu, uu, uu, uu, uu, uu, uu, uu, uu, uu, uu, uu, uu, uu, uu, uu, uu, uu, uu, uu, uu, uu, uu], hp := (upd (upd emp 4 (.arr (.int .i64) best4 false)) 1 (.box [.int .i64 b1_0, .sl (.pair (.int .i64) (.int .i64)) b1_1 false])) } =
    L68_1 n m1 many5 v10 (wr .u64 (v11 + 1)) b1_0 b1_1 best4 := by kernel_rfl
noncomputable def S68 (n : Nat × Nat) (b0 : Int × List (Int × Int)) : Option R68 := run (E68 n) c68 an68 rt68 (fun _ _ => none) rt68 { tm := [.agg [.int .i64 b0.1, .sl (.pair (.int .i64) (.int .i64)) b0.2 false], uu, uu, uu, uu, uu, uu, uu, uu, uu, uu, uu, uu, uu, uu, uu, uu, uu, uu, uu, uu, uu, uu, uu, uu, uu, uu, uu, uu, uu, uu, uu, uu, uu, uu, uu, uu, uu, uu, uu, uu, uu, uu, uu, uu, uu, uu, uu, uu, uu, uu], hp := emp }
theorem S68_eq (n : Nat × Nat) (b0 : Int × List (Int × Int)) : S68 n b0 =
 (bif decide (b0.1 < 0) then none
 else L68_1 n n.1 0 (wr .u64 (1 * 2 ^ (min (Int.toNat b0.1) (IntKind.bits .u64)))) 0 b0.1 b0.2 []) := by kernel_rfl
theorem S68_run (n : Nat × Nat) (xs : pksDen pk68) : S68 n xs.1 = runG (E68 n) noScope c68 an68 (rtG rk68) (fun _ _ => none) (rtG rk68) (st0 pk68 xs Tryz.f68.ntmps) := by kernel_rfl
noncomputable def P68 (n : Nat × Nat) := phiOf pk68 rk68 (fun xs => S68 n xs.1)
theorem call68 : CallOK Tryz.prog 68 := callOK_of Tryz.func68 (by kernel_rfl) (by kernel_rfl)
theorem env68 (n : Nat × Nat) : EnvOK Tryz.prog (E68 n) := envOK0 (consPhi_ok (FC47 n) call47 (consPhi_ok (FC75 n) call75 (consPhi_ok (FC76 n) call76 noPhi_ok))) rfl rfl
theorem par68 (n : Nat × Nat) : EnvPar (E68 n) := envPar0 (consPhi_par phiOf_Par1 (consPhi_par phiOf_Par1 (consPhi_par phiOf_Par1 noPhi_par))) rfl
theorem FC68 (n : Nat × Nat) : FCs Tryz.prog 68 (P68 n) := phiOf_FCs fun xs r h vs hv => FC.of_runG tabOK eqsOK (env68 n) (par68 n) mixed (fun _ p _ => noScope_ok p.1 p.2) Tryz.func68 (c := c68) (an := an68) (pks := pk68) (rks := rk68) (by kernel_rfl) (by kernel_rfl) hv ((S68_run n xs).symm.trans h)
abbrev R57 := List Int × Int
noncomputable def c57 : Code := bodyOf Tryz.f57
noncomputable def an57 : Ann := (.s .l (.s (.s .l (.s .l (.j [1] .l .l))) .l))
def pk57 : List PK := [.c (.pair (.int .i64) (.sl (.pair (.int .i64) (.int .i64))))]
def rk57 : List RK := [.own (.int .i64) 2, .c (.int .i64) 3]
noncomputable def rt57 (st : St) : Option R57 := rtG rk57 st
noncomputable def E57 (n : Nat × Nat) : Env := { T := tab, phi := (consPhi 67 (fun _ => true) (P67 n) (consPhi 68 (fun _ => true) (P68 n) noPhi)), eff := fun _ => false, fuel := n.1, hold := n.2 }
noncomputable def S57 (n : Nat × Nat) (b0 : Int × List (Int × Int)) : Option R57 := run (E57 n) c57 an57 rt57 (fun _ _ => none) rt57 { tm := [.agg [.int .i64 b0.1, .sl (.pair (.int .i64) (.int .i64)) b0.2 false], uu, uu, uu, uu, uu, uu, uu, uu, uu, uu, uu, uu, uu, uu, uu, uu, uu], hp := emp }
theorem S57_eq (n : Nat × Nat) (b0 : Int × List (Int × Int)) : S57 n b0 =
 (S67 n b0).bind fun r1' =>
 (bif (r1' != 0) then some ([], r1')
 else (S68 n b0).bind fun r2' =>
 some (r2'.1, 0)) := by kernel_rfl
theorem S57_run (n : Nat × Nat) (xs : pksDen pk57) : S57 n xs.1 = runG (E57 n) noScope c57 an57 (rtG rk57) (fun _ _ => none) (rtG rk57) (st0 pk57 xs Tryz.f57.ntmps) := by kernel_rfl
noncomputable def P57 (n : Nat × Nat) := phiOf pk57 rk57 (fun xs => S57 n xs.1)
theorem call57 : CallOK Tryz.prog 57 := callOK_of Tryz.func57 (by kernel_rfl) (by kernel_rfl)
theorem env57 (n : Nat × Nat) : EnvOK Tryz.prog (E57 n) := envOK0 (consPhi_ok (FC67 n) call67 (consPhi_ok (FC68 n) call68 noPhi_ok)) rfl rfl
theorem par57 (n : Nat × Nat) : EnvPar (E57 n) := envPar0 (consPhi_par phiOf_Par1 (consPhi_par phiOf_Par1 noPhi_par)) rfl
theorem FC57 (n : Nat × Nat) : FCs Tryz.prog 57 (P57 n) := phiOf_FCs fun xs r h vs hv => FC.of_runG tabOK eqsOK (env57 n) (par57 n) mixed (fun _ p _ => noScope_ok p.1 p.2) Tryz.func57 (c := c57) (an := an57) (pks := pk57) (rks := rk57) (by kernel_rfl) (by kernel_rfl) hv ((S57_run n xs).symm.trans h)
abbrev R97 := Int
noncomputable def c97 : Code := bodyOf Tryz.f97
noncomputable def an97 : Ann := (.s .l (.s (.j [1, 35, 36, 37, 38, 39, 40, 41, 42] (.s .l (.j [1, 35, 36, 37, 38, 39, 40, 41, 42] .l (.s .l (.j [1, 35, 36, 37, 38, 39, 40, 41, 42] .l .l)))) .l) (.s (.s .l (.j [] (.j [1, 20, 21, 22, 35, 36, 37, 38, 39, 40, 41, 42] (.s .l (.s (.j [1, 20, 21, 22, 35, 36, 37, 38, 39, 40, 41, 42] .l .l) (.s (.j [1, 20, 21, 22, 35, 36, 37, 38, 39, 40, 41, 42] (.s .l (.j [1, 20, 21, 22, 35, 36, 37, 38, 39, 40, 41, 42] (.s .l (.j [1, 20, 21, 22, 35, 36, 37, 38, 39, 40, 41, 42] .l (.s .l (.j [1, 20, 21, 22, 35, 36, 37, 38, 39, 40, 41, 42] .l (.s .l (.j [1, 20, 21, 22, 35, 36, 37, 38, 39, 40, 41, 42] .l .l)))))) .l)) .l) .l))) .l) .l)) .l)))
def pk97 : List PK := [.c (.pair (.int .i64) (.sl (.pair (.int .i64) (.int .i64))))]
def rk97 : List RK := [.c (.int .i64) 2]
noncomputable def rt97 (st : St) : Option R97 := rtG rk97 st
noncomputable def E97 (n : Nat × Nat) : Env := { T := tab, phi := (consPhi 74 (fun _ => true) (P74 n) noPhi), eff := fun _ => false, fuel := n.1, hold := n.2 }
noncomputable def kq97_6 (n : Nat × Nat) : St → Option R97 := run (E97 n) (cB (cB (cB c97))) (Ann.snd (Ann.snd (Ann.snd an97))) rt97 (fun _ _ => none) rt97
noncomputable def xb97_8 (n : Nat × Nat) : Nat → St → Option R97 := fun j s => bif Nat.beq j 1 then normC [] s (kq97_6 n) else (fun _ _ => none) j s
noncomputable def F97_9 (n : Nat × Nat) : (St → Option R97) → St → Option R97 := fun K s => run (E97 n) (cA (cA (cB (cA (cB (cB c97)))))) (Ann.fst (Ann.fst (Ann.snd (Ann.fst (Ann.snd (Ann.snd an97)))))) (fun s => normC [1, 20, 21, 22, 35, 36, 37, 38, 39, 40, 41, 42] s K) (xb97_8 n) rt97 s
noncomputable def L97_1 (n : Nat × Nat) (m : Nat) (v20 : List (Int × Int)) (v21 : Int) (v22 : Int) (b1_0 : Int) (b1_1 : List (Int × Int)) : Option R97 := loopN (F97_9 n) m { tm := [uu, .ptr 1 0, uu, uu, uu, uu, uu, uu, uu, uu, uu, uu, uu, uu, uu, uu, uu, uu, uu, uu, .c (.sl (.pair (.int .i64) (.int .i64)) v20 false), .c (.int .i64 v21), .c (.int .i64 v22), uu, uu, uu, uu, uu, uu, uu, uu, uu, uu, uu, uu, uu, uu, uu, uu, uu, uu, uu, uu, uu, uu, uu, uu, uu, uu, uu, uu, uu, uu, uu, uu, uu, uu, uu], hp := (upd emp 1 (.box [.int .i64 b1_0, .sl (.pair (.int .i64) (.int .i64)) b1_1 false])) }
theorem L97_1_eq (n : Nat × Nat) (m1 : Nat) (v20 : List (Int × Int)) (v21 : Int) (v22 : Int) (b1_0 : Int) (b1_1 : List (Int × Int)) : L97_1 n (m1 + 1) v20 v21 v22 b1_0 b1_1 =
 (bif decide (v22 < v21) then (idx v20 v22).bind fun x2' =>
 (bif inB 0 2 then (idx [x2'.1, x2'.2] 0).bind fun x3' =>
 (bif inB 1 2 then (idx [x2'.1, x2'.2] 1).bind fun x4' =>
 ((bif (decide ((if x4' < x3' then x4' else x3') < 0) == false) then (bif inB 0 2 then (idx [x2'.1, x2'.2] 0).bind fun x5' =>
 (bif inB 1 2 then (idx [x2'.1, x2'.2] 1).bind fun x6' =>
 some (decide ((if x6' > x5' then x6' else x5') ≥ b1_0))
 else none)
 else none)
 else some true)).bind fun b7' =>
 (bif b7' then some 2
 else (bif inB 0 2 then (idx [x2'.1, x2'.2] 0).bind fun x8' =>
 (bif inB 1 2 then (idx [x2'.1, x2'.2] 1).bind fun x9' =>
 (bif (x8' == x9') then some 5
 else (bif bounds none (some v22) none b1_1.length then (S74 n (b1_1.take (Int.toNat v22)) x2').bind fun r10' =>
 (bif r10' then some 6
 else L97_1 n m1 v20 v21 (wr .i64 (v22 + 1)) b1_0 b1_1)
 else none))
 else none)
 else none))
 else none)
 else none)
 else some 0) := by kernel_rfl
noncomputable def S97 (n : Nat × Nat) (b0 : Int × List (Int × Int)) : Option R97 := run (E97 n) c97 an97 rt97 (fun _ _ => none) rt97 { tm := [.agg [.int .i64 b0.1, .sl (.pair (.int .i64) (.int .i64)) b0.2 false], uu, uu, uu, uu, uu, uu, uu, uu, uu, uu, uu, uu, uu, uu, uu, uu, uu, uu, uu, uu, uu, uu, uu, uu, uu, uu, uu, uu, uu, uu, uu, uu, uu, uu, uu, uu, uu, uu, uu, uu, uu, uu, uu, uu, uu, uu, uu, uu, uu, uu, uu, uu, uu, uu, uu, uu, uu], hp := emp }
theorem S97_eq (n : Nat × Nat) (b0 : Int × List (Int × Int)) : S97 n b0 =
 ((bif (decide (b0.1 < 1) == false) then some (decide (b0.1 > 7))
 else some true)).bind fun b1' =>
 (bif b1' then some 1
 else (bif decide ((b0.2.length : Int) > 16) then some 3
 else L97_1 n n.1 b0.2 (b0.2.length : Int) 0 b0.1 b0.2)) := by kernel_rfl
theorem S97_run (n : Nat × Nat) (xs : pksDen pk97) : S97 n xs.1 = runG (E97 n) noScope c97 an97 (rtG rk97) (fun _ _ => none) (rtG rk97) (st0 pk97 xs Tryz.f97.ntmps) := by kernel_rfl
noncomputable def P97 (n : Nat × Nat) := phiOf pk97 rk97 (fun xs => S97 n xs.1)
theorem call97 : CallOK Tryz.prog 97 := callOK_of Tryz.func97 (by kernel_rfl) (by kernel_rfl)
theorem env97 (n : Nat × Nat) : EnvOK Tryz.prog (E97 n) := envOK0 (consPhi_ok (FC74 n) call74 noPhi_ok) rfl rfl
theorem par97 (n : Nat × Nat) : EnvPar (E97 n) := envPar0 (consPhi_par phiOf_Par1 noPhi_par) rfl
theorem FC97 (n : Nat × Nat) : FCs Tryz.prog 97 (P97 n) := phiOf_FCs fun xs r h vs hv => FC.of_runG tabOK eqsOK (env97 n) (par97 n) mixed (fun _ p _ => noScope_ok p.1 p.2) Tryz.func97 (c := c97) (an := an97) (pks := pk97) (rks := rk97) (by kernel_rfl) (by kernel_rfl) hv ((S97_run n xs).symm.trans h)
end Go.Proofs.YtkfkbebinhkdlaaGreatDoor
