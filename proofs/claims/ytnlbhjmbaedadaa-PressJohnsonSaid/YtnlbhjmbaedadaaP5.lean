/- Texts of this claim, joined: G84 to D66. -/
import Derived.KernelRfl
import Derived.LoopIn
import Derived.LoopNIn
import Derived.Maps.AppendAt
import Derived.OwnWalkIn
import Derived.RangeFuncBound
import Derived.RangeFuncBox
import Derived.RangeFuncCalls
import Derived.RangeFuncLeaves
import Derived.RangeFuncNested
import Derived.Shelf.Abstract
import Derived.TacticsInMore
import Derived.Test.YtnlbhjmbaedadaaProg
import Derived.WalkKit
import Derived.Test.YtnlbhjmbaedadaaP4
set_option linter.unusedVariables false
set_option linter.unusedSimpArgs false
set_option maxRecDepth 100000
namespace Go.Proofs.Ytnlbhjmbaedadaa
open Go.Vi
abbrev R84 := Int
noncomputable def c84 : Code := bodyOf Try.f84
noncomputable def an84 : Ann := (.s .l (.s (.s .l (.j [0] (.j [0, 7, 8, 9] (.s .l (.s (.j [0, 7, 8, 9] .l .l) (.s (.j [0, 7, 8, 9] .l .l) .l))) .l) .l)) .l))
def pk84 : List PK := [.c (.int .i64), .c (.sl (.int .i64))]
def rk84 : List RK := [.c (.int .i64) 4]
noncomputable def rt84 (st : St) : Option R84 := rtG rk84 st
noncomputable def E84 (n : Nat × Nat) : Env := { T := tab, phi := noPhi, eff := fun _ => false, fuel := n.1, hold := n.2 }
noncomputable def kq84_1 (n : Nat × Nat) : St → Option R84 := run (E84 n) (cB (cB c84)) (Ann.snd (Ann.snd an84)) rt84 (fun _ _ => none) rt84
noncomputable def xb84_3 (n : Nat × Nat) : Nat → St → Option R84 := fun j s => bif Nat.beq j 0 then normC [0] s (kq84_1 n) else (fun _ _ => none) j s
noncomputable def F84_4 (n : Nat × Nat) : (St → Option R84) → St → Option R84 := fun K s => run (E84 n) (cA (cA (cB (cA (cB c84))))) (Ann.fst (Ann.fst (Ann.snd (Ann.fst (Ann.snd an84))))) (fun s => normC [0, 7, 8, 9] s K) (xb84_3 n) rt84 s
noncomputable def L84_1 (n : Nat × Nat) (m : Nat) (first0 : Int) (v7 : List Int) (v8 : Int) (v9 : Int) : Option R84 := loopN (F84_4 n) m { tm := [.c (.int .i64 first0), uu, uu, uu, uu, uu, uu, .c (.sl (.int .i64) v7 false), .c (.int .i64 v8), .c (.int .i64 v9), uu, uu, uu, uu, uu, uu, uu, uu], hp := emp }
theorem L84_1_eq (n : Nat × Nat) (m1 : Nat) (first0 : Int) (v7 : List Int) (v8 : Int) (v9 : Int) : L84_1 n (m1 + 1) first0 v7 v8 v9 =
 (bif decide (v9 < v8) then (idx v7 v9).bind fun x1' =>
      L84_1 n m1 (if x1' > first0 then x1' else first0) v7 v8 (wr .i64 (v9 + 1))
 else some first0) := by kernel_rfl
noncomputable def S84 (n : Nat × Nat) (first0 : Int) (v1 : List Int) : Option R84 := run (E84 n) c84 an84 rt84 (fun _ _ => none) rt84 { tm := [.c (.int .i64 first0), .c (.sl (.int .i64) v1 false), uu, uu, uu, uu, uu, uu, uu, uu, uu, uu, uu, uu, uu, uu, uu, uu], hp := emp }
theorem S84_eq (n : Nat × Nat) (first0 : Int) (v1 : List Int) : S84 n first0 v1 =
    L84_1 n n.1 first0 v1 (v1.length : Int) 0 := by kernel_rfl
theorem S84_run (n : Nat × Nat) (xs : pksDen pk84) : S84 n xs.1 xs.2.1 = runG (E84 n) noScope c84 an84 (rtG rk84) (fun _ _ => none) (rtG rk84) (st0 pk84 xs Try.f84.ntmps) := by kernel_rfl
noncomputable def P84 (n : Nat × Nat) := phiOf pk84 rk84 (fun xs => S84 n xs.1 xs.2.1)
theorem call84 : CallOK Try.prog 84 := callOK_of Try.func84 (by kernel_rfl) (by kernel_rfl)
theorem env84 (n : Nat × Nat) : EnvOK Try.prog (E84 n) := envOK0 noPhi_ok rfl rfl
theorem par84 (n : Nat × Nat) : EnvPar (E84 n) := envPar0 noPhi_par rfl
theorem FC84 (n : Nat × Nat) : FCs Try.prog 84 (P84 n) := phiOf_FCs fun xs r h vs hv => FC.of_runG tabOK eqsOK (env84 n) (par84 n) mixed (fun _ => noScope_ok) Try.func84 (c := c84) (an := an84) (pks := pk84) (rks := rk84) (by kernel_rfl) (by kernel_rfl) hv ((S84_run n xs).symm.trans h)
abbrev R61 := Int
noncomputable def c61 : Code := bodyOf Try.f61
noncomputable def an61 : Ann := .l
def pk61 : List PK := [.c (.sl (.pair (.int .i64) (.int .i64)))]
def rk61 : List RK := [.c (.int .i64) 2]
noncomputable def rt61 (st : St) : Option R61 := rtG rk61 st
noncomputable def E61 (n : Nat × Nat) : Env := { T := tab, phi := (consPhi 66 (fun _ => true) (P66 n) (consPhi 84 (fun _ => true) (P84 n) noPhi)), eff := fun _ => false, fuel := n.1, hold := n.2 }
noncomputable def S61 (n : Nat × Nat) (l0 : List (Int × Int)) : Option R61 := run (E61 n) c61 an61 rt61 (fun _ _ => none) rt61 { tm := [.c (.sl (.pair (.int .i64) (.int .i64)) l0 false), uu, uu, uu, uu, uu, uu, uu, uu, uu, uu, uu], hp := emp }
theorem S61_eq (n : Nat × Nat) (l0 : List (Int × Int)) : S61 n l0 =
 (S66 n l0).bind fun r1' =>
 (bif inB 0 r1'.length then (idx r1' 0).bind fun x2' =>
 (bif bounds (some 1) none none r1'.length then (S84 n x2' ((r1'.drop (0 + (Int.toNat 1))).take (r1'.length - (Int.toNat 1)))).bind fun r3' =>
 some r3'
 else none)
 else none) := by kernel_rfl
theorem S61_run (n : Nat × Nat) (xs : pksDen pk61) : S61 n xs.1 = runG (E61 n) noScope c61 an61 (rtG rk61) (fun _ _ => none) (rtG rk61) (st0 pk61 xs Try.f61.ntmps) := by kernel_rfl
noncomputable def P61 (n : Nat × Nat) := phiOf pk61 rk61 (fun xs => S61 n xs.1)
theorem call61 : CallOK Try.prog 61 := callOK_of Try.func61 (by kernel_rfl) (by kernel_rfl)
theorem env61 (n : Nat × Nat) : EnvOK Try.prog (E61 n) := envOK0 (consPhi_ok (FC66 n) call66 (consPhi_ok (FC84 n) call84 noPhi_ok)) rfl rfl
theorem par61 (n : Nat × Nat) : EnvPar (E61 n) := envPar0 (consPhi_par phiOf_Par1 (consPhi_par phiOf_Par1 noPhi_par)) rfl
theorem FC61 (n : Nat × Nat) : FCs Try.prog 61 (P61 n) := phiOf_FCs fun xs r h vs hv => FC.of_runG tabOK eqsOK (env61 n) (par61 n) mixed (fun _ => noScope_ok) Try.func61 (c := c61) (an := an61) (pks := pk61) (rks := rk61) (by kernel_rfl) (by kernel_rfl) hv ((S61_run n xs).symm.trans h)
abbrev R19 := Int × Int
noncomputable def c19 : Code := bodyOf Try.f19
noncomputable def an19 : Ann := (.s .l (.s .l (.s (.s .l (.j [6] .l .l)) .l)))
def pk19 : List PK := [.c (.sl (.pair (.int .i64) (.int .i64))), .c (.sl (.int .i64))]
def rk19 : List RK := [.c (.int .i64) 4, .c (.int .i64) 5]
noncomputable def rt19 (st : St) : Option R19 := rtG rk19 st
noncomputable def E19 (n : Nat × Nat) : Env := { T := tab, phi := (consPhi 58 (fun _ => true) (P58 n) (consPhi 61 (fun _ => true) (P61 n) noPhi)), eff := fun _ => false, fuel := n.1, hold := n.2 }
noncomputable def S19 (n : Nat × Nat) (sheets0 : List (Int × Int)) (order1 : List Int) : Option R19 := run (E19 n) c19 an19 rt19 (fun _ _ => none) rt19 { tm := [.c (.sl (.pair (.int .i64) (.int .i64)) sheets0 false), .c (.sl (.int .i64) order1 false), uu, uu, uu, uu, uu, uu, uu, uu, uu, uu, uu, uu, uu, uu, uu, uu, uu], hp := emp }
theorem S19_eq (n : Nat × Nat) (sheets0 : List (Int × Int)) (order1 : List Int) : S19 n sheets0 order1 =
 (S58 n sheets0 order1).bind fun r1' =>
 (bif (r1'.2 != 0) then some (0, r1'.2)
 else (S61 n r1'.1).bind fun r2' =>
 some (r2', 0)) := by kernel_rfl
theorem S19_run (n : Nat × Nat) (xs : pksDen pk19) : S19 n xs.1 xs.2.1 = runG (E19 n) noScope c19 an19 (rtG rk19) (fun _ _ => none) (rtG rk19) (st0 pk19 xs Try.f19.ntmps) := by kernel_rfl
noncomputable def P19 (n : Nat × Nat) := phiOf pk19 rk19 (fun xs => S19 n xs.1 xs.2.1)
theorem call19 : CallOK Try.prog 19 := callOK_of Try.func19 (by kernel_rfl) (by kernel_rfl)
theorem env19 (n : Nat × Nat) : EnvOK Try.prog (E19 n) := envOK0 (consPhi_ok (FC58 n) call58 (consPhi_ok (FC61 n) call61 noPhi_ok)) rfl rfl
theorem par19 (n : Nat × Nat) : EnvPar (E19 n) := envPar0 (consPhi_par phiOf_Par1 (consPhi_par phiOf_Par1 noPhi_par)) rfl
theorem FC19 (n : Nat × Nat) : FCs Try.prog 19 (P19 n) := phiOf_FCs fun xs r h vs hv => FC.of_runG tabOK eqsOK (env19 n) (par19 n) mixed (fun _ => noScope_ok) Try.func19 (c := c19) (an := an19) (pks := pk19) (rks := rk19) (by kernel_rfl) (by kernel_rfl) hv ((S19_run n xs).symm.trans h)
abbrev R21 := Int × Int
noncomputable def c21 : Code := bodyOf Try.f21
noncomputable def an21 : Ann := (.s .l (.s .l (.s (.s .l (.j [6] .l .l)) .l)))
def pk21 : List PK := [.c (.sl (.pair (.int .i64) (.int .i64))), .c (.sl (.int .i64))]
def rk21 : List RK := [.c (.int .i64) 4, .c (.int .i64) 5]
noncomputable def rt21 (st : St) : Option R21 := rtG rk21 st
noncomputable def E21 (n : Nat × Nat) : Env := { T := tab, phi := (consPhi 58 (fun _ => true) (P58 n) (consPhi 61 (fun _ => true) (P61 n) (consPhi 63 (fun _ => true) (P63 n) (consPhi 64 (fun _ => true) (P64 n) noPhi)))), eff := fun _ => false, fuel := n.1, hold := n.2 }
noncomputable def S21 (n : Nat × Nat) (sheets0 : List (Int × Int)) (order1 : List Int) : Option R21 := run (E21 n) c21 an21 rt21 (fun _ _ => none) rt21 { tm := [.c (.sl (.pair (.int .i64) (.int .i64)) sheets0 false), .c (.sl (.int .i64) order1 false), uu, uu, uu, uu, uu, uu, uu, uu, uu, uu, uu, uu, uu, uu, uu, uu, uu, uu, uu, uu, uu], hp := emp }
theorem S21_eq (n : Nat × Nat) (sheets0 : List (Int × Int)) (order1 : List Int) : S21 n sheets0 order1 =
 (S58 n sheets0 order1).bind fun r1' =>
 (bif (r1'.2 != 0) then some (0, r1'.2)
 else (S61 n r1'.1).bind fun r2' =>
 (S64 n r1'.1 1).bind fun r3' =>
 (S63 n r3').bind fun r4' =>
 some (wr .i64 (r2' - r4'), 0)) := by kernel_rfl
theorem S21_run (n : Nat × Nat) (xs : pksDen pk21) : S21 n xs.1 xs.2.1 = runG (E21 n) noScope c21 an21 (rtG rk21) (fun _ _ => none) (rtG rk21) (st0 pk21 xs Try.f21.ntmps) := by kernel_rfl
noncomputable def P21 (n : Nat × Nat) := phiOf pk21 rk21 (fun xs => S21 n xs.1 xs.2.1)
theorem call21 : CallOK Try.prog 21 := callOK_of Try.func21 (by kernel_rfl) (by kernel_rfl)
theorem env21 (n : Nat × Nat) : EnvOK Try.prog (E21 n) := envOK0 (consPhi_ok (FC58 n) call58 (consPhi_ok (FC61 n) call61 (consPhi_ok (FC63 n) call63 (consPhi_ok (FC64 n) call64 noPhi_ok)))) rfl rfl
theorem par21 (n : Nat × Nat) : EnvPar (E21 n) := envPar0 (consPhi_par phiOf_Par1 (consPhi_par phiOf_Par1 (consPhi_par phiOf_Par1 (consPhi_par phiOf_Par1 noPhi_par)))) rfl
theorem FC21 (n : Nat × Nat) : FCs Try.prog 21 (P21 n) := phiOf_FCs fun xs r h vs hv => FC.of_runG tabOK eqsOK (env21 n) (par21 n) mixed (fun _ => noScope_ok) Try.func21 (c := c21) (an := an21) (pks := pk21) (rks := rk21) (by kernel_rfl) (by kernel_rfl) hv ((S21_run n xs).symm.trans h)
abbrev R23 := Int × Int
noncomputable def c23 : Code := bodyOf Try.f23
noncomputable def an23 : Ann := (.s .l (.s .l (.s (.s .l (.j [6] .l .l)) .l)))
def pk23 : List PK := [.c (.sl (.pair (.int .i64) (.int .i64))), .c (.sl (.int .i64))]
def rk23 : List RK := [.c (.int .i64) 4, .c (.int .i64) 5]
noncomputable def rt23 (st : St) : Option R23 := rtG rk23 st
noncomputable def E23 (n : Nat × Nat) : Env := { T := tab, phi := (consPhi 58 (fun _ => true) (P58 n) (consPhi 61 (fun _ => true) (P61 n) (consPhi 65 (fun _ => true) (P65 n) (consPhi 66 (fun _ => true) (P66 n) noPhi)))), eff := fun _ => false, fuel := n.1, hold := n.2 }
noncomputable def S23 (n : Nat × Nat) (sheets0 : List (Int × Int)) (order1 : List Int) : Option R23 := run (E23 n) c23 an23 rt23 (fun _ _ => none) rt23 { tm := [.c (.sl (.pair (.int .i64) (.int .i64)) sheets0 false), .c (.sl (.int .i64) order1 false), uu, uu, uu, uu, uu, uu, uu, uu, uu, uu, uu, uu, uu, uu, uu, uu, uu, uu, uu, uu], hp := emp }
theorem S23_eq (n : Nat × Nat) (sheets0 : List (Int × Int)) (order1 : List Int) : S23 n sheets0 order1 =
 (S58 n sheets0 order1).bind fun r1' =>
 (bif (r1'.2 != 0) then some (0, r1'.2)
 else (S66 n r1'.1).bind fun r2' =>
 (S61 n r1'.1).bind fun r3' =>
 (S65 n r2' r3').bind fun r4' =>
 some (r4', 0)) := by kernel_rfl
theorem S23_run (n : Nat × Nat) (xs : pksDen pk23) : S23 n xs.1 xs.2.1 = runG (E23 n) noScope c23 an23 (rtG rk23) (fun _ _ => none) (rtG rk23) (st0 pk23 xs Try.f23.ntmps) := by kernel_rfl
noncomputable def P23 (n : Nat × Nat) := phiOf pk23 rk23 (fun xs => S23 n xs.1 xs.2.1)
theorem call23 : CallOK Try.prog 23 := callOK_of Try.func23 (by kernel_rfl) (by kernel_rfl)
theorem env23 (n : Nat × Nat) : EnvOK Try.prog (E23 n) := envOK0 (consPhi_ok (FC58 n) call58 (consPhi_ok (FC61 n) call61 (consPhi_ok (FC65 n) call65 (consPhi_ok (FC66 n) call66 noPhi_ok)))) rfl rfl
theorem par23 (n : Nat × Nat) : EnvPar (E23 n) := envPar0 (consPhi_par phiOf_Par1 (consPhi_par phiOf_Par1 (consPhi_par phiOf_Par1 (consPhi_par phiOf_Par1 noPhi_par)))) rfl
theorem FC23 (n : Nat × Nat) : FCs Try.prog 23 (P23 n) := phiOf_FCs fun xs r h vs hv => FC.of_runG tabOK eqsOK (env23 n) (par23 n) mixed (fun _ => noScope_ok) Try.func23 (c := c23) (an := an23) (pks := pk23) (rks := rk23) (by kernel_rfl) (by kernel_rfl) hv ((S23_run n xs).symm.trans h)
abbrev R86 := Int
noncomputable def c86 : Code := bodyOf Try.f86
noncomputable def an86 : Ann := .l
def pk86 : List PK := [.c (.int .i64), .c (.int .i64), .p (.sl (.pair (.int .i64) (.int .i64)))]
def rk86 : List RK := [.c (.int .i64) 5]
noncomputable def rt86 (st : St) : Option R86 := rtG rk86 st
noncomputable def E86 (n : Nat × Nat) : Env := { T := tab, phi := noPhi, eff := fun _ => false, fuel := n.1, hold := n.2 }
noncomputable def S86 (n : Nat × Nat) (i0 : Int) (j1 : Int) (v2 : List (Int × Int)) : Option R86 := run (E86 n) c86 an86 rt86 (fun _ _ => none) rt86 { tm := [.c (.int .i64 i0), .c (.int .i64 j1), .iptr [.sl (.pair (.int .i64) (.int .i64)) v2 false], uu, uu, uu, uu, uu, uu, uu, uu, uu, uu, uu, uu, uu, uu], hp := emp }
theorem S86_eq (n : Nat × Nat) (i0 : Int) (j1 : Int) (v2 : List (Int × Int)) : S86 n i0 j1 v2 =
 (idx v2 i0).bind fun x1' =>
 (idx v2 j1).bind fun x2' =>
 some (wr .i64 (x1'.1 - x2'.1)) := by kernel_rfl
theorem S86_run (n : Nat × Nat) (xs : pksDen pk86) : S86 n xs.1 xs.2.1 xs.2.2.1 = runG (E86 n) noScope c86 an86 (rtG rk86) (fun _ _ => none) (rtG rk86) (st0 pk86 xs Try.f86.ntmps) := by kernel_rfl
noncomputable def P86 (n : Nat × Nat) := phiOf pk86 rk86 (fun xs => S86 n xs.1 xs.2.1 xs.2.2.1)
theorem call86 : CallOK Try.prog 86 := callOK_of Try.func86 (by kernel_rfl) (by kernel_rfl)
theorem env86 (n : Nat × Nat) : EnvOK Try.prog (E86 n) := envOK0 noPhi_ok rfl rfl
theorem par86 (n : Nat × Nat) : EnvPar (E86 n) := envPar0 noPhi_par rfl
theorem FC86 (n : Nat × Nat) : FCs Try.prog 86 (P86 n) := phiOf_FCs fun xs r h vs hv => FC.of_runG tabOK eqsOK (env86 n) (par86 n) mixed (fun _ => noScope_ok) Try.func86 (c := c86) (an := an86) (pks := pk86) (rks := rk86) (by kernel_rfl) (by kernel_rfl) hv ((S86_run n xs).symm.trans h)
/- slices.insertionSortCmpFunc[int] -/
abbrev R95c86io1001 := (Unit) × (List Int) × (List (Int × Int)) × Unit
noncomputable def c95c86io1001 : Code := bodyOf Try.f95
noncomputable def an95c86io1001 : Ann := (.s .l (.j [1000000000, 1000000001] (.j [0, 1, 2, 3, 8, 22, 23, 24, 25, 26, 27, 28, 29, 30, 31, 32, 33, 1000000000, 1000000001] (.s (.s .l (.j [0, 1, 2, 3, 8, 22, 23, 24, 25, 26, 27, 28, 29, 30, 31, 32, 33, 1000000000, 1000000001] .l .l)) (.s (.j [0, 1, 2, 3, 8, 22, 23, 24, 25, 26, 27, 28, 29, 30, 31, 32, 33, 1000000000, 1000000001] (.s .l (.j [0, 1, 2, 3, 8, 22, 23, 24, 25, 26, 27, 28, 29, 30, 31, 32, 33, 1000000000, 1000000001] (.j [0, 1, 2, 3, 8, 9, 22, 23, 24, 25, 26, 27, 28, 29, 30, 31, 32, 33, 1000000000, 1000000001] (.s (.s .l (.j [0, 1, 2, 3, 8, 9, 22, 23, 24, 25, 26, 27, 28, 29, 30, 31, 32, 33, 1000000000, 1000000001] .l .l)) (.s (.j [0, 1, 2, 3, 8, 9, 22, 23, 24, 25, 26, 27, 28, 29, 30, 31, 32, 33, 1000000000, 1000000001] .l .l) .l)) .l) .l)) .l) .l)) .l) .l))
def pk95c86io1001 : List QK := [.oa (.int .i64), .pl (.c (.int .i64)), .pl (.c (.int .i64)), .of 86 [(.sl (.pair (.int .i64) (.int .i64)))]]
def rk95c86io1001 : List RK := []
noncomputable def rt95c86io1001 (st : St) : Option R95c86io1001 := rtIO rk95c86io1001 (pk95c86io1001.flatMap QK.ods) st
noncomputable def E95c86io1001 (n : Nat × Nat) : Env := { T := tab, phi := (consPhi 86 (fun _ => true) (P86 n) noPhi), eff := fun _ => false, fuel := n.1, hold := n.2, pcl := [22] }
noncomputable def xb95c86io1001_2 (n : Nat × Nat) : Nat → St → Option R95c86io1001 := fun j s => bif Nat.beq j 0 then normC [1000000000, 1000000001] s rt95c86io1001 else (fun _ _ => none) j s
noncomputable def F95c86io1001_3 (n : Nat × Nat) : (St → Option R95c86io1001) → St → Option R95c86io1001 := fun K s => run (E95c86io1001 n) (cA (cA (cB c95c86io1001))) (Ann.fst (Ann.fst (Ann.snd an95c86io1001))) (fun s => normC [0, 1, 2, 3, 8, 22, 23, 24, 25, 26, 27, 28, 29, 30, 31, 32, 33, 1000000000, 1000000001] s K) (xb95c86io1001_2 n) rt95c86io1001 s
noncomputable def kq95c86io1001_6 (n : Nat × Nat) (m1 : Nat) : St → Option R95c86io1001 := run (E95c86io1001 n) (cB (cB (cA (cA (cB c95c86io1001))))) (Ann.snd (Ann.snd (Ann.fst (Ann.fst (Ann.snd an95c86io1001))))) (fun s => normC [0, 1, 2, 3, 8, 22, 23, 24, 25, 26, 27, 28, 29, 30, 31, 32, 33, 1000000000, 1000000001] s (loopN (F95c86io1001_3 n) m1)) (xb95c86io1001_2 n) rt95c86io1001
noncomputable def kc95c86io1001_7 (n : Nat × Nat) (m1 : Nat) : St → Option R95c86io1001 := fun s => normC [0, 1, 2, 3, 8, 22, 23, 24, 25, 26, 27, 28, 29, 30, 31, 32, 33, 1000000000, 1000000001] s (kq95c86io1001_6 n m1)
noncomputable def xb95c86io1001_8 (n : Nat × Nat) (m1 : Nat) : Nat → St → Option R95c86io1001 := fun j s => bif Nat.beq j 1 then normC [0, 1, 2, 3, 8, 22, 23, 24, 25, 26, 27, 28, 29, 30, 31, 32, 33, 1000000000, 1000000001] s (kq95c86io1001_6 n m1) else (xb95c86io1001_2 n) j s
noncomputable def xb95c86io1001_10 (n : Nat × Nat) (m1 : Nat) : Nat → St → Option R95c86io1001 := fun j s => bif Nat.beq j 2 then normC [0, 1, 2, 3, 8, 22, 23, 24, 25, 26, 27, 28, 29, 30, 31, 32, 33, 1000000000, 1000000001] s (kc95c86io1001_7 n m1) else (xb95c86io1001_8 n m1) j s
noncomputable def F95c86io1001_11 (n : Nat × Nat) (m1 : Nat) : (St → Option R95c86io1001) → St → Option R95c86io1001 := fun K s => run (E95c86io1001 n) (cA (cA (cB (cA (cA (cB (cA (cA (cB c95c86io1001))))))))) (Ann.fst (Ann.fst (Ann.snd (Ann.fst (Ann.fst (Ann.snd (Ann.fst (Ann.fst (Ann.snd an95c86io1001))))))))) (fun s => normC [0, 1, 2, 3, 8, 9, 22, 23, 24, 25, 26, 27, 28, 29, 30, 31, 32, 33, 1000000000, 1000000001] s K) (xb95c86io1001_10 n m1) rt95c86io1001 s
noncomputable def L95c86io1001_1 (n : Nat × Nat) (m : Nat) (a1 : Int) (b2 : Int) (i8 : Int) (u0 : List Int) (u1 : List (Int × Int)) : Option R95c86io1001 := loopN (F95c86io1001_3 n) m { tm := [.own 1000000000 none false, .c (.int .i64 a1), .c (.int .i64 b2), .fn 86 [.ptr 1000000001 0], uu, uu, uu, uu, .c (.int .i64 i8), uu, uu, uu, uu, uu, uu, uu, uu, uu, uu, uu, uu, uu, uu, uu, uu, uu, uu, uu, uu, uu, uu, uu, uu, uu, uu, uu, uu, uu, uu, uu, uu, uu, uu, uu, uu, uu, uu, uu, uu, uu, uu, uu, uu], hp := (upd (upd emp 1000000001 (.box [.sl (.pair (.int .i64) (.int .i64)) u1 false])) 1000000000 (.arr (.int .i64) u0 false)) }
noncomputable def L95c86io1001_2 (n : Nat × Nat) (m1 : Nat) (m : Nat) (a1 : Int) (b2 : Int) (i8 : Int) (j9 : Int) (u0 : List Int) (u1 : List (Int × Int)) : Option R95c86io1001 := loopN (F95c86io1001_11 n m1) m { tm := [.own 1000000000 none false, .c (.int .i64 a1), .c (.int .i64 b2), .fn 86 [.ptr 1000000001 0], uu, uu, uu, uu, .c (.int .i64 i8), .c (.int .i64 j9), uu, uu, uu, uu, uu, uu, uu, uu, uu, uu, uu, uu, uu, uu, uu, uu, uu, uu, uu, uu, uu, uu, uu, uu, uu, uu, uu, uu, uu, uu, uu, uu, uu, uu, uu, uu, uu, uu, uu, uu, uu, uu, uu], hp := (upd (upd emp 1000000001 (.box [.sl (.pair (.int .i64) (.int .i64)) u1 false])) 1000000000 (.arr (.int .i64) u0 false)) }
theorem L95c86io1001_1_eq (n : Nat × Nat) (m1 : Nat) (a1 : Int) (b2 : Int) (i8 : Int) (u0 : List Int) (u1 : List (Int × Int)) : L95c86io1001_1 n (m1 + 1) a1 b2 i8 u0 u1 =
 (bif decide (i8 < b2) then L95c86io1001_2 n m1 n.1 a1 b2 i8 i8 u0 u1
 else some ((), u0, u1, ())) := by kernel_rfl
theorem L95c86io1001_2_eq (n : Nat × Nat) (m1 m2 : Nat) (a1 : Int) (b2 : Int) (i8 : Int) (j9 : Int) (u0 : List Int) (u1 : List (Int × Int)) : L95c86io1001_2 n m1 (m2 + 1) a1 b2 i8 j9 u0 u1 =
 ((bif (decide (j9 > a1) == true) then (bif inB j9 u0.length then (idx u0 j9).bind fun x1' =>
 (bif inB (wr .i64 (j9 - 1)) u0.length then (idx u0 (wr .i64 (j9 - 1))).bind fun x2' =>
 (S86 n x1' x2' u1).bind fun r3' =>
 some (decide (r3' < 0))
 else none)
 else none)
 else some false)).bind fun b4' =>
 (bif b4' then (bif inB (wr .i64 (j9 - 1)) u0.length then (idx u0 (wr .i64 (j9 - 1))).bind fun x5' =>
 (bif inB j9 u0.length then (idx u0 j9).bind fun x6' =>
 (bif inB j9 u0.length then (idx u0 j9).bind fun x7' =>
 (bif inB (wr .i64 (j9 - 1)) (u0.set (Int.toNat j9) x5').length then (idx (u0.set (Int.toNat j9) x5') (wr .i64 (j9 - 1))).bind fun x8' =>
              L95c86io1001_2 n m1 m2 a1 b2 i8 (wr .i64 (j9 - 1)) ((u0.set (Int.toNat j9) x5').set (Int.toNat (wr .i64 (j9 - 1))) x6') u1
 else none)
 else none)
 else none)
 else none)
 else L95c86io1001_1 n m1 a1 b2 (wr .i64 (i8 + 1)) u0 u1) := by kernel_rfl
noncomputable def S95c86io1001 (n : Nat × Nat) (data0 : List Int) (a1 : Int) (b2 : Int) (cp_3_0 : List (Int × Int)) : Option R95c86io1001 := run (E95c86io1001 n) c95c86io1001 an95c86io1001 rt95c86io1001 (fun _ _ => none) rt95c86io1001 { tm := [.own 1000000000 none false, .c (.int .i64 a1), .c (.int .i64 b2), .fn 86 [.ptr 1000000001 0], uu, uu, uu, uu, uu, uu, uu, uu, uu, uu, uu, uu, uu, uu, uu, uu, uu, uu, uu, uu, uu, uu, uu, uu, uu, uu, uu, uu, uu, uu, uu, uu, uu, uu, uu, uu, uu, uu, uu, uu, uu, uu, uu, uu, uu, uu, uu, uu, uu], hp := (upd (upd emp 1000000001 (.box [.sl (.pair (.int .i64) (.int .i64)) cp_3_0 false])) 1000000000 (.arr (.int .i64) data0 false)) }
theorem S95c86io1001_eq (n : Nat × Nat) (data0 : List Int) (a1 : Int) (b2 : Int) (cp_3_0 : List (Int × Int)) : S95c86io1001 n data0 a1 b2 cp_3_0 =
    L95c86io1001_1 n n.1 a1 b2 (wr .i64 (a1 + 1)) data0 cp_3_0 := by kernel_rfl
theorem S95c86io1001_run (n : Nat × Nat) (xs : qksDen pk95c86io1001) : S95c86io1001 n xs.1 xs.2.1 xs.2.2.1 xs.2.2.2.1.1 = runG (E95c86io1001 n) noScope c95c86io1001 an95c86io1001 (rtIO rk95c86io1001 (pk95c86io1001.flatMap QK.ods)) (fun _ _ => none) (rtIO rk95c86io1001 (pk95c86io1001.flatMap QK.ods)) (st1 pk95c86io1001 xs Try.f95.ntmps) := by kernel_rfl
noncomputable def P95c86io1001 (n : Nat × Nat) := phioOf pk95c86io1001 rk95c86io1001 (pk95c86io1001.flatMap QK.ods) (fun xs => S95c86io1001 n xs.1 xs.2.1 xs.2.2.1 xs.2.2.2.1.1)
theorem call95 : CallOK Try.prog 95 := callOK_of Try.func95 (by kernel_rfl) (by kernel_rfl)
theorem env95c86io1001 (n : Nat × Nat) : EnvOK Try.prog (E95c86io1001 n) := envOK0 (consPhi_ok (FC86 n) call86 noPhi_ok) rfl rfl
theorem par95c86io1001 (n : Nat × Nat) : EnvPar (E95c86io1001 n) := envPar0 (consPhi_par phiOf_Par1 noPhi_par) rfl
theorem FC95c86io1001 (n : Nat × Nat) : FCios Try.prog 95 (pk95c86io1001.map QK.flag) (P95c86io1001 n) := phioOf_FCios fun xs r h vs hv => FCio.of_runG tabOK eqsOK (env95c86io1001 n) (par95c86io1001 n) mixed (fun _ => noScope_ok) Try.func95 (c := c95c86io1001) (an := an95c86io1001) (qks := pk95c86io1001) (rks := rk95c86io1001) (by kernel_rfl) (by kernel_rfl) hv ((S95c86io1001_run n xs).symm.trans h)
abbrev R96c86io10001 := (Unit) × (List Int) × (List (Int × Int)) × Unit
def pk96c86io10001 : List QK := [.oa (.int .i64), .pl (.c (.int .i64)), .pl (.c (.int .i64)), .pl (.c (.int .i64)), .of 86 [(.sl (.pair (.int .i64) (.int .i64)))]]
def rk96c86io10001 : List RK := []
noncomputable def S96c86io10001 (n : Nat × Nat) (data0 : List Int) (a1 : Int) (m2 : Int) (b3 : Int) (cp_4_0 : List (Int × Int)) : Option R96c86io10001 := none
noncomputable def P96c86io10001 (n : Nat × Nat) := phioOf pk96c86io10001 rk96c86io10001 (pk96c86io10001.flatMap QK.ods) (fun xs => S96c86io10001 n xs.1 xs.2.1 xs.2.2.1 xs.2.2.2.1 xs.2.2.2.2.1.1)
theorem call96 : CallOK Try.prog 96 := callOK_of Try.func96 (by kernel_rfl) (by kernel_rfl)
theorem FC96c86io10001 (n : Nat × Nat) : FCios Try.prog 96 (pk96c86io10001.map QK.flag) (P96c86io10001 n) := phioOf_FCios fun xs r h => by cases h
theorem parP96c86io10001 (n : Nat × Nat) : Pario1 (P96c86io10001 n) := by unfold P96c86io10001; exact phioOf_Pario1
/- slices.stableCmpFunc[int] -/
abbrev R94c86io101 := (Unit) × (List Int) × (List (Int × Int)) × Unit
noncomputable def c94c86io101 : Code := bodyOf Try.f94
noncomputable def an94c86io101 : Ann := (.s .l (.s .l (.s (.j [0, 1, 2, 6, 7, 1000000000, 1000000001] (.j [0, 1, 2, 6, 7, 8, 1000000000, 1000000001] (.s (.s .l (.j [0, 1, 2, 6, 7, 8, 1000000000, 1000000001] .l .l)) (.j [0, 1, 2, 6, 7, 8, 1000000000, 1000000001] .l .l)) .l) .l) (.s .l (.j [1000000000, 1000000001] (.j [0, 1, 2, 6, 1000000000, 1000000001] (.s (.s .l (.j [0, 1, 2, 6, 1000000000, 1000000001] .l .l)) (.j [0, 1, 2, 6, 1000000000, 1000000001] (.s .l (.s (.j [0, 1, 2, 6, 7, 1000000000, 1000000001] (.j [0, 1, 2, 6, 7, 8, 1000000000, 1000000001] (.s (.s .l (.j [0, 1, 2, 6, 7, 8, 1000000000, 1000000001] .l .l)) (.j [0, 1, 2, 6, 7, 8, 1000000000, 1000000001] .l .l)) .l) .l) (.s (.s .l (.s .l (.j [0, 1, 2, 6, 1000000000, 1000000001] .l .l))) .l))) .l)) .l) .l)))))
def pk94c86io101 : List QK := [.oa (.int .i64), .pl (.c (.int .i64)), .of 86 [(.sl (.pair (.int .i64) (.int .i64)))]]
def rk94c86io101 : List RK := []
noncomputable def rt94c86io101 (st : St) : Option R94c86io101 := rtIO rk94c86io101 (pk94c86io101.flatMap QK.ods) st
noncomputable def io94c86io101 (n : Nat × Nat) : List IoE := [⟨95, (isFns [none, none, none, some 86]), pk95c86io1001.map QK.flag, P95c86io1001 n⟩, ⟨96, (isFns [none, none, none, none, some 86]), pk96c86io10001.map QK.flag, P96c86io10001 n⟩]
noncomputable def E94c86io101 (n : Nat × Nat) : Env := { T := tab, phi := noPhi, eff := fun _ => false, fuel := n.1, hold := n.2, phio := phioL (io94c86io101 n), iop := iopL (io94c86io101 n) }
noncomputable def kq94c86io101_1 (n : Nat × Nat) : St → Option R94c86io101 := run (E94c86io101 n) (cB (cB (cB c94c86io101))) (Ann.snd (Ann.snd (Ann.snd an94c86io101))) rt94c86io101 (fun _ _ => none) rt94c86io101
noncomputable def xb94c86io101_3 (n : Nat × Nat) : Nat → St → Option R94c86io101 := fun j s => bif Nat.beq j 0 then normC [0, 1, 2, 6, 7, 1000000000, 1000000001] s (kq94c86io101_1 n) else (fun _ _ => none) j s
noncomputable def F94c86io101_4 (n : Nat × Nat) : (St → Option R94c86io101) → St → Option R94c86io101 := fun K s => run (E94c86io101 n) (cA (cA (cA (cB (cB c94c86io101))))) (Ann.fst (Ann.fst (Ann.fst (Ann.snd (Ann.snd an94c86io101))))) (fun s => normC [0, 1, 2, 6, 7, 8, 1000000000, 1000000001] s K) (xb94c86io101_3 n) rt94c86io101 s
noncomputable def xb94c86io101_10 (n : Nat × Nat) : Nat → St → Option R94c86io101 := fun j s => bif Nat.beq j 2 then normC [1000000000, 1000000001] s rt94c86io101 else (fun _ _ => none) j s
noncomputable def F94c86io101_11 (n : Nat × Nat) : (St → Option R94c86io101) → St → Option R94c86io101 := fun K s => run (E94c86io101 n) (cA (cA (cB (cB (cB (cB c94c86io101)))))) (Ann.fst (Ann.fst (Ann.snd (Ann.snd (Ann.snd (Ann.snd an94c86io101)))))) (fun s => normC [0, 1, 2, 6, 1000000000, 1000000001] s K) (xb94c86io101_10 n) rt94c86io101 s
noncomputable def kc94c86io101_14 (n : Nat × Nat) (m1 : Nat) : St → Option R94c86io101 := fun s => normC [0, 1, 2, 6, 1000000000, 1000000001] s (fun s => normC [0, 1, 2, 6, 1000000000, 1000000001] s (loopN (F94c86io101_11 n) m1))
noncomputable def xb94c86io101_15 (n : Nat × Nat) (m1 : Nat) : Nat → St → Option R94c86io101 := fun j s => bif Nat.beq j 3 then normC [0, 1, 2, 6, 1000000000, 1000000001] s (fun s => normC [0, 1, 2, 6, 1000000000, 1000000001] s (loopN (F94c86io101_11 n) m1)) else (xb94c86io101_10 n) j s
noncomputable def kq94c86io101_16 (n : Nat × Nat) (m1 : Nat) : St → Option R94c86io101 := run (E94c86io101 n) (cB (cB (cA (cB (cA (cA (cB (cB (cB (cB c94c86io101)))))))))) (Ann.snd (Ann.snd (Ann.fst (Ann.snd (Ann.fst (Ann.fst (Ann.snd (Ann.snd (Ann.snd (Ann.snd an94c86io101)))))))))) (kc94c86io101_14 n m1) (xb94c86io101_15 n m1) rt94c86io101
noncomputable def xb94c86io101_18 (n : Nat × Nat) (m1 : Nat) : Nat → St → Option R94c86io101 := fun j s => bif Nat.beq j 4 then normC [0, 1, 2, 6, 7, 1000000000, 1000000001] s (kq94c86io101_16 n m1) else (xb94c86io101_15 n m1) j s
noncomputable def F94c86io101_19 (n : Nat × Nat) (m1 : Nat) : (St → Option R94c86io101) → St → Option R94c86io101 := fun K s => run (E94c86io101 n) (cA (cA (cA (cB (cA (cB (cA (cA (cB (cB (cB (cB c94c86io101)))))))))))) (Ann.fst (Ann.fst (Ann.fst (Ann.snd (Ann.fst (Ann.snd (Ann.fst (Ann.fst (Ann.snd (Ann.snd (Ann.snd (Ann.snd an94c86io101)))))))))))) (fun s => normC [0, 1, 2, 6, 7, 8, 1000000000, 1000000001] s K) (xb94c86io101_18 n m1) rt94c86io101 s
noncomputable def L94c86io101_1 (n : Nat × Nat) (m : Nat) (v1 : Int) (blockSize6 : Int) (a7 : Int) (b8 : Int) (u0 : List Int) (u1 : List (Int × Int)) : Option R94c86io101 := loopN (F94c86io101_4 n) m { tm := [.own 1000000000 none false, .c (.int .i64 v1), .fn 86 [.ptr 1000000001 0], uu, uu, uu, .c (.int .i64 blockSize6), .c (.int .i64 a7), .c (.int .i64 b8), uu, uu, uu, uu, uu, uu, uu, uu, uu, uu, uu, uu, uu, uu, uu, uu, uu, uu, uu, uu, uu, uu, uu, uu, uu, uu, uu, uu, uu, uu, uu, uu, uu, uu, uu, uu, uu, uu, uu, uu, uu, uu, uu, uu, uu, uu, uu, uu, uu, uu, uu, uu, uu, uu], hp := (upd (upd emp 1000000001 (.box [.sl (.pair (.int .i64) (.int .i64)) u1 false])) 1000000000 (.arr (.int .i64) u0 false)) }
noncomputable def L94c86io101_2 (n : Nat × Nat) (m : Nat) (v1 : Int) (blockSize6 : Int) (u0 : List Int) (u1 : List (Int × Int)) : Option R94c86io101 := loopN (F94c86io101_11 n) m { tm := [.own 1000000000 none false, .c (.int .i64 v1), .fn 86 [.ptr 1000000001 0], uu, uu, uu, .c (.int .i64 blockSize6), uu, uu, uu, uu, uu, uu, uu, uu, uu, uu, uu, uu, uu, uu, uu, uu, uu, uu, uu, uu, uu, uu, uu, uu, uu, uu, uu, uu, uu, uu, uu, uu, uu, uu, uu, uu, uu, uu, uu, uu, uu, uu, uu, uu, uu, uu, uu, uu, uu, uu, uu, uu, uu, uu, uu, uu], hp := (upd (upd emp 1000000001 (.box [.sl (.pair (.int .i64) (.int .i64)) u1 false])) 1000000000 (.arr (.int .i64) u0 false)) }
noncomputable def L94c86io101_3 (n : Nat × Nat) (m1 : Nat) (m : Nat) (v1 : Int) (blockSize6 : Int) (a7 : Int) (b8 : Int) (u0 : List Int) (u1 : List (Int × Int)) : Option R94c86io101 := loopN (F94c86io101_19 n m1) m { tm := [.own 1000000000 none false, .c (.int .i64 v1), .fn 86 [.ptr 1000000001 0], uu, uu, uu, .c (.int .i64 blockSize6), .c (.int .i64 a7), .c (.int .i64 b8), uu, uu, uu, uu, uu, uu, uu, uu, uu, uu, uu, uu, uu, uu, uu, uu, uu, uu, uu, uu, uu, uu, uu, uu, uu, uu, uu, uu, uu, uu, uu, uu, uu, uu, uu, uu, uu, uu, uu, uu, uu, uu, uu, uu, uu, uu, uu, uu, uu, uu, uu, uu, uu, uu], hp := (upd (upd emp 1000000001 (.box [.sl (.pair (.int .i64) (.int .i64)) u1 false])) 1000000000 (.arr (.int .i64) u0 false)) }
theorem L94c86io101_1_eq (n : Nat × Nat) (m1 : Nat) (v1 : Int) (blockSize6 : Int) (a7 : Int) (b8 : Int) (u0 : List Int) (u1 : List (Int × Int)) : L94c86io101_1 n (m1 + 1) v1 blockSize6 a7 b8 u0 u1 =
 (bif decide (b8 ≤ v1) then (S95c86io1001 n u0 a7 b8 u1).bind fun r1' =>
 (bif Nat.beq r1'.2.1.length u0.length then L94c86io101_1 n m1 v1 blockSize6 b8 (wr .i64 (b8 + blockSize6)) r1'.2.1 r1'.2.2.1
 else none)
 else (S95c86io1001 n u0 a7 v1 u1).bind fun r2' =>
 (bif Nat.beq r2'.2.1.length u0.length then L94c86io101_2 n n.1 v1 blockSize6 r2'.2.1 r2'.2.2.1
 else none)) := by kernel_rfl
theorem L94c86io101_2_eq (n : Nat × Nat) (m1 : Nat) (v1 : Int) (blockSize6 : Int) (u0 : List Int) (u1 : List (Int × Int)) : L94c86io101_2 n (m1 + 1) v1 blockSize6 u0 u1 =
 (bif decide (blockSize6 < v1) then L94c86io101_3 n m1 n.1 v1 blockSize6 0 (wr .i64 (2 * blockSize6)) u0 u1
 else some ((), u0, u1, ())) := by kernel_rfl
theorem L94c86io101_3_eq (n : Nat × Nat) (m1 m2 : Nat) (v1 : Int) (blockSize6 : Int) (a7 : Int) (b8 : Int) (u0 : List Int) (u1 : List (Int × Int)) : L94c86io101_3 n m1 (m2 + 1) v1 blockSize6 a7 b8 u0 u1 =
 (bif decide (b8 ≤ v1) then (S96c86io10001 n u0 a7 (wr .i64 (a7 + blockSize6)) b8 u1).bind fun r3' =>
 (bif Nat.beq r3'.2.1.length u0.length then L94c86io101_3 n m1 m2 v1 blockSize6 b8 (wr .i64 (b8 + (wr .i64 (2 * blockSize6)))) r3'.2.1 r3'.2.2.1
 else none)
 else (bif decide (wr .i64 (a7 + blockSize6) < v1) then (S96c86io10001 n u0 a7 (wr .i64 (a7 + blockSize6)) v1 u1).bind fun r4' =>
 (bif Nat.beq r4'.2.1.length u0.length then L94c86io101_2 n m1 v1 (wr .i64 (blockSize6 * 2)) r4'.2.1 r4'.2.2.1
 else none)
 else L94c86io101_2 n m1 v1 (wr .i64 (blockSize6 * 2)) u0 u1)) := by kernel_rfl
noncomputable def S94c86io101 (n : Nat × Nat) (data0 : List Int) (v1 : Int) (cp_2_0 : List (Int × Int)) : Option R94c86io101 := run (E94c86io101 n) c94c86io101 an94c86io101 rt94c86io101 (fun _ _ => none) rt94c86io101 { tm := [.own 1000000000 none false, .c (.int .i64 v1), .fn 86 [.ptr 1000000001 0], uu, uu, uu, uu, uu, uu, uu, uu, uu, uu, uu, uu, uu, uu, uu, uu, uu, uu, uu, uu, uu, uu, uu, uu, uu, uu, uu, uu, uu, uu, uu, uu, uu, uu, uu, uu, uu, uu, uu, uu, uu, uu, uu, uu, uu, uu, uu, uu, uu, uu, uu, uu, uu, uu, uu, uu, uu, uu, uu, uu], hp := (upd (upd emp 1000000001 (.box [.sl (.pair (.int .i64) (.int .i64)) cp_2_0 false])) 1000000000 (.arr (.int .i64) data0 false)) }
theorem S94c86io101_eq (n : Nat × Nat) (data0 : List Int) (v1 : Int) (cp_2_0 : List (Int × Int)) : S94c86io101 n data0 v1 cp_2_0 =
    L94c86io101_1 n n.1 v1 20 0 20 data0 cp_2_0 := by kernel_rfl
theorem S94c86io101_run (n : Nat × Nat) (xs : qksDen pk94c86io101) : S94c86io101 n xs.1 xs.2.1 xs.2.2.1.1 = runG (E94c86io101 n) noScope c94c86io101 an94c86io101 (rtIO rk94c86io101 (pk94c86io101.flatMap QK.ods)) (fun _ _ => none) (rtIO rk94c86io101 (pk94c86io101.flatMap QK.ods)) (st1 pk94c86io101 xs Try.f94.ntmps) := by kernel_rfl
noncomputable def P94c86io101 (n : Nat × Nat) := phioOf pk94c86io101 rk94c86io101 (pk94c86io101.flatMap QK.ods) (fun xs => S94c86io101 n xs.1 xs.2.1 xs.2.2.1.1)
theorem call94 : CallOK Try.prog 94 := callOK_of Try.func94 (by kernel_rfl) (by kernel_rfl)
theorem env94c86io101 (n : Nat × Nat) : EnvOK Try.prog (E94c86io101 n) := envOK (l := io94c86io101 n) noPhi_ok rfl rfl (by kernel_rfl) ⟨FC95c86io1001 n, call95, FC96c86io10001 n, call96, trivial⟩
theorem par94c86io101 (n : Nat × Nat) : EnvPar (E94c86io101 n) := envPar (l := io94c86io101 n) noPhi_par rfl ⟨phioOf_Pario1, parP96c86io10001 n, trivial⟩
theorem FC94c86io101 (n : Nat × Nat) : FCios Try.prog 94 (pk94c86io101.map QK.flag) (P94c86io101 n) := phioOf_FCios fun xs r h vs hv => FCio.of_runG tabOK eqsOK (env94c86io101 n) (par94c86io101 n) mixed (fun _ => noScope_ok) Try.func94 (c := c94c86io101) (an := an94c86io101) (qks := pk94c86io101) (rks := rk94c86io101) (by kernel_rfl) (by kernel_rfl) hv ((S94c86io101_run n xs).symm.trans h)
/- slices.SortStableFunc[[]int,int] -/
abbrev R85c86io11 := (Unit) × (List Int) × (List (Int × Int)) × Unit
noncomputable def c85c86io11 : Code := bodyOf Try.f85
noncomputable def an85c86io11 : Ann := .l
def pk85c86io11 : List QK := [.oa (.int .i64), .of 86 [(.sl (.pair (.int .i64) (.int .i64)))]]
def rk85c86io11 : List RK := []
noncomputable def rt85c86io11 (st : St) : Option R85c86io11 := rtIO rk85c86io11 (pk85c86io11.flatMap QK.ods) st
noncomputable def io85c86io11 (n : Nat × Nat) : List IoE := [⟨94, (isFns [none, none, some 86]), pk94c86io101.map QK.flag, P94c86io101 n⟩]
noncomputable def E85c86io11 (n : Nat × Nat) : Env := { T := tab, phi := noPhi, eff := fun _ => false, fuel := n.1, hold := n.2, phio := phioL (io85c86io11 n), iop := iopL (io85c86io11 n) }
noncomputable def S85c86io11 (n : Nat × Nat) (x0 : List Int) (cp_1_0 : List (Int × Int)) : Option R85c86io11 := run (E85c86io11 n) c85c86io11 an85c86io11 rt85c86io11 (fun _ _ => none) rt85c86io11 { tm := [.own 1000000000 none false, .fn 86 [.ptr 1000000001 0], uu, uu, uu, uu, uu, uu, uu], hp := (upd (upd emp 1000000001 (.box [.sl (.pair (.int .i64) (.int .i64)) cp_1_0 false])) 1000000000 (.arr (.int .i64) x0 false)) }
theorem S85c86io11_eq (n : Nat × Nat) (x0 : List Int) (cp_1_0 : List (Int × Int)) : S85c86io11 n x0 cp_1_0 =
 (S94c86io101 n x0 (x0.length : Int) cp_1_0).bind fun r1' =>
 (bif Nat.beq r1'.2.1.length x0.length then some ((), r1'.2.1, r1'.2.2.1, ())
 else none) := by kernel_rfl
theorem S85c86io11_run (n : Nat × Nat) (xs : qksDen pk85c86io11) : S85c86io11 n xs.1 xs.2.1.1 = runG (E85c86io11 n) noScope c85c86io11 an85c86io11 (rtIO rk85c86io11 (pk85c86io11.flatMap QK.ods)) (fun _ _ => none) (rtIO rk85c86io11 (pk85c86io11.flatMap QK.ods)) (st1 pk85c86io11 xs Try.f85.ntmps) := by kernel_rfl
noncomputable def P85c86io11 (n : Nat × Nat) := phioOf pk85c86io11 rk85c86io11 (pk85c86io11.flatMap QK.ods) (fun xs => S85c86io11 n xs.1 xs.2.1.1)
theorem call85 : CallOK Try.prog 85 := callOK_of Try.func85 (by kernel_rfl) (by kernel_rfl)
theorem env85c86io11 (n : Nat × Nat) : EnvOK Try.prog (E85c86io11 n) := envOK (l := io85c86io11 n) noPhi_ok rfl rfl (by kernel_rfl) ⟨FC94c86io101 n, call94, trivial⟩
theorem par85c86io11 (n : Nat × Nat) : EnvPar (E85c86io11 n) := envPar (l := io85c86io11 n) noPhi_par rfl ⟨phioOf_Pario1, trivial⟩
theorem FC85c86io11 (n : Nat × Nat) : FCios Try.prog 85 (pk85c86io11.map QK.flag) (P85c86io11 n) := phioOf_FCios fun xs r h vs hv => FCio.of_runG tabOK eqsOK (env85c86io11 n) (par85c86io11 n) mixed (fun _ => noScope_ok) Try.func85 (c := c85c86io11) (an := an85c86io11) (qks := pk85c86io11) (rks := rk85c86io11) (by kernel_rfl) (by kernel_rfl) hv ((S85c86io11_run n xs).symm.trans h)
abbrev R87 := Int
noncomputable def c87 : Code := bodyOf Try.f87
noncomputable def an87 : Ann := .l
def pk87 : List PK := [.c (.int .i64), .c (.int .i64), .p (.sl (.pair (.int .i64) (.int .i64)))]
def rk87 : List RK := [.c (.int .i64) 5]
noncomputable def rt87 (st : St) : Option R87 := rtG rk87 st
noncomputable def E87 (n : Nat × Nat) : Env := { T := tab, phi := noPhi, eff := fun _ => false, fuel := n.1, hold := n.2 }
noncomputable def S87 (n : Nat × Nat) (i0 : Int) (j1 : Int) (v2 : List (Int × Int)) : Option R87 := run (E87 n) c87 an87 rt87 (fun _ _ => none) rt87 { tm := [.c (.int .i64 i0), .c (.int .i64 j1), .iptr [.sl (.pair (.int .i64) (.int .i64)) v2 false], uu, uu, uu, uu, uu, uu, uu, uu, uu, uu, uu, uu, uu, uu], hp := emp }
theorem S87_eq (n : Nat × Nat) (i0 : Int) (j1 : Int) (v2 : List (Int × Int)) : S87 n i0 j1 v2 =
 (idx v2 j1).bind fun x1' =>
 (idx v2 i0).bind fun x2' =>
 some (wr .i64 (x1'.2 - x2'.2)) := by kernel_rfl
theorem S87_run (n : Nat × Nat) (xs : pksDen pk87) : S87 n xs.1 xs.2.1 xs.2.2.1 = runG (E87 n) noScope c87 an87 (rtG rk87) (fun _ _ => none) (rtG rk87) (st0 pk87 xs Try.f87.ntmps) := by kernel_rfl
noncomputable def P87 (n : Nat × Nat) := phiOf pk87 rk87 (fun xs => S87 n xs.1 xs.2.1 xs.2.2.1)
theorem call87 : CallOK Try.prog 87 := callOK_of Try.func87 (by kernel_rfl) (by kernel_rfl)
theorem env87 (n : Nat × Nat) : EnvOK Try.prog (E87 n) := envOK0 noPhi_ok rfl rfl
theorem par87 (n : Nat × Nat) : EnvPar (E87 n) := envPar0 noPhi_par rfl
theorem FC87 (n : Nat × Nat) : FCs Try.prog 87 (P87 n) := phiOf_FCs fun xs r h vs hv => FC.of_runG tabOK eqsOK (env87 n) (par87 n) mixed (fun _ => noScope_ok) Try.func87 (c := c87) (an := an87) (pks := pk87) (rks := rk87) (by kernel_rfl) (by kernel_rfl) hv ((S87_run n xs).symm.trans h)
/- slices.insertionSortCmpFunc[int] -/
abbrev R95c87io1001 := (Unit) × (List Int) × (List (Int × Int)) × Unit
noncomputable def c95c87io1001 : Code := bodyOf Try.f95
noncomputable def an95c87io1001 : Ann := (.s .l (.j [1000000000, 1000000001] (.j [0, 1, 2, 3, 8, 22, 23, 24, 25, 26, 27, 28, 29, 30, 31, 32, 33, 1000000000, 1000000001] (.s (.s .l (.j [0, 1, 2, 3, 8, 22, 23, 24, 25, 26, 27, 28, 29, 30, 31, 32, 33, 1000000000, 1000000001] .l .l)) (.s (.j [0, 1, 2, 3, 8, 22, 23, 24, 25, 26, 27, 28, 29, 30, 31, 32, 33, 1000000000, 1000000001] (.s .l (.j [0, 1, 2, 3, 8, 22, 23, 24, 25, 26, 27, 28, 29, 30, 31, 32, 33, 1000000000, 1000000001] (.j [0, 1, 2, 3, 8, 9, 22, 23, 24, 25, 26, 27, 28, 29, 30, 31, 32, 33, 1000000000, 1000000001] (.s (.s .l (.j [0, 1, 2, 3, 8, 9, 22, 23, 24, 25, 26, 27, 28, 29, 30, 31, 32, 33, 1000000000, 1000000001] .l .l)) (.s (.j [0, 1, 2, 3, 8, 9, 22, 23, 24, 25, 26, 27, 28, 29, 30, 31, 32, 33, 1000000000, 1000000001] .l .l) .l)) .l) .l)) .l) .l)) .l) .l))
def pk95c87io1001 : List QK := [.oa (.int .i64), .pl (.c (.int .i64)), .pl (.c (.int .i64)), .of 87 [(.sl (.pair (.int .i64) (.int .i64)))]]
def rk95c87io1001 : List RK := []
noncomputable def rt95c87io1001 (st : St) : Option R95c87io1001 := rtIO rk95c87io1001 (pk95c87io1001.flatMap QK.ods) st
noncomputable def E95c87io1001 (n : Nat × Nat) : Env := { T := tab, phi := (consPhi 87 (fun _ => true) (P87 n) noPhi), eff := fun _ => false, fuel := n.1, hold := n.2, pcl := [22] }
noncomputable def xb95c87io1001_2 (n : Nat × Nat) : Nat → St → Option R95c87io1001 := fun j s => bif Nat.beq j 0 then normC [1000000000, 1000000001] s rt95c87io1001 else (fun _ _ => none) j s
noncomputable def F95c87io1001_3 (n : Nat × Nat) : (St → Option R95c87io1001) → St → Option R95c87io1001 := fun K s => run (E95c87io1001 n) (cA (cA (cB c95c87io1001))) (Ann.fst (Ann.fst (Ann.snd an95c87io1001))) (fun s => normC [0, 1, 2, 3, 8, 22, 23, 24, 25, 26, 27, 28, 29, 30, 31, 32, 33, 1000000000, 1000000001] s K) (xb95c87io1001_2 n) rt95c87io1001 s
noncomputable def kq95c87io1001_6 (n : Nat × Nat) (m1 : Nat) : St → Option R95c87io1001 := run (E95c87io1001 n) (cB (cB (cA (cA (cB c95c87io1001))))) (Ann.snd (Ann.snd (Ann.fst (Ann.fst (Ann.snd an95c87io1001))))) (fun s => normC [0, 1, 2, 3, 8, 22, 23, 24, 25, 26, 27, 28, 29, 30, 31, 32, 33, 1000000000, 1000000001] s (loopN (F95c87io1001_3 n) m1)) (xb95c87io1001_2 n) rt95c87io1001
noncomputable def kc95c87io1001_7 (n : Nat × Nat) (m1 : Nat) : St → Option R95c87io1001 := fun s => normC [0, 1, 2, 3, 8, 22, 23, 24, 25, 26, 27, 28, 29, 30, 31, 32, 33, 1000000000, 1000000001] s (kq95c87io1001_6 n m1)
noncomputable def xb95c87io1001_8 (n : Nat × Nat) (m1 : Nat) : Nat → St → Option R95c87io1001 := fun j s => bif Nat.beq j 1 then normC [0, 1, 2, 3, 8, 22, 23, 24, 25, 26, 27, 28, 29, 30, 31, 32, 33, 1000000000, 1000000001] s (kq95c87io1001_6 n m1) else (xb95c87io1001_2 n) j s
noncomputable def xb95c87io1001_10 (n : Nat × Nat) (m1 : Nat) : Nat → St → Option R95c87io1001 := fun j s => bif Nat.beq j 2 then normC [0, 1, 2, 3, 8, 22, 23, 24, 25, 26, 27, 28, 29, 30, 31, 32, 33, 1000000000, 1000000001] s (kc95c87io1001_7 n m1) else (xb95c87io1001_8 n m1) j s
noncomputable def F95c87io1001_11 (n : Nat × Nat) (m1 : Nat) : (St → Option R95c87io1001) → St → Option R95c87io1001 := fun K s => run (E95c87io1001 n) (cA (cA (cB (cA (cA (cB (cA (cA (cB c95c87io1001))))))))) (Ann.fst (Ann.fst (Ann.snd (Ann.fst (Ann.fst (Ann.snd (Ann.fst (Ann.fst (Ann.snd an95c87io1001))))))))) (fun s => normC [0, 1, 2, 3, 8, 9, 22, 23, 24, 25, 26, 27, 28, 29, 30, 31, 32, 33, 1000000000, 1000000001] s K) (xb95c87io1001_10 n m1) rt95c87io1001 s
noncomputable def L95c87io1001_1 (n : Nat × Nat) (m : Nat) (a1 : Int) (b2 : Int) (i8 : Int) (u0 : List Int) (u1 : List (Int × Int)) : Option R95c87io1001 := loopN (F95c87io1001_3 n) m { tm := [.own 1000000000 none false, .c (.int .i64 a1), .c (.int .i64 b2), .fn 87 [.ptr 1000000001 0], uu, uu, uu, uu, .c (.int .i64 i8), uu, uu, uu, uu, uu, uu, uu, uu, uu, uu, uu, uu, uu, uu, uu, uu, uu, uu, uu, uu, uu, uu, uu, uu, uu, uu, uu, uu, uu, uu, uu, uu, uu, uu, uu, uu, uu, uu, uu, uu, uu, uu, uu, uu], hp := (upd (upd emp 1000000001 (.box [.sl (.pair (.int .i64) (.int .i64)) u1 false])) 1000000000 (.arr (.int .i64) u0 false)) }
noncomputable def L95c87io1001_2 (n : Nat × Nat) (m1 : Nat) (m : Nat) (a1 : Int) (b2 : Int) (i8 : Int) (j9 : Int) (u0 : List Int) (u1 : List (Int × Int)) : Option R95c87io1001 := loopN (F95c87io1001_11 n m1) m { tm := [.own 1000000000 none false, .c (.int .i64 a1), .c (.int .i64 b2), .fn 87 [.ptr 1000000001 0], uu, uu, uu, uu, .c (.int .i64 i8), .c (.int .i64 j9), uu, uu, uu, uu, uu, uu, uu, uu, uu, uu, uu, uu, uu, uu, uu, uu, uu, uu, uu, uu, uu, uu, uu, uu, uu, uu, uu, uu, uu, uu, uu, uu, uu, uu, uu, uu, uu, uu, uu, uu, uu, uu, uu], hp := (upd (upd emp 1000000001 (.box [.sl (.pair (.int .i64) (.int .i64)) u1 false])) 1000000000 (.arr (.int .i64) u0 false)) }
theorem L95c87io1001_1_eq (n : Nat × Nat) (m1 : Nat) (a1 : Int) (b2 : Int) (i8 : Int) (u0 : List Int) (u1 : List (Int × Int)) : L95c87io1001_1 n (m1 + 1) a1 b2 i8 u0 u1 =
 (bif decide (i8 < b2) then L95c87io1001_2 n m1 n.1 a1 b2 i8 i8 u0 u1
 else some ((), u0, u1, ())) := by kernel_rfl
theorem L95c87io1001_2_eq (n : Nat × Nat) (m1 m2 : Nat) (a1 : Int) (b2 : Int) (i8 : Int) (j9 : Int) (u0 : List Int) (u1 : List (Int × Int)) : L95c87io1001_2 n m1 (m2 + 1) a1 b2 i8 j9 u0 u1 =
 ((bif (decide (j9 > a1) == true) then (bif inB j9 u0.length then (idx u0 j9).bind fun x1' =>
 (bif inB (wr .i64 (j9 - 1)) u0.length then (idx u0 (wr .i64 (j9 - 1))).bind fun x2' =>
 (S87 n x1' x2' u1).bind fun r3' =>
 some (decide (r3' < 0))
 else none)
 else none)
 else some false)).bind fun b4' =>
 (bif b4' then (bif inB (wr .i64 (j9 - 1)) u0.length then (idx u0 (wr .i64 (j9 - 1))).bind fun x5' =>
 (bif inB j9 u0.length then (idx u0 j9).bind fun x6' =>
 (bif inB j9 u0.length then (idx u0 j9).bind fun x7' =>
 (bif inB (wr .i64 (j9 - 1)) (u0.set (Int.toNat j9) x5').length then (idx (u0.set (Int.toNat j9) x5') (wr .i64 (j9 - 1))).bind fun x8' =>
              L95c87io1001_2 n m1 m2 a1 b2 i8 (wr .i64 (j9 - 1)) ((u0.set (Int.toNat j9) x5').set (Int.toNat (wr .i64 (j9 - 1))) x6') u1
 else none)
 else none)
 else none)
 else none)
 else L95c87io1001_1 n m1 a1 b2 (wr .i64 (i8 + 1)) u0 u1) := by kernel_rfl
noncomputable def S95c87io1001 (n : Nat × Nat) (data0 : List Int) (a1 : Int) (b2 : Int) (cp_3_0 : List (Int × Int)) : Option R95c87io1001 := run (E95c87io1001 n) c95c87io1001 an95c87io1001 rt95c87io1001 (fun _ _ => none) rt95c87io1001 { tm := [.own 1000000000 none false, .c (.int .i64 a1), .c (.int .i64 b2), .fn 87 [.ptr 1000000001 0], uu, uu, uu, uu, uu, uu, uu, uu, uu, uu, uu, uu, uu, uu, uu, uu, uu, uu, uu, uu, uu, uu, uu, uu, uu, uu, uu, uu, uu, uu, uu, uu, uu, uu, uu, uu, uu, uu, uu, uu, uu, uu, uu, uu, uu, uu, uu, uu, uu], hp := (upd (upd emp 1000000001 (.box [.sl (.pair (.int .i64) (.int .i64)) cp_3_0 false])) 1000000000 (.arr (.int .i64) data0 false)) }
theorem S95c87io1001_eq (n : Nat × Nat) (data0 : List Int) (a1 : Int) (b2 : Int) (cp_3_0 : List (Int × Int)) : S95c87io1001 n data0 a1 b2 cp_3_0 =
    L95c87io1001_1 n n.1 a1 b2 (wr .i64 (a1 + 1)) data0 cp_3_0 := by kernel_rfl
theorem S95c87io1001_run (n : Nat × Nat) (xs : qksDen pk95c87io1001) : S95c87io1001 n xs.1 xs.2.1 xs.2.2.1 xs.2.2.2.1.1 = runG (E95c87io1001 n) noScope c95c87io1001 an95c87io1001 (rtIO rk95c87io1001 (pk95c87io1001.flatMap QK.ods)) (fun _ _ => none) (rtIO rk95c87io1001 (pk95c87io1001.flatMap QK.ods)) (st1 pk95c87io1001 xs Try.f95.ntmps) := by kernel_rfl
noncomputable def P95c87io1001 (n : Nat × Nat) := phioOf pk95c87io1001 rk95c87io1001 (pk95c87io1001.flatMap QK.ods) (fun xs => S95c87io1001 n xs.1 xs.2.1 xs.2.2.1 xs.2.2.2.1.1)
theorem env95c87io1001 (n : Nat × Nat) : EnvOK Try.prog (E95c87io1001 n) := envOK0 (consPhi_ok (FC87 n) call87 noPhi_ok) rfl rfl
theorem par95c87io1001 (n : Nat × Nat) : EnvPar (E95c87io1001 n) := envPar0 (consPhi_par phiOf_Par1 noPhi_par) rfl
theorem FC95c87io1001 (n : Nat × Nat) : FCios Try.prog 95 (pk95c87io1001.map QK.flag) (P95c87io1001 n) := phioOf_FCios fun xs r h vs hv => FCio.of_runG tabOK eqsOK (env95c87io1001 n) (par95c87io1001 n) mixed (fun _ => noScope_ok) Try.func95 (c := c95c87io1001) (an := an95c87io1001) (qks := pk95c87io1001) (rks := rk95c87io1001) (by kernel_rfl) (by kernel_rfl) hv ((S95c87io1001_run n xs).symm.trans h)
abbrev R96c87io10001 := (Unit) × (List Int) × (List (Int × Int)) × Unit
def pk96c87io10001 : List QK := [.oa (.int .i64), .pl (.c (.int .i64)), .pl (.c (.int .i64)), .pl (.c (.int .i64)), .of 87 [(.sl (.pair (.int .i64) (.int .i64)))]]
def rk96c87io10001 : List RK := []
noncomputable def S96c87io10001 (n : Nat × Nat) (data0 : List Int) (a1 : Int) (m2 : Int) (b3 : Int) (cp_4_0 : List (Int × Int)) : Option R96c87io10001 := none
noncomputable def P96c87io10001 (n : Nat × Nat) := phioOf pk96c87io10001 rk96c87io10001 (pk96c87io10001.flatMap QK.ods) (fun xs => S96c87io10001 n xs.1 xs.2.1 xs.2.2.1 xs.2.2.2.1 xs.2.2.2.2.1.1)
theorem FC96c87io10001 (n : Nat × Nat) : FCios Try.prog 96 (pk96c87io10001.map QK.flag) (P96c87io10001 n) := phioOf_FCios fun xs r h => by cases h
theorem parP96c87io10001 (n : Nat × Nat) : Pario1 (P96c87io10001 n) := by unfold P96c87io10001; exact phioOf_Pario1
/- slices.stableCmpFunc[int] -/
abbrev R94c87io101 := (Unit) × (List Int) × (List (Int × Int)) × Unit
noncomputable def c94c87io101 : Code := bodyOf Try.f94
noncomputable def an94c87io101 : Ann := (.s .l (.s .l (.s (.j [0, 1, 2, 6, 7, 1000000000, 1000000001] (.j [0, 1, 2, 6, 7, 8, 1000000000, 1000000001] (.s (.s .l (.j [0, 1, 2, 6, 7, 8, 1000000000, 1000000001] .l .l)) (.j [0, 1, 2, 6, 7, 8, 1000000000, 1000000001] .l .l)) .l) .l) (.s .l (.j [1000000000, 1000000001] (.j [0, 1, 2, 6, 1000000000, 1000000001] (.s (.s .l (.j [0, 1, 2, 6, 1000000000, 1000000001] .l .l)) (.j [0, 1, 2, 6, 1000000000, 1000000001] (.s .l (.s (.j [0, 1, 2, 6, 7, 1000000000, 1000000001] (.j [0, 1, 2, 6, 7, 8, 1000000000, 1000000001] (.s (.s .l (.j [0, 1, 2, 6, 7, 8, 1000000000, 1000000001] .l .l)) (.j [0, 1, 2, 6, 7, 8, 1000000000, 1000000001] .l .l)) .l) .l) (.s (.s .l (.s .l (.j [0, 1, 2, 6, 1000000000, 1000000001] .l .l))) .l))) .l)) .l) .l)))))
def pk94c87io101 : List QK := [.oa (.int .i64), .pl (.c (.int .i64)), .of 87 [(.sl (.pair (.int .i64) (.int .i64)))]]
def rk94c87io101 : List RK := []
noncomputable def rt94c87io101 (st : St) : Option R94c87io101 := rtIO rk94c87io101 (pk94c87io101.flatMap QK.ods) st
noncomputable def io94c87io101 (n : Nat × Nat) : List IoE := [⟨95, (isFns [none, none, none, some 87]), pk95c87io1001.map QK.flag, P95c87io1001 n⟩, ⟨96, (isFns [none, none, none, none, some 87]), pk96c87io10001.map QK.flag, P96c87io10001 n⟩]
noncomputable def E94c87io101 (n : Nat × Nat) : Env := { T := tab, phi := noPhi, eff := fun _ => false, fuel := n.1, hold := n.2, phio := phioL (io94c87io101 n), iop := iopL (io94c87io101 n) }
noncomputable def kq94c87io101_1 (n : Nat × Nat) : St → Option R94c87io101 := run (E94c87io101 n) (cB (cB (cB c94c87io101))) (Ann.snd (Ann.snd (Ann.snd an94c87io101))) rt94c87io101 (fun _ _ => none) rt94c87io101
noncomputable def xb94c87io101_3 (n : Nat × Nat) : Nat → St → Option R94c87io101 := fun j s => bif Nat.beq j 0 then normC [0, 1, 2, 6, 7, 1000000000, 1000000001] s (kq94c87io101_1 n) else (fun _ _ => none) j s
noncomputable def F94c87io101_4 (n : Nat × Nat) : (St → Option R94c87io101) → St → Option R94c87io101 := fun K s => run (E94c87io101 n) (cA (cA (cA (cB (cB c94c87io101))))) (Ann.fst (Ann.fst (Ann.fst (Ann.snd (Ann.snd an94c87io101))))) (fun s => normC [0, 1, 2, 6, 7, 8, 1000000000, 1000000001] s K) (xb94c87io101_3 n) rt94c87io101 s
noncomputable def xb94c87io101_10 (n : Nat × Nat) : Nat → St → Option R94c87io101 := fun j s => bif Nat.beq j 2 then normC [1000000000, 1000000001] s rt94c87io101 else (fun _ _ => none) j s
noncomputable def F94c87io101_11 (n : Nat × Nat) : (St → Option R94c87io101) → St → Option R94c87io101 := fun K s => run (E94c87io101 n) (cA (cA (cB (cB (cB (cB c94c87io101)))))) (Ann.fst (Ann.fst (Ann.snd (Ann.snd (Ann.snd (Ann.snd an94c87io101)))))) (fun s => normC [0, 1, 2, 6, 1000000000, 1000000001] s K) (xb94c87io101_10 n) rt94c87io101 s
noncomputable def kc94c87io101_14 (n : Nat × Nat) (m1 : Nat) : St → Option R94c87io101 := fun s => normC [0, 1, 2, 6, 1000000000, 1000000001] s (fun s => normC [0, 1, 2, 6, 1000000000, 1000000001] s (loopN (F94c87io101_11 n) m1))
noncomputable def xb94c87io101_15 (n : Nat × Nat) (m1 : Nat) : Nat → St → Option R94c87io101 := fun j s => bif Nat.beq j 3 then normC [0, 1, 2, 6, 1000000000, 1000000001] s (fun s => normC [0, 1, 2, 6, 1000000000, 1000000001] s (loopN (F94c87io101_11 n) m1)) else (xb94c87io101_10 n) j s
noncomputable def kq94c87io101_16 (n : Nat × Nat) (m1 : Nat) : St → Option R94c87io101 := run (E94c87io101 n) (cB (cB (cA (cB (cA (cA (cB (cB (cB (cB c94c87io101)))))))))) (Ann.snd (Ann.snd (Ann.fst (Ann.snd (Ann.fst (Ann.fst (Ann.snd (Ann.snd (Ann.snd (Ann.snd an94c87io101)))))))))) (kc94c87io101_14 n m1) (xb94c87io101_15 n m1) rt94c87io101
noncomputable def xb94c87io101_18 (n : Nat × Nat) (m1 : Nat) : Nat → St → Option R94c87io101 := fun j s => bif Nat.beq j 4 then normC [0, 1, 2, 6, 7, 1000000000, 1000000001] s (kq94c87io101_16 n m1) else (xb94c87io101_15 n m1) j s
noncomputable def F94c87io101_19 (n : Nat × Nat) (m1 : Nat) : (St → Option R94c87io101) → St → Option R94c87io101 := fun K s => run (E94c87io101 n) (cA (cA (cA (cB (cA (cB (cA (cA (cB (cB (cB (cB c94c87io101)))))))))))) (Ann.fst (Ann.fst (Ann.fst (Ann.snd (Ann.fst (Ann.snd (Ann.fst (Ann.fst (Ann.snd (Ann.snd (Ann.snd (Ann.snd an94c87io101)))))))))))) (fun s => normC [0, 1, 2, 6, 7, 8, 1000000000, 1000000001] s K) (xb94c87io101_18 n m1) rt94c87io101 s
noncomputable def L94c87io101_1 (n : Nat × Nat) (m : Nat) (v1 : Int) (blockSize6 : Int) (a7 : Int) (b8 : Int) (u0 : List Int) (u1 : List (Int × Int)) : Option R94c87io101 := loopN (F94c87io101_4 n) m { tm := [.own 1000000000 none false, .c (.int .i64 v1), .fn 87 [.ptr 1000000001 0], uu, uu, uu, .c (.int .i64 blockSize6), .c (.int .i64 a7), .c (.int .i64 b8), uu, uu, uu, uu, uu, uu, uu, uu, uu, uu, uu, uu, uu, uu, uu, uu, uu, uu, uu, uu, uu, uu, uu, uu, uu, uu, uu, uu, uu, uu, uu, uu, uu, uu, uu, uu, uu, uu, uu, uu, uu, uu, uu, uu, uu, uu, uu, uu, uu, uu, uu, uu, uu, uu], hp := (upd (upd emp 1000000001 (.box [.sl (.pair (.int .i64) (.int .i64)) u1 false])) 1000000000 (.arr (.int .i64) u0 false)) }
noncomputable def L94c87io101_2 (n : Nat × Nat) (m : Nat) (v1 : Int) (blockSize6 : Int) (u0 : List Int) (u1 : List (Int × Int)) : Option R94c87io101 := loopN (F94c87io101_11 n) m { tm := [.own 1000000000 none false, .c (.int .i64 v1), .fn 87 [.ptr 1000000001 0], uu, uu, uu, .c (.int .i64 blockSize6), uu, uu, uu, uu, uu, uu, uu, uu, uu, uu, uu, uu, uu, uu, uu, uu, uu, uu, uu, uu, uu, uu, uu, uu, uu, uu, uu, uu, uu, uu, uu, uu, uu, uu, uu, uu, uu, uu, uu, uu, uu, uu, uu, uu, uu, uu, uu, uu, uu, uu, uu, uu, uu, uu, uu, uu], hp := (upd (upd emp 1000000001 (.box [.sl (.pair (.int .i64) (.int .i64)) u1 false])) 1000000000 (.arr (.int .i64) u0 false)) }
noncomputable def L94c87io101_3 (n : Nat × Nat) (m1 : Nat) (m : Nat) (v1 : Int) (blockSize6 : Int) (a7 : Int) (b8 : Int) (u0 : List Int) (u1 : List (Int × Int)) : Option R94c87io101 := loopN (F94c87io101_19 n m1) m { tm := [.own 1000000000 none false, .c (.int .i64 v1), .fn 87 [.ptr 1000000001 0], uu, uu, uu, .c (.int .i64 blockSize6), .c (.int .i64 a7), .c (.int .i64 b8), uu, uu, uu, uu, uu, uu, uu, uu, uu, uu, uu, uu, uu, uu, uu, uu, uu, uu, uu, uu, uu, uu, uu, uu, uu, uu, uu, uu, uu, uu, uu, uu, uu, uu, uu, uu, uu, uu, uu, uu, uu, uu, uu, uu, uu, uu, uu, uu, uu, uu, uu, uu, uu, uu], hp := (upd (upd emp 1000000001 (.box [.sl (.pair (.int .i64) (.int .i64)) u1 false])) 1000000000 (.arr (.int .i64) u0 false)) }
theorem L94c87io101_1_eq (n : Nat × Nat) (m1 : Nat) (v1 : Int) (blockSize6 : Int) (a7 : Int) (b8 : Int) (u0 : List Int) (u1 : List (Int × Int)) : L94c87io101_1 n (m1 + 1) v1 blockSize6 a7 b8 u0 u1 =
 (bif decide (b8 ≤ v1) then (S95c87io1001 n u0 a7 b8 u1).bind fun r1' =>
 (bif Nat.beq r1'.2.1.length u0.length then L94c87io101_1 n m1 v1 blockSize6 b8 (wr .i64 (b8 + blockSize6)) r1'.2.1 r1'.2.2.1
 else none)
 else (S95c87io1001 n u0 a7 v1 u1).bind fun r2' =>
 (bif Nat.beq r2'.2.1.length u0.length then L94c87io101_2 n n.1 v1 blockSize6 r2'.2.1 r2'.2.2.1
 else none)) := by kernel_rfl
theorem L94c87io101_2_eq (n : Nat × Nat) (m1 : Nat) (v1 : Int) (blockSize6 : Int) (u0 : List Int) (u1 : List (Int × Int)) : L94c87io101_2 n (m1 + 1) v1 blockSize6 u0 u1 =
 (bif decide (blockSize6 < v1) then L94c87io101_3 n m1 n.1 v1 blockSize6 0 (wr .i64 (2 * blockSize6)) u0 u1
 else some ((), u0, u1, ())) := by kernel_rfl
theorem L94c87io101_3_eq (n : Nat × Nat) (m1 m2 : Nat) (v1 : Int) (blockSize6 : Int) (a7 : Int) (b8 : Int) (u0 : List Int) (u1 : List (Int × Int)) : L94c87io101_3 n m1 (m2 + 1) v1 blockSize6 a7 b8 u0 u1 =
 (bif decide (b8 ≤ v1) then (S96c87io10001 n u0 a7 (wr .i64 (a7 + blockSize6)) b8 u1).bind fun r3' =>
 (bif Nat.beq r3'.2.1.length u0.length then L94c87io101_3 n m1 m2 v1 blockSize6 b8 (wr .i64 (b8 + (wr .i64 (2 * blockSize6)))) r3'.2.1 r3'.2.2.1
 else none)
 else (bif decide (wr .i64 (a7 + blockSize6) < v1) then (S96c87io10001 n u0 a7 (wr .i64 (a7 + blockSize6)) v1 u1).bind fun r4' =>
 (bif Nat.beq r4'.2.1.length u0.length then L94c87io101_2 n m1 v1 (wr .i64 (blockSize6 * 2)) r4'.2.1 r4'.2.2.1
 else none)
 else L94c87io101_2 n m1 v1 (wr .i64 (blockSize6 * 2)) u0 u1)) := by kernel_rfl
noncomputable def S94c87io101 (n : Nat × Nat) (data0 : List Int) (v1 : Int) (cp_2_0 : List (Int × Int)) : Option R94c87io101 := run (E94c87io101 n) c94c87io101 an94c87io101 rt94c87io101 (fun _ _ => none) rt94c87io101 { tm := [.own 1000000000 none false, .c (.int .i64 v1), .fn 87 [.ptr 1000000001 0], uu, uu, uu, uu, uu, uu, uu, uu, uu, uu, uu, uu, uu, uu, uu, uu, uu, uu, uu, uu, uu, uu, uu, uu, uu, uu, uu, uu, uu, uu, uu, uu, uu, uu, uu, uu, uu, uu, uu, uu, uu, uu, uu, uu, uu, uu, uu, uu, uu, uu, uu, uu, uu, uu, uu, uu, uu, uu, uu, uu], hp := (upd (upd emp 1000000001 (.box [.sl (.pair (.int .i64) (.int .i64)) cp_2_0 false])) 1000000000 (.arr (.int .i64) data0 false)) }
theorem S94c87io101_eq (n : Nat × Nat) (data0 : List Int) (v1 : Int) (cp_2_0 : List (Int × Int)) : S94c87io101 n data0 v1 cp_2_0 =
    L94c87io101_1 n n.1 v1 20 0 20 data0 cp_2_0 := by kernel_rfl
theorem S94c87io101_run (n : Nat × Nat) (xs : qksDen pk94c87io101) : S94c87io101 n xs.1 xs.2.1 xs.2.2.1.1 = runG (E94c87io101 n) noScope c94c87io101 an94c87io101 (rtIO rk94c87io101 (pk94c87io101.flatMap QK.ods)) (fun _ _ => none) (rtIO rk94c87io101 (pk94c87io101.flatMap QK.ods)) (st1 pk94c87io101 xs Try.f94.ntmps) := by kernel_rfl
noncomputable def P94c87io101 (n : Nat × Nat) := phioOf pk94c87io101 rk94c87io101 (pk94c87io101.flatMap QK.ods) (fun xs => S94c87io101 n xs.1 xs.2.1 xs.2.2.1.1)
theorem env94c87io101 (n : Nat × Nat) : EnvOK Try.prog (E94c87io101 n) := envOK (l := io94c87io101 n) noPhi_ok rfl rfl (by kernel_rfl) ⟨FC95c87io1001 n, call95, FC96c87io10001 n, call96, trivial⟩
theorem par94c87io101 (n : Nat × Nat) : EnvPar (E94c87io101 n) := envPar (l := io94c87io101 n) noPhi_par rfl ⟨phioOf_Pario1, parP96c87io10001 n, trivial⟩
theorem FC94c87io101 (n : Nat × Nat) : FCios Try.prog 94 (pk94c87io101.map QK.flag) (P94c87io101 n) := phioOf_FCios fun xs r h vs hv => FCio.of_runG tabOK eqsOK (env94c87io101 n) (par94c87io101 n) mixed (fun _ => noScope_ok) Try.func94 (c := c94c87io101) (an := an94c87io101) (qks := pk94c87io101) (rks := rk94c87io101) (by kernel_rfl) (by kernel_rfl) hv ((S94c87io101_run n xs).symm.trans h)
/- slices.SortStableFunc[[]int,int] -/
abbrev R85c87io11 := (Unit) × (List Int) × (List (Int × Int)) × Unit
noncomputable def c85c87io11 : Code := bodyOf Try.f85
noncomputable def an85c87io11 : Ann := .l
def pk85c87io11 : List QK := [.oa (.int .i64), .of 87 [(.sl (.pair (.int .i64) (.int .i64)))]]
def rk85c87io11 : List RK := []
noncomputable def rt85c87io11 (st : St) : Option R85c87io11 := rtIO rk85c87io11 (pk85c87io11.flatMap QK.ods) st
noncomputable def io85c87io11 (n : Nat × Nat) : List IoE := [⟨94, (isFns [none, none, some 87]), pk94c87io101.map QK.flag, P94c87io101 n⟩]
noncomputable def E85c87io11 (n : Nat × Nat) : Env := { T := tab, phi := noPhi, eff := fun _ => false, fuel := n.1, hold := n.2, phio := phioL (io85c87io11 n), iop := iopL (io85c87io11 n) }
noncomputable def S85c87io11 (n : Nat × Nat) (x0 : List Int) (cp_1_0 : List (Int × Int)) : Option R85c87io11 := run (E85c87io11 n) c85c87io11 an85c87io11 rt85c87io11 (fun _ _ => none) rt85c87io11 { tm := [.own 1000000000 none false, .fn 87 [.ptr 1000000001 0], uu, uu, uu, uu, uu, uu, uu], hp := (upd (upd emp 1000000001 (.box [.sl (.pair (.int .i64) (.int .i64)) cp_1_0 false])) 1000000000 (.arr (.int .i64) x0 false)) }
theorem S85c87io11_eq (n : Nat × Nat) (x0 : List Int) (cp_1_0 : List (Int × Int)) : S85c87io11 n x0 cp_1_0 =
 (S94c87io101 n x0 (x0.length : Int) cp_1_0).bind fun r1' =>
 (bif Nat.beq r1'.2.1.length x0.length then some ((), r1'.2.1, r1'.2.2.1, ())
 else none) := by kernel_rfl
theorem S85c87io11_run (n : Nat × Nat) (xs : qksDen pk85c87io11) : S85c87io11 n xs.1 xs.2.1.1 = runG (E85c87io11 n) noScope c85c87io11 an85c87io11 (rtIO rk85c87io11 (pk85c87io11.flatMap QK.ods)) (fun _ _ => none) (rtIO rk85c87io11 (pk85c87io11.flatMap QK.ods)) (st1 pk85c87io11 xs Try.f85.ntmps) := by kernel_rfl
noncomputable def P85c87io11 (n : Nat × Nat) := phioOf pk85c87io11 rk85c87io11 (pk85c87io11.flatMap QK.ods) (fun xs => S85c87io11 n xs.1 xs.2.1.1)
theorem env85c87io11 (n : Nat × Nat) : EnvOK Try.prog (E85c87io11 n) := envOK (l := io85c87io11 n) noPhi_ok rfl rfl (by kernel_rfl) ⟨FC94c87io101 n, call94, trivial⟩
theorem par85c87io11 (n : Nat × Nat) : EnvPar (E85c87io11 n) := envPar (l := io85c87io11 n) noPhi_par rfl ⟨phioOf_Pario1, trivial⟩
theorem FC85c87io11 (n : Nat × Nat) : FCios Try.prog 85 (pk85c87io11.map QK.flag) (P85c87io11 n) := phioOf_FCios fun xs r h vs hv => FCio.of_runG tabOK eqsOK (env85c87io11 n) (par85c87io11 n) mixed (fun _ => noScope_ok) Try.func85 (c := c85c87io11) (an := an85c87io11) (qks := pk85c87io11) (rks := rk85c87io11) (by kernel_rfl) (by kernel_rfl) hv ((S85c87io11_run n xs).symm.trans h)
abbrev R69 := List Int
noncomputable def c69 : Code := bodyOf Try.f69
noncomputable def an69 : Ann := (.s .l (.s .l (.s (.s .l (.j [1, 3, 4] (.j [1, 3, 4, 7, 8, 9] (.s .l (.s (.j [1, 3, 4, 7, 8, 9] .l .l) (.j [] (.j [1, 3, 4, 7, 8, 9] (.s .l (.s .l (.j [1, 3, 4, 7, 8, 9] .l .l))) .l) .l))) .l) .l)) .l)))
def pk69 : List PK := [.c (.sl (.pair (.int .i64) (.int .i64)))]
def rk69 : List RK := [.own (.int .i64) 2]
noncomputable def rt69 (st : St) : Option R69 := rtG rk69 st
noncomputable def io69 (n : Nat × Nat) : List IoE := [⟨85, (isFns [none, some 86]), pk85c86io11.map QK.flag, P85c86io11 n⟩, ⟨85, (isFns [none, some 87]), pk85c87io11.map QK.flag, P85c87io11 n⟩]
noncomputable def E69 (n : Nat × Nat) : Env := { T := tab, phi := noPhi, eff := fun _ => false, fuel := n.1, hold := n.2, phio := phioL (io69 n), iop := iopL (io69 n) }
noncomputable def kq69_1 (n : Nat × Nat) : St → Option R69 := run (E69 n) (cB (cB (cB c69))) (Ann.snd (Ann.snd (Ann.snd an69))) rt69 (fun _ _ => none) rt69
noncomputable def xb69_3 (n : Nat × Nat) : Nat → St → Option R69 := fun j s => bif Nat.beq j 0 then normC [1, 3, 4] s (kq69_1 n) else (fun _ _ => none) j s
noncomputable def F69_4 (n : Nat × Nat) : (St → Option R69) → St → Option R69 := fun K s => run (E69 n) (cA (cA (cB (cA (cB (cB c69)))))) (Ann.fst (Ann.fst (Ann.snd (Ann.fst (Ann.snd (Ann.snd an69)))))) (fun s => normC [1, 3, 4, 7, 8, 9] s K) (xb69_3 n) rt69 s
noncomputable def kq69_7 (n : Nat × Nat) (m1 : Nat) : St → Option R69 := run (E69 n) (cB (cB (cB (cA (cA (cB (cA (cB (cB c69))))))))) (Ann.snd (Ann.snd (Ann.snd (Ann.fst (Ann.fst (Ann.snd (Ann.fst (Ann.snd (Ann.snd an69))))))))) (fun s => normC [1, 3, 4, 7, 8, 9] s (loopN (F69_4 n) m1)) (xb69_3 n) rt69
noncomputable def L69_1 (n : Nat × Nat) (m : Nat) (v7 : List (Int × Int)) (v8 : Int) (v9 : Int) (sheets1 : List (Int × Int)) (front3 : List Int) (back4 : List Int) : Option R69 := loopN (F69_4 n) m { tm := [uu, .ptr 1 0, uu, .own 3 none false, .own 4 none false, uu, uu, .c (.sl (.pair (.int .i64) (.int .i64)) v7 false), .c (.int .i64 v8), .c (.int .i64 v9), uu, uu, uu, uu, uu, uu, uu, uu, uu, uu, uu, uu, uu, uu, uu, uu, uu, uu, uu, uu, uu, uu, uu, uu, uu, uu, uu], hp := (upd (upd (upd emp 4 (.arr (.int .i64) back4 true)) 3 (.arr (.int .i64) front3 true)) 1 (.box [.sl (.pair (.int .i64) (.int .i64)) sheets1 false])) }
noncomputable def L69_2 (n : Nat × Nat) (m1 : Nat) (v7 : List (Int × Int)) (v8 : Int) (v9 : Int) (sheets1 : List (Int × Int)) (front3 : List Int) (back4 : List Int) : Option R69 := loopN (fun _ => (kq69_7 n m1)) n.2 { tm := [uu, .ptr 1 0, uu, .own 3 none false, .own 4 none false, uu, uu, .c (.sl (.pair (.int .i64) (.int .i64)) v7 false), .c (.int .i64 v8), .c (.int .i64 v9), uu, uu, uu, uu, uu, uu, uu, uu, uu, uu, uu, uu, uu, uu, uu, uu, uu, uu, uu, uu, uu, uu, uu, uu, uu, uu, uu], hp := (upd (upd (upd emp 4 (.arr (.int .i64) back4 true)) 3 (.arr (.int .i64) front3 true)) 1 (.box [.sl (.pair (.int .i64) (.int .i64)) sheets1 false])) }
theorem L69_1_eq (n : Nat × Nat) (m1 : Nat) (v7 : List (Int × Int)) (v8 : Int) (v9 : Int) (sheets1 : List (Int × Int)) (front3 : List Int) (back4 : List Int) : L69_1 n (m1 + 1) v7 v8 v9 sheets1 front3 back4 =
 (bif decide (v9 < v8) then (idx v7 v9).bind fun x1' =>
 (bif decide (x1'.1 < x1'.2) then (bif decide (front3.length + [v9].length ≤ lim) then L69_2 n m1 v7 v8 v9 sheets1 (front3 ++ [v9]) back4
 else none)
 else (bif decide (back4.length + [v9].length ≤ lim) then L69_2 n m1 v7 v8 v9 sheets1 front3 (back4 ++ [v9])
 else none))
 else (S85c86io11 n front3 sheets1).bind fun r2' =>
 (bif Nat.beq r2'.2.1.length front3.length then (S85c87io11 n back4 r2'.2.2.1).bind fun r3' =>
 (bif Nat.beq r3'.2.1.length back4.length then (bif decide (r2'.2.1.length + r3'.2.1.length ≤ lim) then some (r2'.2.1 ++ r3'.2.1)
 else none)
 else none)
 else none)) := by kernel_rfl
theorem L69_2_raw (n : Nat × Nat) (m1 : Nat) (v7 : List (Int × Int)) (v8 : Int) (v9 : Int) (sheets1 : List (Int × Int)) (front3 : List Int) (back4 : List Int) : (kq69_7 n m1) { tm := [uu, .ptr 1 0, uu, .own 3 none false, .own 4 none false, uu, uu, .c (.sl (.pair (.int .i64) (.int .i64)) v7 false), .c (.int .i64 v8), .c (.int .i64 v9), uu, uu, uu, uu, uu, uu, uu, uu, uu, uu, uu, uu, uu, uu, uu, uu, uu, uu, uu, uu, uu, uu, uu, uu, uu, uu, uu], hp := (upd (upd (upd emp 4 (.arr (.int .i64) back4 true)) 3 (.arr (.int .i64) front3 true)) 1 (.box [.sl (.pair (.int .i64) (.int .i64)) sheets1 false])) } =
    L69_1 n m1 v7 v8 (wr .i64 (v9 + 1)) sheets1 front3 back4 := by kernel_rfl
noncomputable def S69 (n : Nat × Nat) (sheets0 : List (Int × Int)) : Option R69 := run (E69 n) c69 an69 rt69 (fun _ _ => none) rt69 { tm := [.c (.sl (.pair (.int .i64) (.int .i64)) sheets0 false), uu, uu, uu, uu, uu, uu, uu, uu, uu, uu, uu, uu, uu, uu, uu, uu, uu, uu, uu, uu, uu, uu, uu, uu, uu, uu, uu, uu, uu, uu, uu, uu, uu, uu, uu, uu], hp := emp }
theorem S69_eq (n : Nat × Nat) (sheets0 : List (Int × Int)) : S69 n sheets0 =
    L69_1 n n.1 sheets0 (sheets0.length : Int) 0 sheets0 [] [] := by kernel_rfl
theorem S69_run (n : Nat × Nat) (xs : pksDen pk69) : S69 n xs.1 = runG (E69 n) noScope c69 an69 (rtG rk69) (fun _ _ => none) (rtG rk69) (st0 pk69 xs Try.f69.ntmps) := by kernel_rfl
noncomputable def P69 (n : Nat × Nat) := phiOf pk69 rk69 (fun xs => S69 n xs.1)
theorem call69 : CallOK Try.prog 69 := callOK_of Try.func69 (by kernel_rfl) (by kernel_rfl)
theorem env69 (n : Nat × Nat) : EnvOK Try.prog (E69 n) := envOK (l := io69 n) noPhi_ok rfl rfl (by kernel_rfl) ⟨FC85c86io11 n, call85, FC85c87io11 n, call85, trivial⟩
theorem par69 (n : Nat × Nat) : EnvPar (E69 n) := envPar (l := io69 n) noPhi_par rfl ⟨phioOf_Pario1, phioOf_Pario1, trivial⟩
theorem FC69 (n : Nat × Nat) : FCs Try.prog 69 (P69 n) := phiOf_FCs fun xs r h vs hv => FC.of_runG tabOK eqsOK (env69 n) (par69 n) mixed (fun _ => noScope_ok) Try.func69 (c := c69) (an := an69) (pks := pk69) (rks := rk69) (by kernel_rfl) (by kernel_rfl) hv ((S69_run n xs).symm.trans h)
abbrev R27 := List Int × Int
noncomputable def c27 : Code := bodyOf Try.f27
noncomputable def an27 : Ann := (.s .l (.s (.s .l (.s .l (.j [0] .l .l))) .l))
def pk27 : List PK := [.c (.sl (.pair (.int .i64) (.int .i64)))]
def rk27 : List RK := [.sl (.int .i64) 2, .c (.int .i64) 3]
noncomputable def rt27 (st : St) : Option R27 := rtG rk27 st
noncomputable def E27 (n : Nat × Nat) : Env := { T := tab, phi := (consPhi 25 (fun _ => true) (P25 n) (consPhi 69 (fun _ => true) (P69 n) noPhi)), eff := fun _ => false, fuel := n.1, hold := n.2 }
noncomputable def S27 (n : Nat × Nat) (sheets0 : List (Int × Int)) : Option R27 := run (E27 n) c27 an27 rt27 (fun _ _ => none) rt27 { tm := [.c (.sl (.pair (.int .i64) (.int .i64)) sheets0 false), uu, uu, uu, uu, uu, uu, uu, uu, uu, uu, uu], hp := emp }
theorem S27_eq (n : Nat × Nat) (sheets0 : List (Int × Int)) : S27 n sheets0 =
 (S25 n sheets0).bind fun r1' =>
 (bif (r1' != 0) then some ([], r1')
 else (S69 n sheets0).bind fun r2' =>
 some (r2', 0)) := by kernel_rfl
theorem S27_run (n : Nat × Nat) (xs : pksDen pk27) : S27 n xs.1 = runG (E27 n) noScope c27 an27 (rtG rk27) (fun _ _ => none) (rtG rk27) (st0 pk27 xs Try.f27.ntmps) := by kernel_rfl
noncomputable def P27 (n : Nat × Nat) := phiOf pk27 rk27 (fun xs => S27 n xs.1)
theorem call27 : CallOK Try.prog 27 := callOK_of Try.func27 (by kernel_rfl) (by kernel_rfl)
theorem env27 (n : Nat × Nat) : EnvOK Try.prog (E27 n) := envOK0 (consPhi_ok (FC25 n) call25 (consPhi_ok (FC69 n) call69 noPhi_ok)) rfl rfl
theorem par27 (n : Nat × Nat) : EnvPar (E27 n) := envPar0 (consPhi_par phiOf_Par1 (consPhi_par phiOf_Par1 noPhi_par)) rfl
theorem FC27 (n : Nat × Nat) : FCs Try.prog 27 (P27 n) := phiOf_FCs fun xs r h vs hv => FC.of_runG tabOK eqsOK (env27 n) (par27 n) mixed (fun _ => noScope_ok) Try.func27 (c := c27) (an := an27) (pks := pk27) (rks := rk27) (by kernel_rfl) (by kernel_rfl) hv ((S27_run n xs).symm.trans h)
abbrev R88 := Int
noncomputable def c88 : Code := bodyOf Try.f88
noncomputable def an88 : Ann := .l
def pk88 : List PK := [.c (.sl (.pair (.int .i64) (.int .i64)))]
def rk88 : List RK := [.c (.int .i64) 2]
noncomputable def rt88 (st : St) : Option R88 := rtG rk88 st
noncomputable def E88 (n : Nat × Nat) : Env := { T := tab, phi := (consPhi 58 (fun _ => true) (P58 n) (consPhi 61 (fun _ => true) (P61 n) (consPhi 69 (fun _ => true) (P69 n) noPhi))), eff := fun _ => false, fuel := n.1, hold := n.2 }
noncomputable def S88 (n : Nat × Nat) (sheets0 : List (Int × Int)) : Option R88 := run (E88 n) c88 an88 rt88 (fun _ _ => none) rt88 { tm := [.c (.sl (.pair (.int .i64) (.int .i64)) sheets0 false), uu, uu, uu, uu, uu, uu, uu, uu, uu, uu, uu, uu, uu], hp := emp }
theorem S88_eq (n : Nat × Nat) (sheets0 : List (Int × Int)) : S88 n sheets0 =
 (S69 n sheets0).bind fun r1' =>
 (S58 n sheets0 r1').bind fun r2' =>
 (S61 n r2'.1).bind fun r3' =>
 some r3' := by kernel_rfl
theorem S88_run (n : Nat × Nat) (xs : pksDen pk88) : S88 n xs.1 = runG (E88 n) noScope c88 an88 (rtG rk88) (fun _ _ => none) (rtG rk88) (st0 pk88 xs Try.f88.ntmps) := by kernel_rfl
noncomputable def P88 (n : Nat × Nat) := phiOf pk88 rk88 (fun xs => S88 n xs.1)
theorem call88 : CallOK Try.prog 88 := callOK_of Try.func88 (by kernel_rfl) (by kernel_rfl)
theorem env88 (n : Nat × Nat) : EnvOK Try.prog (E88 n) := envOK0 (consPhi_ok (FC58 n) call58 (consPhi_ok (FC61 n) call61 (consPhi_ok (FC69 n) call69 noPhi_ok))) rfl rfl
theorem par88 (n : Nat × Nat) : EnvPar (E88 n) := envPar0 (consPhi_par phiOf_Par1 (consPhi_par phiOf_Par1 (consPhi_par phiOf_Par1 noPhi_par))) rfl
theorem FC88 (n : Nat × Nat) : FCs Try.prog 88 (P88 n) := phiOf_FCs fun xs r h vs hv => FC.of_runG tabOK eqsOK (env88 n) (par88 n) mixed (fun _ => noScope_ok) Try.func88 (c := c88) (an := an88) (pks := pk88) (rks := rk88) (by kernel_rfl) (by kernel_rfl) hv ((S88_run n xs).symm.trans h)
abbrev R72io01 := (Bool) × (List Int) × Unit
noncomputable def c72io01 : Code := bodyOf Try.f72
noncomputable def an72io01 : Ann := .l
def pk72io01 : List QK := [.pl (.c (.sl (.int .i64))), .ob (.sl (.int .i64))]
def rk72io01 : List RK := [.c .bool 3]
noncomputable def rt72io01 (st : St) : Option R72io01 := rtIO rk72io01 (pk72io01.flatMap QK.ods) st
noncomputable def E72io01 (n : Nat × Nat) : Env := { T := tab, phi := noPhi, eff := fun _ => false, fuel := n.1, hold := n.2 }
noncomputable def S72io01 (n : Nat × Nat) (order0 : List Int) (v1 : List Int) : Option R72io01 := run (E72io01 n) c72io01 an72io01 rt72io01 (fun _ _ => none) rt72io01 { tm := [.c (.sl (.int .i64) order0 false), .ptr 1000000000 0, uu, uu, uu], hp := (upd emp 1000000000 (.box [.sl (.int .i64) v1 false])) }
theorem S72io01_eq (n : Nat × Nat) (order0 : List Int) (v1 : List Int) : S72io01 n order0 v1 =
 some (false, order0, ()) := by kernel_rfl
theorem S72io01_run (n : Nat × Nat) (xs : qksDen pk72io01) : S72io01 n xs.1 xs.2.1 = runG (E72io01 n) noScope c72io01 an72io01 (rtIO rk72io01 (pk72io01.flatMap QK.ods)) (fun _ _ => none) (rtIO rk72io01 (pk72io01.flatMap QK.ods)) (st1 pk72io01 xs Try.f72.ntmps) := by kernel_rfl
noncomputable def P72io01 (n : Nat × Nat) := phioOf pk72io01 rk72io01 (pk72io01.flatMap QK.ods) (fun xs => S72io01 n xs.1 xs.2.1)
theorem call72 : CallOK Try.prog 72 := callOK_of Try.func72 (by kernel_rfl) (by kernel_rfl)
theorem env72io01 (n : Nat × Nat) : EnvOK Try.prog (E72io01 n) := envOK0 noPhi_ok rfl rfl
theorem par72io01 (n : Nat × Nat) : EnvPar (E72io01 n) := envPar0 noPhi_par rfl
theorem FC72io01 (n : Nat × Nat) : FCios Try.prog 72 (pk72io01.map QK.flag) (P72io01 n) := phioOf_FCios fun xs r h vs hv => FCio.of_runG tabOK eqsOK (env72io01 n) (par72io01 n) mixed (fun _ => noScope_ok) Try.func72 (c := c72io01) (an := an72io01) (qks := pk72io01) (rks := rk72io01) (by kernel_rfl) (by kernel_rfl) hv ((S72io01_run n xs).symm.trans h)
abbrev R89f72io0001110 := (Bool) × (List (Int × Int)) × (List Int) × Int × Unit
noncomputable def c89f72io0001110 : Code := bodyOf Try.f89
noncomputable def an89f72io0001110 : Ann := (.s .l (.s (.s .l (.j [0, 1, 2, 3, 5, 6, 47, 48, 49, 50, 51, 52, 53, 54, 55, 56, 57, 58, 59, 60, 1000000000, 1000000001, 1000000002] .l .l)) (.s (.s .l (.j [1000000000, 1000000001, 1000000002] (.j [0, 1, 2, 5, 6, 23, 24, 25, 47, 48, 49, 50, 51, 52, 53, 54, 55, 56, 57, 58, 59, 60, 1000000000, 1000000001, 1000000002] (.s .l (.s (.j [0, 1, 2, 5, 6, 23, 24, 25, 47, 48, 49, 50, 51, 52, 53, 54, 55, 56, 57, 58, 59, 60, 1000000000, 1000000001, 1000000002] .l .l) (.j [] (.j [0, 1, 2, 5, 6, 23, 24, 25, 47, 48, 49, 50, 51, 52, 53, 54, 55, 56, 57, 58, 59, 60, 1000000000, 1000000001, 1000000002] (.s .l (.s (.s .l (.j [0, 1, 2, 5, 6, 11, 12, 23, 24, 25, 47, 48, 49, 50, 51, 52, 53, 54, 55, 56, 57, 58, 59, 60, 1000000000, 1000000001, 1000000002] .l .l)) (.s .l (.s .l (.s .l (.j [0, 1, 2, 5, 6, 23, 24, 25, 47, 48, 49, 50, 51, 52, 53, 54, 55, 56, 57, 58, 59, 60, 1000000000, 1000000001, 1000000002] .l .l)))))) .l) .l))) .l) .l)) .l)))
def pk89f72io0001110 : List QK := [.pl (.c (.sl (.int .i64))), .pl (.c (.int .i64)), .pl (.c (.int .i64)), .ob (.sl (.pair (.int .i64) (.int .i64))), .fp 72 [(.sl (.int .i64))], .ob (.int .i64), .sf 89 [.b 1000000000, .v 72 [1000000001], .b 1000000002, .s]]
def rk89f72io0001110 : List RK := [.c .bool 10]
noncomputable def rt89f72io0001110 (st : St) : Option R89f72io0001110 := rtIO rk89f72io0001110 (pk89f72io0001110.flatMap QK.ods) st
noncomputable def io89f72io0001110 (n : Nat × Nat) (SS : List Int → Int → Int → (List (Int × Int)) → List Int → Int → Option R89f72io0001110) : List IoE := [⟨72, (fun _ => true), pk72io01.map QK.flag, P72io01 n⟩, ⟨89, (fun _ => true), pk89f72io0001110.map QK.flag, (phioOf pk89f72io0001110 rk89f72io0001110 (pk89f72io0001110.flatMap QK.ods) (fun xs => SS xs.1 xs.2.1 xs.2.2.1 xs.2.2.2.1 xs.2.2.2.2.1.1 xs.2.2.2.2.2.1))⟩]
noncomputable def E89f72io0001110 (n : Nat × Nat) (SS : List Int → Int → Int → (List (Int × Int)) → List Int → Int → Option R89f72io0001110) : Env := { T := tab, phi := (consPhi 80 (fun _ => true) (P80 n) noPhi), eff := fun _ => false, fuel := n.1, hold := n.2, phio := phioL (io89f72io0001110 n SS), iop := iopL (io89f72io0001110 n SS) }
noncomputable def kq89f72io0001110_3 (n : Nat × Nat) (SS : List Int → Int → Int → (List (Int × Int)) → List Int → Int → Option R89f72io0001110) : St → Option R89f72io0001110 := run (E89f72io0001110 n SS) (cB (cB (cB c89f72io0001110))) (Ann.snd (Ann.snd (Ann.snd an89f72io0001110))) rt89f72io0001110 (fun _ _ => none) rt89f72io0001110
noncomputable def xb89f72io0001110_5 (n : Nat × Nat) (SS : List Int → Int → Int → (List (Int × Int)) → List Int → Int → Option R89f72io0001110) : Nat → St → Option R89f72io0001110 := fun j s => bif Nat.beq j 0 then normC [1000000000, 1000000001, 1000000002] s (kq89f72io0001110_3 n SS) else (fun _ _ => none) j s
noncomputable def F89f72io0001110_6 (n : Nat × Nat) (SS : List Int → Int → Int → (List (Int × Int)) → List Int → Int → Option R89f72io0001110) : (St → Option R89f72io0001110) → St → Option R89f72io0001110 := fun K s => run (E89f72io0001110 n SS) (cA (cA (cB (cA (cB (cB c89f72io0001110)))))) (Ann.fst (Ann.fst (Ann.snd (Ann.fst (Ann.snd (Ann.snd an89f72io0001110)))))) (fun s => normC [0, 1, 2, 5, 6, 23, 24, 25, 47, 48, 49, 50, 51, 52, 53, 54, 55, 56, 57, 58, 59, 60, 1000000000, 1000000001, 1000000002] s K) (xb89f72io0001110_5 n SS) rt89f72io0001110 s
noncomputable def kq89f72io0001110_9 (n : Nat × Nat) (SS : List Int → Int → Int → (List (Int × Int)) → List Int → Int → Option R89f72io0001110) (m1 : Nat) : St → Option R89f72io0001110 := run (E89f72io0001110 n SS) (cB (cB (cB (cA (cA (cB (cA (cB (cB c89f72io0001110))))))))) (Ann.snd (Ann.snd (Ann.snd (Ann.fst (Ann.fst (Ann.snd (Ann.fst (Ann.snd (Ann.snd an89f72io0001110))))))))) (fun s => normC [0, 1, 2, 5, 6, 23, 24, 25, 47, 48, 49, 50, 51, 52, 53, 54, 55, 56, 57, 58, 59, 60, 1000000000, 1000000001, 1000000002] s (loopN (F89f72io0001110_6 n SS) m1)) (xb89f72io0001110_5 n SS) rt89f72io0001110
noncomputable def L89f72io0001110_1 (n : Nat × Nat) (SS : List Int → Int → Int → (List (Int × Int)) → List Int → Int → Option R89f72io0001110) (m : Nat) (order0 : List Int) (a1 : Int) (b2 : Int) (v23 : List (Int × Int)) (v24 : Int) (v25 : Int) (u2 : Int) (u0 : List (Int × Int)) (u1 : List Int) : Option R89f72io0001110 := loopN (F89f72io0001110_6 n SS) m { tm := [.c (.sl (.int .i64) order0 false), .c (.int .i64 a1), .c (.int .i64 b2), uu, uu, .ptr 1000000002 0, .fptr 89 [.b 1000000000, .v 72 [1000000001], .b 1000000002, .s], uu, uu, uu, uu, uu, uu, uu, uu, uu, uu, uu, uu, uu, uu, uu, uu, .c (.sl (.pair (.int .i64) (.int .i64)) v23 false), .c (.int .i64 v24), .c (.int .i64 v25), uu, uu, uu, uu, uu, uu, uu, uu, uu, uu, uu, uu, uu, uu, uu, uu, uu, uu, uu, uu, uu, uu, uu, uu, uu, uu, uu, uu, uu, uu, uu, uu, uu, uu, uu, uu, uu], hp := (upd (upd (upd emp 1000000001 (.box [.sl (.int .i64) u1 false])) 1000000000 (.box [.sl (.pair (.int .i64) (.int .i64)) u0 false])) 1000000002 (.box [.int .i64 u2])) }
noncomputable def L89f72io0001110_2 (n : Nat × Nat) (SS : List Int → Int → Int → (List (Int × Int)) → List Int → Int → Option R89f72io0001110) (m1 : Nat) (order0 : List Int) (a1 : Int) (b2 : Int) (v23 : List (Int × Int)) (v24 : Int) (v25 : Int) (u2 : Int) (u0 : List (Int × Int)) (u1 : List Int) : Option R89f72io0001110 := loopN (fun _ => (kq89f72io0001110_9 n SS m1)) n.2 { tm := [.c (.sl (.int .i64) order0 false), .c (.int .i64 a1), .c (.int .i64 b2), uu, uu, .ptr 1000000002 0, .fptr 89 [.b 1000000000, .v 72 [1000000001], .b 1000000002, .s], uu, uu, uu, uu, uu, uu, uu, uu, uu, uu, uu, uu, uu, uu, uu, uu, .c (.sl (.pair (.int .i64) (.int .i64)) v23 false), .c (.int .i64 v24), .c (.int .i64 v25), uu, uu, uu, uu, uu, uu, uu, uu, uu, uu, uu, uu, uu, uu, uu, uu, uu, uu, uu, uu, uu, uu, uu, uu, uu, uu, uu, uu, uu, uu, uu, uu, uu, uu, uu, uu, uu], hp := (upd (upd (upd emp 1000000001 (.box [.sl (.int .i64) u1 false])) 1000000000 (.box [.sl (.pair (.int .i64) (.int .i64)) u0 false])) 1000000002 (.box [.int .i64 u2])) }
theorem L89f72io0001110_1_eq (n : Nat × Nat) (SS : List Int → Int → Int → (List (Int × Int)) → List Int → Int → Option R89f72io0001110) (m1 : Nat) (order0 : List Int) (a1 : Int) (b2 : Int) (v23 : List (Int × Int)) (v24 : Int) (v25 : Int) (u2 : Int) (u0 : List (Int × Int)) (u1 : List Int) : L89f72io0001110_1 n SS (m1 + 1) order0 a1 b2 v23 v24 v25 u2 u0 u1 =
 (bif decide (v25 < v24) then (idx v23 v25).bind fun x2' =>
 (S80 n order0 v25).bind fun r3' =>
 (bif r3' then L89f72io0001110_2 n SS m1 order0 a1 b2 v23 v24 v25 u2 u0 u1
 else (bif (decide (wr .i64 ((if b2 > (wr .i64 (a1 + x2'.1)) then b2 else (wr .i64 (a1 + x2'.1))) + x2'.2) ≤ u2) == true) then (bif ((order0.length : Int) == (order0.length : Int)) && bounds none (some (order0.length : Int)) (some (order0.length : Int)) order0.length then (bif decide ((order0.take (Int.toNat (order0.length : Int))).length + [v25].length ≤ lim) && ((order0.take (Int.toNat (order0.length : Int))).isEmpty || ![v25].isEmpty) then (SS ((order0.take (Int.toNat (order0.length : Int))) ++ [v25]) (wr .i64 (a1 + x2'.1)) (wr .i64 ((if b2 > (wr .i64 (a1 + x2'.1)) then b2 else (wr .i64 (a1 + x2'.1))) + x2'.2)) u0 u1 u2).bind fun r5' =>
 (bif (!r5'.1) then some (false, r5'.2.1, r5'.2.2.1, r5'.2.2.2.1, ())
 else L89f72io0001110_2 n SS m1 order0 a1 b2 v23 v24 v25 r5'.2.2.2.1 r5'.2.1 r5'.2.2.1)
 else none)
 else none)
 else (bif false then some (false, u0, u1, u2, ())
 else L89f72io0001110_2 n SS m1 order0 a1 b2 v23 v24 v25 u2 u0 u1)))
 else some (true, u0, u1, u2, ())) := by kernel_rfl
theorem L89f72io0001110_2_raw (n : Nat × Nat) (SS : List Int → Int → Int → (List (Int × Int)) → List Int → Int → Option R89f72io0001110) (m1 : Nat) (order0 : List Int) (a1 : Int) (b2 : Int) (v23 : List (Int × Int)) (v24 : Int) (v25 : Int) (u2 : Int) (u0 : List (Int × Int)) (u1 : List Int) : (kq89f72io0001110_9 n SS m1) { tm := [.c (.sl (.int .i64) order0 false), .c (.int .i64 a1), .c (.int .i64 b2), uu, uu, .ptr 1000000002 0, .fptr 89 [.b 1000000000, .v 72 [1000000001], .b 1000000002, .s], uu, uu, uu, uu, uu, uu, uu, uu, uu, uu, uu, uu, uu, uu, uu, uu, .c (.sl (.pair (.int .i64) (.int .i64)) v23 false), .c (.int .i64 v24), .c (.int .i64 v25), uu, uu, uu, uu, uu, uu, uu, uu, uu, uu, uu, uu, uu, uu, uu, uu, uu, uu, uu, uu, uu, uu, uu, uu, uu, uu, uu, uu, uu, uu, uu, uu, uu, uu, uu, uu, uu], hp := (upd (upd (upd emp 1000000001 (.box [.sl (.int .i64) u1 false])) 1000000000 (.box [.sl (.pair (.int .i64) (.int .i64)) u0 false])) 1000000002 (.box [.int .i64 u2])) } =
    L89f72io0001110_1 n SS m1 order0 a1 b2 v23 v24 (wr .i64 (v25 + 1)) u2 u0 u1 := by kernel_rfl
noncomputable def B89f72io0001110 (n : Nat × Nat) (SS : List Int → Int → Int → (List (Int × Int)) → List Int → Int → Option R89f72io0001110) (order0 : List Int) (a1 : Int) (b2 : Int) (v3 : List (Int × Int)) (cp_4_0 : List Int) (v5 : Int) : Option R89f72io0001110 := run (E89f72io0001110 n SS) c89f72io0001110 an89f72io0001110 rt89f72io0001110 (fun _ _ => none) rt89f72io0001110 { tm := [.c (.sl (.int .i64) order0 false), .c (.int .i64 a1), .c (.int .i64 b2), .ptr 1000000000 0, .fptr 72 [.b 1000000001], .ptr 1000000002 0, .fptr 89 [.b 1000000000, .v 72 [1000000001], .b 1000000002, .s], uu, uu, uu, uu, uu, uu, uu, uu, uu, uu, uu, uu, uu, uu, uu, uu, uu, uu, uu, uu, uu, uu, uu, uu, uu, uu, uu, uu, uu, uu, uu, uu, uu, uu, uu, uu, uu, uu, uu, uu, uu, uu, uu, uu, uu, uu, uu, uu, uu, uu, uu, uu, uu, uu, uu, uu], hp := (upd (upd (upd emp 1000000002 (.box [.int .i64 v5])) 1000000001 (.box [.sl (.int .i64) cp_4_0 false])) 1000000000 (.box [.sl (.pair (.int .i64) (.int .i64)) v3 false])) }
theorem B89f72io0001110_eq (n : Nat × Nat) (SS : List Int → Int → Int → (List (Int × Int)) → List Int → Int → Option R89f72io0001110) (order0 : List Int) (a1 : Int) (b2 : Int) (v3 : List (Int × Int)) (cp_4_0 : List Int) (v5 : Int) : B89f72io0001110 n SS order0 a1 b2 v3 cp_4_0 v5 =
 (bif ((order0.length : Int) == (v3.length : Int)) then (S72io01 n order0 cp_4_0).bind fun r1' =>
 some (r1'.1, v3, r1'.2.1, v5, ())
 else L89f72io0001110_1 n SS n.1 order0 a1 b2 v3 (v3.length : Int) 0 v5 v3 cp_4_0) := by kernel_rfl
noncomputable def T89f72io0001110 (n : Nat × Nat) : Nat → List Int → Int → Int → (List (Int × Int)) → List Int → Int → Option R89f72io0001110
  | 0 => fun _ _ _ _ _ _ => none
  | d + 1 => B89f72io0001110 n (T89f72io0001110 n d)
theorem T89f72io0001110_eq (n : Nat × Nat) (d : Nat) (order0 : List Int) (a1 : Int) (b2 : Int) (v3 : List (Int × Int)) (cp_4_0 : List Int) (v5 : Int) : T89f72io0001110 n (d + 1) order0 a1 b2 v3 cp_4_0 v5 = B89f72io0001110 n (T89f72io0001110 n d) order0 a1 b2 v3 cp_4_0 v5 := rfl
noncomputable def S89f72io0001110 (n : Nat × Nat) (order0 : List Int) (a1 : Int) (b2 : Int) (v3 : List (Int × Int)) (cp_4_0 : List Int) (v5 : Int) : Option R89f72io0001110 := T89f72io0001110 n n.1 order0 a1 b2 v3 cp_4_0 v5
theorem B89f72io0001110_run (n : Nat × Nat) (SS : List Int → Int → Int → (List (Int × Int)) → List Int → Int → Option R89f72io0001110) (xs : qksDen pk89f72io0001110) : B89f72io0001110 n SS xs.1 xs.2.1 xs.2.2.1 xs.2.2.2.1 xs.2.2.2.2.1.1 xs.2.2.2.2.2.1 = runG (E89f72io0001110 n SS) noScope c89f72io0001110 an89f72io0001110 (rtIO rk89f72io0001110 (pk89f72io0001110.flatMap QK.ods)) (fun _ _ => none) (rtIO rk89f72io0001110 (pk89f72io0001110.flatMap QK.ods)) (st1 pk89f72io0001110 xs Try.f89.ntmps) := by kernel_rfl
noncomputable def P89f72io0001110 (n : Nat × Nat) := phioOf pk89f72io0001110 rk89f72io0001110 (pk89f72io0001110.flatMap QK.ods) (fun xs => S89f72io0001110 n xs.1 xs.2.1 xs.2.2.1 xs.2.2.2.1 xs.2.2.2.2.1.1 xs.2.2.2.2.2.1)
theorem call89 : CallOK Try.prog 89 := callOK_of Try.func89 (by kernel_rfl) (by kernel_rfl)
theorem env89f72io0001110 (n : Nat × Nat) (SS : List Int → Int → Int → (List (Int × Int)) → List Int → Int → Option R89f72io0001110) (hSS : FCios Try.prog 89 (pk89f72io0001110.map QK.flag) (phioOf pk89f72io0001110 rk89f72io0001110 (pk89f72io0001110.flatMap QK.ods) (fun xs => SS xs.1 xs.2.1 xs.2.2.1 xs.2.2.2.1 xs.2.2.2.2.1.1 xs.2.2.2.2.2.1))) : EnvOK Try.prog (E89f72io0001110 n SS) := envOK (l := io89f72io0001110 n SS) (consPhi_ok (FC80 n) call80 noPhi_ok) rfl rfl (by kernel_rfl) ⟨FC72io01 n, call72, hSS, call89, trivial⟩
theorem par89f72io0001110 (n : Nat × Nat) (SS : List Int → Int → Int → (List (Int × Int)) → List Int → Int → Option R89f72io0001110) : EnvPar (E89f72io0001110 n SS) := envPar (l := io89f72io0001110 n SS) (consPhi_par phiOf_Par1 noPhi_par) rfl ⟨phioOf_Pario1, phioOf_Pario1, trivial⟩
theorem FCT89f72io0001110 (n : Nat × Nat) : ∀ d : Nat, FCios Try.prog 89 (pk89f72io0001110.map QK.flag) (phioOf pk89f72io0001110 rk89f72io0001110 (pk89f72io0001110.flatMap QK.ods) (fun xs => T89f72io0001110 n d xs.1 xs.2.1 xs.2.2.1 xs.2.2.2.1 xs.2.2.2.2.1.1 xs.2.2.2.2.2.1))
  | 0 => phioOf_FCios fun xs r h => by cases h
  | d + 1 => phioOf_FCios fun xs r h vs hv => FCio.of_runG tabOK eqsOK (env89f72io0001110 n (T89f72io0001110 n d) (FCT89f72io0001110 n d)) (par89f72io0001110 n (T89f72io0001110 n d)) mixed (fun _ => noScope_ok) Try.func89 (c := c89f72io0001110) (an := an89f72io0001110) (qks := pk89f72io0001110) (rks := rk89f72io0001110) (by kernel_rfl) (by kernel_rfl) hv ((B89f72io0001110_run n (T89f72io0001110 n d) xs).symm.trans h)
theorem FC89f72io0001110 (n : Nat × Nat) : FCios Try.prog 89 (pk89f72io0001110.map QK.flag) (P89f72io0001110 n) := FCT89f72io0001110 n n.1
abbrev R71c72io01 := (Unit) × (List Int) × Unit
noncomputable def c71c72io01 : Code := bodyOf Try.f71
noncomputable def an71c72io01 : Ann := .l
def pk71c72io01 : List QK := [.pl (.c (.sl (.pair (.int .i64) (.int .i64)))), .of 72 [(.sl (.int .i64))]]
def rk71c72io01 : List RK := []
noncomputable def rt71c72io01 (st : St) : Option R71c72io01 := rtIO rk71c72io01 (pk71c72io01.flatMap QK.ods) st
noncomputable def io71c72io01 (n : Nat × Nat) : List IoE := [⟨89, (fun _ => true), pk89f72io0001110.map QK.flag, P89f72io0001110 n⟩]
noncomputable def E71c72io01 (n : Nat × Nat) : Env := { T := tab, phi := (consPhi 88 (fun _ => true) (P88 n) noPhi), eff := fun _ => false, fuel := n.1, hold := n.2, phio := phioL (io71c72io01 n), iop := iopL (io71c72io01 n) }
noncomputable def S71c72io01 (n : Nat × Nat) (sheets0 : List (Int × Int)) (cp_1_0 : List Int) : Option R71c72io01 := run (E71c72io01 n) c71c72io01 an71c72io01 rt71c72io01 (fun _ _ => none) rt71c72io01 { tm := [.c (.sl (.pair (.int .i64) (.int .i64)) sheets0 false), .fn 72 [.ptr 1000000000 0], uu, uu, uu, uu, uu, uu, uu, uu, uu], hp := (upd emp 1000000000 (.box [.sl (.int .i64) cp_1_0 false])) }
theorem S71c72io01_eq (n : Nat × Nat) (sheets0 : List (Int × Int)) (cp_1_0 : List Int) : S71c72io01 n sheets0 cp_1_0 =
 (S88 n sheets0).bind fun r1' =>
 (S89f72io0001110 n [] 0 0 sheets0 cp_1_0 r1').bind fun r2' =>
 some ((), r2'.2.2.1, ()) := by kernel_rfl
theorem S71c72io01_run (n : Nat × Nat) (xs : qksDen pk71c72io01) : S71c72io01 n xs.1 xs.2.1.1 = runG (E71c72io01 n) noScope c71c72io01 an71c72io01 (rtIO rk71c72io01 (pk71c72io01.flatMap QK.ods)) (fun _ _ => none) (rtIO rk71c72io01 (pk71c72io01.flatMap QK.ods)) (st1 pk71c72io01 xs Try.f71.ntmps) := by kernel_rfl
noncomputable def P71c72io01 (n : Nat × Nat) := phioOf pk71c72io01 rk71c72io01 (pk71c72io01.flatMap QK.ods) (fun xs => S71c72io01 n xs.1 xs.2.1.1)
theorem call71 : CallOK Try.prog 71 := callOK_of Try.func71 (by kernel_rfl) (by kernel_rfl)
theorem env71c72io01 (n : Nat × Nat) : EnvOK Try.prog (E71c72io01 n) := envOK (l := io71c72io01 n) (consPhi_ok (FC88 n) call88 noPhi_ok) rfl rfl (by kernel_rfl) ⟨FC89f72io0001110 n, call89, trivial⟩
theorem par71c72io01 (n : Nat × Nat) : EnvPar (E71c72io01 n) := envPar (l := io71c72io01 n) (consPhi_par phiOf_Par1 noPhi_par) rfl ⟨phioOf_Pario1, trivial⟩
theorem FC71c72io01 (n : Nat × Nat) : FCios Try.prog 71 (pk71c72io01.map QK.flag) (P71c72io01 n) := phioOf_FCios fun xs r h vs hv => FCio.of_runG tabOK eqsOK (env71c72io01 n) (par71c72io01 n) mixed (fun _ => noScope_ok) Try.func71 (c := c71c72io01) (an := an71c72io01) (qks := pk71c72io01) (rks := rk71c72io01) (by kernel_rfl) (by kernel_rfl) hv ((S71c72io01_run n xs).symm.trans h)
abbrev R29 := List Int × Int
noncomputable def c29 : Code := bodyOf Try.f29
noncomputable def an29 : Ann := (.s .l (.s (.s .l (.s .l (.j [0] .l .l))) .l))
def pk29 : List PK := [.c (.sl (.pair (.int .i64) (.int .i64)))]
def rk29 : List RK := [.sl (.int .i64) 2, .c (.int .i64) 3]
noncomputable def rt29 (st : St) : Option R29 := rtG rk29 st
noncomputable def io29 (n : Nat × Nat) : List IoE := [⟨71, (isFns [none, some 72]), pk71c72io01.map QK.flag, P71c72io01 n⟩]
noncomputable def E29 (n : Nat × Nat) : Env := { T := tab, phi := (consPhi 25 (fun _ => true) (P25 n) noPhi), eff := fun _ => false, fuel := n.1, hold := n.2, phio := phioL (io29 n), iop := iopL (io29 n) }
noncomputable def S29 (n : Nat × Nat) (sheets0 : List (Int × Int)) : Option R29 := run (E29 n) c29 an29 rt29 (fun _ _ => none) rt29 { tm := [.c (.sl (.pair (.int .i64) (.int .i64)) sheets0 false), uu, uu, uu, uu, uu, uu, uu, uu, uu, uu, uu, uu, uu, uu], hp := emp }
theorem S29_eq (n : Nat × Nat) (sheets0 : List (Int × Int)) : S29 n sheets0 =
 (S25 n sheets0).bind fun r1' =>
 (bif (r1' != 0) then some ([], r1')
 else (S71c72io01 n sheets0 []).bind fun r2' =>
 some (r2'.2.1, 0)) := by kernel_rfl
theorem S29_run (n : Nat × Nat) (xs : pksDen pk29) : S29 n xs.1 = runG (E29 n) noScope c29 an29 (rtG rk29) (fun _ _ => none) (rtG rk29) (st0 pk29 xs Try.f29.ntmps) := by kernel_rfl
noncomputable def P29 (n : Nat × Nat) := phiOf pk29 rk29 (fun xs => S29 n xs.1)
theorem call29 : CallOK Try.prog 29 := callOK_of Try.func29 (by kernel_rfl) (by kernel_rfl)
theorem env29 (n : Nat × Nat) : EnvOK Try.prog (E29 n) := envOK (l := io29 n) (consPhi_ok (FC25 n) call25 noPhi_ok) rfl rfl (by kernel_rfl) ⟨FC71c72io01 n, call71, trivial⟩
theorem par29 (n : Nat × Nat) : EnvPar (E29 n) := envPar (l := io29 n) (consPhi_par phiOf_Par1 noPhi_par) rfl ⟨phioOf_Pario1, trivial⟩
theorem FC29 (n : Nat × Nat) : FCs Try.prog 29 (P29 n) := phiOf_FCs fun xs r h vs hv => FC.of_runG tabOK eqsOK (env29 n) (par29 n) mixed (fun _ => noScope_ok) Try.func29 (c := c29) (an := an29) (pks := pk29) (rks := rk29) (by kernel_rfl) (by kernel_rfl) hv ((S29_run n xs).symm.trans h)
abbrev R74io01 := (Bool) × Int × Unit
noncomputable def c74io01 : Code := bodyOf Try.f74
noncomputable def an74io01 : Ann := .l
def pk74io01 : List QK := [.pl (.c (.sl (.int .i64))), .ob (.int .i64)]
def rk74io01 : List RK := [.c .bool 3]
noncomputable def rt74io01 (st : St) : Option R74io01 := rtIO rk74io01 (pk74io01.flatMap QK.ods) st
noncomputable def E74io01 (n : Nat × Nat) : Env := { T := tab, phi := noPhi, eff := fun _ => false, fuel := n.1, hold := n.2 }
noncomputable def S74io01 (n : Nat × Nat) (v0 : List Int) (v1 : Int) : Option R74io01 := run (E74io01 n) c74io01 an74io01 rt74io01 (fun _ _ => none) rt74io01 { tm := [.c (.sl (.int .i64) v0 false), .ptr 1000000000 0, uu, uu, uu, uu], hp := (upd emp 1000000000 (.box [.int .i64 v1])) }
theorem S74io01_eq (n : Nat × Nat) (v0 : List Int) (v1 : Int) : S74io01 n v0 v1 =
 some (true, wr .i64 (v1 + 1), ()) := by kernel_rfl
theorem S74io01_run (n : Nat × Nat) (xs : qksDen pk74io01) : S74io01 n xs.1 xs.2.1 = runG (E74io01 n) noScope c74io01 an74io01 (rtIO rk74io01 (pk74io01.flatMap QK.ods)) (fun _ _ => none) (rtIO rk74io01 (pk74io01.flatMap QK.ods)) (st1 pk74io01 xs Try.f74.ntmps) := by kernel_rfl
noncomputable def P74io01 (n : Nat × Nat) := phioOf pk74io01 rk74io01 (pk74io01.flatMap QK.ods) (fun xs => S74io01 n xs.1 xs.2.1)
theorem call74 : CallOK Try.prog 74 := callOK_of Try.func74 (by kernel_rfl) (by kernel_rfl)
theorem env74io01 (n : Nat × Nat) : EnvOK Try.prog (E74io01 n) := envOK0 noPhi_ok rfl rfl
theorem par74io01 (n : Nat × Nat) : EnvPar (E74io01 n) := envPar0 noPhi_par rfl
theorem FC74io01 (n : Nat × Nat) : FCios Try.prog 74 (pk74io01.map QK.flag) (P74io01 n) := phioOf_FCios fun xs r h vs hv => FCio.of_runG tabOK eqsOK (env74io01 n) (par74io01 n) mixed (fun _ => noScope_ok) Try.func74 (c := c74io01) (an := an74io01) (qks := pk74io01) (rks := rk74io01) (by kernel_rfl) (by kernel_rfl) hv ((S74io01_run n xs).symm.trans h)
abbrev R89f74io0001110 := (Bool) × (List (Int × Int)) × Int × Int × Unit
noncomputable def c89f74io0001110 : Code := bodyOf Try.f89
noncomputable def an89f74io0001110 : Ann := (.s .l (.s (.s .l (.j [0, 1, 2, 3, 5, 6, 47, 48, 49, 50, 51, 52, 53, 54, 55, 56, 57, 58, 59, 60, 1000000000, 1000000001, 1000000002] .l .l)) (.s (.s .l (.j [1000000000, 1000000001, 1000000002] (.j [0, 1, 2, 5, 6, 23, 24, 25, 47, 48, 49, 50, 51, 52, 53, 54, 55, 56, 57, 58, 59, 60, 1000000000, 1000000001, 1000000002] (.s .l (.s (.j [0, 1, 2, 5, 6, 23, 24, 25, 47, 48, 49, 50, 51, 52, 53, 54, 55, 56, 57, 58, 59, 60, 1000000000, 1000000001, 1000000002] .l .l) (.j [] (.j [0, 1, 2, 5, 6, 23, 24, 25, 47, 48, 49, 50, 51, 52, 53, 54, 55, 56, 57, 58, 59, 60, 1000000000, 1000000001, 1000000002] (.s .l (.s (.s .l (.j [0, 1, 2, 5, 6, 11, 12, 23, 24, 25, 47, 48, 49, 50, 51, 52, 53, 54, 55, 56, 57, 58, 59, 60, 1000000000, 1000000001, 1000000002] .l .l)) (.s .l (.s .l (.s .l (.j [0, 1, 2, 5, 6, 23, 24, 25, 47, 48, 49, 50, 51, 52, 53, 54, 55, 56, 57, 58, 59, 60, 1000000000, 1000000001, 1000000002] .l .l)))))) .l) .l))) .l) .l)) .l)))
def pk89f74io0001110 : List QK := [.pl (.c (.sl (.int .i64))), .pl (.c (.int .i64)), .pl (.c (.int .i64)), .ob (.sl (.pair (.int .i64) (.int .i64))), .fp 74 [(.int .i64)], .ob (.int .i64), .sf 89 [.b 1000000000, .v 74 [1000000001], .b 1000000002, .s]]
def rk89f74io0001110 : List RK := [.c .bool 10]
noncomputable def rt89f74io0001110 (st : St) : Option R89f74io0001110 := rtIO rk89f74io0001110 (pk89f74io0001110.flatMap QK.ods) st
noncomputable def io89f74io0001110 (n : Nat × Nat) (SS : List Int → Int → Int → (List (Int × Int)) → Int → Int → Option R89f74io0001110) : List IoE := [⟨74, (fun _ => true), pk74io01.map QK.flag, P74io01 n⟩, ⟨89, (fun _ => true), pk89f74io0001110.map QK.flag, (phioOf pk89f74io0001110 rk89f74io0001110 (pk89f74io0001110.flatMap QK.ods) (fun xs => SS xs.1 xs.2.1 xs.2.2.1 xs.2.2.2.1 xs.2.2.2.2.1.1 xs.2.2.2.2.2.1))⟩]
noncomputable def E89f74io0001110 (n : Nat × Nat) (SS : List Int → Int → Int → (List (Int × Int)) → Int → Int → Option R89f74io0001110) : Env := { T := tab, phi := (consPhi 80 (fun _ => true) (P80 n) noPhi), eff := fun _ => false, fuel := n.1, hold := n.2, phio := phioL (io89f74io0001110 n SS), iop := iopL (io89f74io0001110 n SS) }
noncomputable def kq89f74io0001110_3 (n : Nat × Nat) (SS : List Int → Int → Int → (List (Int × Int)) → Int → Int → Option R89f74io0001110) : St → Option R89f74io0001110 := run (E89f74io0001110 n SS) (cB (cB (cB c89f74io0001110))) (Ann.snd (Ann.snd (Ann.snd an89f74io0001110))) rt89f74io0001110 (fun _ _ => none) rt89f74io0001110
noncomputable def xb89f74io0001110_5 (n : Nat × Nat) (SS : List Int → Int → Int → (List (Int × Int)) → Int → Int → Option R89f74io0001110) : Nat → St → Option R89f74io0001110 := fun j s => bif Nat.beq j 0 then normC [1000000000, 1000000001, 1000000002] s (kq89f74io0001110_3 n SS) else (fun _ _ => none) j s
noncomputable def F89f74io0001110_6 (n : Nat × Nat) (SS : List Int → Int → Int → (List (Int × Int)) → Int → Int → Option R89f74io0001110) : (St → Option R89f74io0001110) → St → Option R89f74io0001110 := fun K s => run (E89f74io0001110 n SS) (cA (cA (cB (cA (cB (cB c89f74io0001110)))))) (Ann.fst (Ann.fst (Ann.snd (Ann.fst (Ann.snd (Ann.snd an89f74io0001110)))))) (fun s => normC [0, 1, 2, 5, 6, 23, 24, 25, 47, 48, 49, 50, 51, 52, 53, 54, 55, 56, 57, 58, 59, 60, 1000000000, 1000000001, 1000000002] s K) (xb89f74io0001110_5 n SS) rt89f74io0001110 s
noncomputable def kq89f74io0001110_9 (n : Nat × Nat) (SS : List Int → Int → Int → (List (Int × Int)) → Int → Int → Option R89f74io0001110) (m1 : Nat) : St → Option R89f74io0001110 := run (E89f74io0001110 n SS) (cB (cB (cB (cA (cA (cB (cA (cB (cB c89f74io0001110))))))))) (Ann.snd (Ann.snd (Ann.snd (Ann.fst (Ann.fst (Ann.snd (Ann.fst (Ann.snd (Ann.snd an89f74io0001110))))))))) (fun s => normC [0, 1, 2, 5, 6, 23, 24, 25, 47, 48, 49, 50, 51, 52, 53, 54, 55, 56, 57, 58, 59, 60, 1000000000, 1000000001, 1000000002] s (loopN (F89f74io0001110_6 n SS) m1)) (xb89f74io0001110_5 n SS) rt89f74io0001110
noncomputable def L89f74io0001110_1 (n : Nat × Nat) (SS : List Int → Int → Int → (List (Int × Int)) → Int → Int → Option R89f74io0001110) (m : Nat) (order0 : List Int) (a1 : Int) (b2 : Int) (v23 : List (Int × Int)) (v24 : Int) (v25 : Int) (u2 : Int) (u0 : List (Int × Int)) (u1 : Int) : Option R89f74io0001110 := loopN (F89f74io0001110_6 n SS) m { tm := [.c (.sl (.int .i64) order0 false), .c (.int .i64 a1), .c (.int .i64 b2), uu, uu, .ptr 1000000002 0, .fptr 89 [.b 1000000000, .v 74 [1000000001], .b 1000000002, .s], uu, uu, uu, uu, uu, uu, uu, uu, uu, uu, uu, uu, uu, uu, uu, uu, .c (.sl (.pair (.int .i64) (.int .i64)) v23 false), .c (.int .i64 v24), .c (.int .i64 v25), uu, uu, uu, uu, uu, uu, uu, uu, uu, uu, uu, uu, uu, uu, uu, uu, uu, uu, uu, uu, uu, uu, uu, uu, uu, uu, uu, uu, uu, uu, uu, uu, uu, uu, uu, uu, uu], hp := (upd (upd (upd emp 1000000001 (.box [.int .i64 u1])) 1000000000 (.box [.sl (.pair (.int .i64) (.int .i64)) u0 false])) 1000000002 (.box [.int .i64 u2])) }
noncomputable def L89f74io0001110_2 (n : Nat × Nat) (SS : List Int → Int → Int → (List (Int × Int)) → Int → Int → Option R89f74io0001110) (m1 : Nat) (order0 : List Int) (a1 : Int) (b2 : Int) (v23 : List (Int × Int)) (v24 : Int) (v25 : Int) (u2 : Int) (u0 : List (Int × Int)) (u1 : Int) : Option R89f74io0001110 := loopN (fun _ => (kq89f74io0001110_9 n SS m1)) n.2 { tm := [.c (.sl (.int .i64) order0 false), .c (.int .i64 a1), .c (.int .i64 b2), uu, uu, .ptr 1000000002 0, .fptr 89 [.b 1000000000, .v 74 [1000000001], .b 1000000002, .s], uu, uu, uu, uu, uu, uu, uu, uu, uu, uu, uu, uu, uu, uu, uu, uu, .c (.sl (.pair (.int .i64) (.int .i64)) v23 false), .c (.int .i64 v24), .c (.int .i64 v25), uu, uu, uu, uu, uu, uu, uu, uu, uu, uu, uu, uu, uu, uu, uu, uu, uu, uu, uu, uu, uu, uu, uu, uu, uu, uu, uu, uu, uu, uu, uu, uu, uu, uu, uu, uu, uu], hp := (upd (upd (upd emp 1000000001 (.box [.int .i64 u1])) 1000000000 (.box [.sl (.pair (.int .i64) (.int .i64)) u0 false])) 1000000002 (.box [.int .i64 u2])) }
theorem L89f74io0001110_1_eq (n : Nat × Nat) (SS : List Int → Int → Int → (List (Int × Int)) → Int → Int → Option R89f74io0001110) (m1 : Nat) (order0 : List Int) (a1 : Int) (b2 : Int) (v23 : List (Int × Int)) (v24 : Int) (v25 : Int) (u2 : Int) (u0 : List (Int × Int)) (u1 : Int) : L89f74io0001110_1 n SS (m1 + 1) order0 a1 b2 v23 v24 v25 u2 u0 u1 =
 (bif decide (v25 < v24) then (idx v23 v25).bind fun x2' =>
 (S80 n order0 v25).bind fun r3' =>
 (bif r3' then L89f74io0001110_2 n SS m1 order0 a1 b2 v23 v24 v25 u2 u0 u1
 else (bif (decide (wr .i64 ((if b2 > (wr .i64 (a1 + x2'.1)) then b2 else (wr .i64 (a1 + x2'.1))) + x2'.2) ≤ u2) == true) then (bif ((order0.length : Int) == (order0.length : Int)) && bounds none (some (order0.length : Int)) (some (order0.length : Int)) order0.length then (bif decide ((order0.take (Int.toNat (order0.length : Int))).length + [v25].length ≤ lim) && ((order0.take (Int.toNat (order0.length : Int))).isEmpty || ![v25].isEmpty) then (SS ((order0.take (Int.toNat (order0.length : Int))) ++ [v25]) (wr .i64 (a1 + x2'.1)) (wr .i64 ((if b2 > (wr .i64 (a1 + x2'.1)) then b2 else (wr .i64 (a1 + x2'.1))) + x2'.2)) u0 u1 u2).bind fun r5' =>
 (bif (!r5'.1) then some (false, r5'.2.1, r5'.2.2.1, r5'.2.2.2.1, ())
 else L89f74io0001110_2 n SS m1 order0 a1 b2 v23 v24 v25 r5'.2.2.2.1 r5'.2.1 r5'.2.2.1)
 else none)
 else none)
 else (bif false then some (false, u0, u1, u2, ())
 else L89f74io0001110_2 n SS m1 order0 a1 b2 v23 v24 v25 u2 u0 u1)))
 else some (true, u0, u1, u2, ())) := by kernel_rfl
theorem L89f74io0001110_2_raw (n : Nat × Nat) (SS : List Int → Int → Int → (List (Int × Int)) → Int → Int → Option R89f74io0001110) (m1 : Nat) (order0 : List Int) (a1 : Int) (b2 : Int) (v23 : List (Int × Int)) (v24 : Int) (v25 : Int) (u2 : Int) (u0 : List (Int × Int)) (u1 : Int) : (kq89f74io0001110_9 n SS m1) { tm := [.c (.sl (.int .i64) order0 false), .c (.int .i64 a1), .c (.int .i64 b2), uu, uu, .ptr 1000000002 0, .fptr 89 [.b 1000000000, .v 74 [1000000001], .b 1000000002, .s], uu, uu, uu, uu, uu, uu, uu, uu, uu, uu, uu, uu, uu, uu, uu, uu, .c (.sl (.pair (.int .i64) (.int .i64)) v23 false), .c (.int .i64 v24), .c (.int .i64 v25), uu, uu, uu, uu, uu, uu, uu, uu, uu, uu, uu, uu, uu, uu, uu, uu, uu, uu, uu, uu, uu, uu, uu, uu, uu, uu, uu, uu, uu, uu, uu, uu, uu, uu, uu, uu, uu], hp := (upd (upd (upd emp 1000000001 (.box [.int .i64 u1])) 1000000000 (.box [.sl (.pair (.int .i64) (.int .i64)) u0 false])) 1000000002 (.box [.int .i64 u2])) } =
    L89f74io0001110_1 n SS m1 order0 a1 b2 v23 v24 (wr .i64 (v25 + 1)) u2 u0 u1 := by kernel_rfl
noncomputable def B89f74io0001110 (n : Nat × Nat) (SS : List Int → Int → Int → (List (Int × Int)) → Int → Int → Option R89f74io0001110) (order0 : List Int) (a1 : Int) (b2 : Int) (v3 : List (Int × Int)) (cp_4_0 : Int) (v5 : Int) : Option R89f74io0001110 := run (E89f74io0001110 n SS) c89f74io0001110 an89f74io0001110 rt89f74io0001110 (fun _ _ => none) rt89f74io0001110 { tm := [.c (.sl (.int .i64) order0 false), .c (.int .i64 a1), .c (.int .i64 b2), .ptr 1000000000 0, .fptr 74 [.b 1000000001], .ptr 1000000002 0, .fptr 89 [.b 1000000000, .v 74 [1000000001], .b 1000000002, .s], uu, uu, uu, uu, uu, uu, uu, uu, uu, uu, uu, uu, uu, uu, uu, uu, uu, uu, uu, uu, uu, uu, uu, uu, uu, uu, uu, uu, uu, uu, uu, uu, uu, uu, uu, uu, uu, uu, uu, uu, uu, uu, uu, uu, uu, uu, uu, uu, uu, uu, uu, uu, uu, uu, uu, uu], hp := (upd (upd (upd emp 1000000002 (.box [.int .i64 v5])) 1000000001 (.box [.int .i64 cp_4_0])) 1000000000 (.box [.sl (.pair (.int .i64) (.int .i64)) v3 false])) }
theorem B89f74io0001110_eq (n : Nat × Nat) (SS : List Int → Int → Int → (List (Int × Int)) → Int → Int → Option R89f74io0001110) (order0 : List Int) (a1 : Int) (b2 : Int) (v3 : List (Int × Int)) (cp_4_0 : Int) (v5 : Int) : B89f74io0001110 n SS order0 a1 b2 v3 cp_4_0 v5 =
 (bif ((order0.length : Int) == (v3.length : Int)) then (S74io01 n order0 cp_4_0).bind fun r1' =>
 some (r1'.1, v3, r1'.2.1, v5, ())
 else L89f74io0001110_1 n SS n.1 order0 a1 b2 v3 (v3.length : Int) 0 v5 v3 cp_4_0) := by kernel_rfl
noncomputable def T89f74io0001110 (n : Nat × Nat) : Nat → List Int → Int → Int → (List (Int × Int)) → Int → Int → Option R89f74io0001110
  | 0 => fun _ _ _ _ _ _ => none
  | d + 1 => B89f74io0001110 n (T89f74io0001110 n d)
theorem T89f74io0001110_eq (n : Nat × Nat) (d : Nat) (order0 : List Int) (a1 : Int) (b2 : Int) (v3 : List (Int × Int)) (cp_4_0 : Int) (v5 : Int) : T89f74io0001110 n (d + 1) order0 a1 b2 v3 cp_4_0 v5 = B89f74io0001110 n (T89f74io0001110 n d) order0 a1 b2 v3 cp_4_0 v5 := rfl
noncomputable def S89f74io0001110 (n : Nat × Nat) (order0 : List Int) (a1 : Int) (b2 : Int) (v3 : List (Int × Int)) (cp_4_0 : Int) (v5 : Int) : Option R89f74io0001110 := T89f74io0001110 n n.1 order0 a1 b2 v3 cp_4_0 v5
theorem B89f74io0001110_run (n : Nat × Nat) (SS : List Int → Int → Int → (List (Int × Int)) → Int → Int → Option R89f74io0001110) (xs : qksDen pk89f74io0001110) : B89f74io0001110 n SS xs.1 xs.2.1 xs.2.2.1 xs.2.2.2.1 xs.2.2.2.2.1.1 xs.2.2.2.2.2.1 = runG (E89f74io0001110 n SS) noScope c89f74io0001110 an89f74io0001110 (rtIO rk89f74io0001110 (pk89f74io0001110.flatMap QK.ods)) (fun _ _ => none) (rtIO rk89f74io0001110 (pk89f74io0001110.flatMap QK.ods)) (st1 pk89f74io0001110 xs Try.f89.ntmps) := by kernel_rfl
noncomputable def P89f74io0001110 (n : Nat × Nat) := phioOf pk89f74io0001110 rk89f74io0001110 (pk89f74io0001110.flatMap QK.ods) (fun xs => S89f74io0001110 n xs.1 xs.2.1 xs.2.2.1 xs.2.2.2.1 xs.2.2.2.2.1.1 xs.2.2.2.2.2.1)
theorem env89f74io0001110 (n : Nat × Nat) (SS : List Int → Int → Int → (List (Int × Int)) → Int → Int → Option R89f74io0001110) (hSS : FCios Try.prog 89 (pk89f74io0001110.map QK.flag) (phioOf pk89f74io0001110 rk89f74io0001110 (pk89f74io0001110.flatMap QK.ods) (fun xs => SS xs.1 xs.2.1 xs.2.2.1 xs.2.2.2.1 xs.2.2.2.2.1.1 xs.2.2.2.2.2.1))) : EnvOK Try.prog (E89f74io0001110 n SS) := envOK (l := io89f74io0001110 n SS) (consPhi_ok (FC80 n) call80 noPhi_ok) rfl rfl (by kernel_rfl) ⟨FC74io01 n, call74, hSS, call89, trivial⟩
theorem par89f74io0001110 (n : Nat × Nat) (SS : List Int → Int → Int → (List (Int × Int)) → Int → Int → Option R89f74io0001110) : EnvPar (E89f74io0001110 n SS) := envPar (l := io89f74io0001110 n SS) (consPhi_par phiOf_Par1 noPhi_par) rfl ⟨phioOf_Pario1, phioOf_Pario1, trivial⟩
theorem FCT89f74io0001110 (n : Nat × Nat) : ∀ d : Nat, FCios Try.prog 89 (pk89f74io0001110.map QK.flag) (phioOf pk89f74io0001110 rk89f74io0001110 (pk89f74io0001110.flatMap QK.ods) (fun xs => T89f74io0001110 n d xs.1 xs.2.1 xs.2.2.1 xs.2.2.2.1 xs.2.2.2.2.1.1 xs.2.2.2.2.2.1))
  | 0 => phioOf_FCios fun xs r h => by cases h
  | d + 1 => phioOf_FCios fun xs r h vs hv => FCio.of_runG tabOK eqsOK (env89f74io0001110 n (T89f74io0001110 n d) (FCT89f74io0001110 n d)) (par89f74io0001110 n (T89f74io0001110 n d)) mixed (fun _ => noScope_ok) Try.func89 (c := c89f74io0001110) (an := an89f74io0001110) (qks := pk89f74io0001110) (rks := rk89f74io0001110) (by kernel_rfl) (by kernel_rfl) hv ((B89f74io0001110_run n (T89f74io0001110 n d) xs).symm.trans h)
theorem FC89f74io0001110 (n : Nat × Nat) : FCios Try.prog 89 (pk89f74io0001110.map QK.flag) (P89f74io0001110 n) := FCT89f74io0001110 n n.1
abbrev R71c74io01 := (Unit) × Int × Unit
noncomputable def c71c74io01 : Code := bodyOf Try.f71
noncomputable def an71c74io01 : Ann := .l
def pk71c74io01 : List QK := [.pl (.c (.sl (.pair (.int .i64) (.int .i64)))), .of 74 [(.int .i64)]]
def rk71c74io01 : List RK := []
noncomputable def rt71c74io01 (st : St) : Option R71c74io01 := rtIO rk71c74io01 (pk71c74io01.flatMap QK.ods) st
noncomputable def io71c74io01 (n : Nat × Nat) : List IoE := [⟨89, (fun _ => true), pk89f74io0001110.map QK.flag, P89f74io0001110 n⟩]
noncomputable def E71c74io01 (n : Nat × Nat) : Env := { T := tab, phi := (consPhi 88 (fun _ => true) (P88 n) noPhi), eff := fun _ => false, fuel := n.1, hold := n.2, phio := phioL (io71c74io01 n), iop := iopL (io71c74io01 n) }
noncomputable def S71c74io01 (n : Nat × Nat) (sheets0 : List (Int × Int)) (cp_1_0 : Int) : Option R71c74io01 := run (E71c74io01 n) c71c74io01 an71c74io01 rt71c74io01 (fun _ _ => none) rt71c74io01 { tm := [.c (.sl (.pair (.int .i64) (.int .i64)) sheets0 false), .fn 74 [.ptr 1000000000 0], uu, uu, uu, uu, uu, uu, uu, uu, uu], hp := (upd emp 1000000000 (.box [.int .i64 cp_1_0])) }
theorem S71c74io01_eq (n : Nat × Nat) (sheets0 : List (Int × Int)) (cp_1_0 : Int) : S71c74io01 n sheets0 cp_1_0 =
 (S88 n sheets0).bind fun r1' =>
 (S89f74io0001110 n [] 0 0 sheets0 cp_1_0 r1').bind fun r2' =>
 some ((), r2'.2.2.1, ()) := by kernel_rfl
theorem S71c74io01_run (n : Nat × Nat) (xs : qksDen pk71c74io01) : S71c74io01 n xs.1 xs.2.1.1 = runG (E71c74io01 n) noScope c71c74io01 an71c74io01 (rtIO rk71c74io01 (pk71c74io01.flatMap QK.ods)) (fun _ _ => none) (rtIO rk71c74io01 (pk71c74io01.flatMap QK.ods)) (st1 pk71c74io01 xs Try.f71.ntmps) := by kernel_rfl
noncomputable def P71c74io01 (n : Nat × Nat) := phioOf pk71c74io01 rk71c74io01 (pk71c74io01.flatMap QK.ods) (fun xs => S71c74io01 n xs.1 xs.2.1.1)
theorem env71c74io01 (n : Nat × Nat) : EnvOK Try.prog (E71c74io01 n) := envOK (l := io71c74io01 n) (consPhi_ok (FC88 n) call88 noPhi_ok) rfl rfl (by kernel_rfl) ⟨FC89f74io0001110 n, call89, trivial⟩
theorem par71c74io01 (n : Nat × Nat) : EnvPar (E71c74io01 n) := envPar (l := io71c74io01 n) (consPhi_par phiOf_Par1 noPhi_par) rfl ⟨phioOf_Pario1, trivial⟩
theorem FC71c74io01 (n : Nat × Nat) : FCios Try.prog 71 (pk71c74io01.map QK.flag) (P71c74io01 n) := phioOf_FCios fun xs r h vs hv => FCio.of_runG tabOK eqsOK (env71c74io01 n) (par71c74io01 n) mixed (fun _ => noScope_ok) Try.func71 (c := c71c74io01) (an := an71c74io01) (qks := pk71c74io01) (rks := rk71c74io01) (by kernel_rfl) (by kernel_rfl) hv ((S71c74io01_run n xs).symm.trans h)
abbrev R31 := Int × Int
noncomputable def c31 : Code := bodyOf Try.f31
noncomputable def an31 : Ann := (.s .l (.s (.s .l (.s .l (.j [0] .l .l))) .l))
def pk31 : List PK := [.c (.sl (.pair (.int .i64) (.int .i64)))]
def rk31 : List RK := [.c (.int .i64) 2, .c (.int .i64) 3]
noncomputable def rt31 (st : St) : Option R31 := rtG rk31 st
noncomputable def io31 (n : Nat × Nat) : List IoE := [⟨71, (isFns [none, some 74]), pk71c74io01.map QK.flag, P71c74io01 n⟩]
noncomputable def E31 (n : Nat × Nat) : Env := { T := tab, phi := (consPhi 25 (fun _ => true) (P25 n) noPhi), eff := fun _ => false, fuel := n.1, hold := n.2, phio := phioL (io31 n), iop := iopL (io31 n) }
noncomputable def S31 (n : Nat × Nat) (sheets0 : List (Int × Int)) : Option R31 := run (E31 n) c31 an31 rt31 (fun _ _ => none) rt31 { tm := [.c (.sl (.pair (.int .i64) (.int .i64)) sheets0 false), uu, uu, uu, uu, uu, uu, uu, uu, uu, uu, uu, uu, uu, uu], hp := emp }
theorem S31_eq (n : Nat × Nat) (sheets0 : List (Int × Int)) : S31 n sheets0 =
 (S25 n sheets0).bind fun r1' =>
 (bif (r1' != 0) then some (0, r1')
 else (S71c74io01 n sheets0 0).bind fun r2' =>
 some (r2'.2.1, 0)) := by kernel_rfl
theorem S31_run (n : Nat × Nat) (xs : pksDen pk31) : S31 n xs.1 = runG (E31 n) noScope c31 an31 (rtG rk31) (fun _ _ => none) (rtG rk31) (st0 pk31 xs Try.f31.ntmps) := by kernel_rfl
noncomputable def P31 (n : Nat × Nat) := phiOf pk31 rk31 (fun xs => S31 n xs.1)
theorem call31 : CallOK Try.prog 31 := callOK_of Try.func31 (by kernel_rfl) (by kernel_rfl)
theorem env31 (n : Nat × Nat) : EnvOK Try.prog (E31 n) := envOK (l := io31 n) (consPhi_ok (FC25 n) call25 noPhi_ok) rfl rfl (by kernel_rfl) ⟨FC71c74io01 n, call71, trivial⟩
theorem par31 (n : Nat × Nat) : EnvPar (E31 n) := envPar (l := io31 n) (consPhi_par phiOf_Par1 noPhi_par) rfl ⟨phioOf_Pario1, trivial⟩
theorem FC31 (n : Nat × Nat) : FCs Try.prog 31 (P31 n) := phiOf_FCs fun xs r h vs hv => FC.of_runG tabOK eqsOK (env31 n) (par31 n) mixed (fun _ => noScope_ok) Try.func31 (c := c31) (an := an31) (pks := pk31) (rks := rk31) (by kernel_rfl) (by kernel_rfl) hv ((S31_run n xs).symm.trans h)
abbrev R33 := Bool × Int
noncomputable def c33 : Code := bodyOf Try.f33
noncomputable def an33 : Ann := (.s .l (.s (.s .l (.j [0, 1, 2] (.s .l (.j [0, 1, 2] .l (.s .l (.j [0, 1, 2] .l .l)))) .l)) .l))
def pk33 : List PK := [.c (.sl (.pair (.int .i64) (.int .i64))), .c (.int .i64), .c (.int .i64)]
def rk33 : List RK := [.c .bool 6, .c (.int .i64) 7]
noncomputable def rt33 (st : St) : Option R33 := rtG rk33 st
noncomputable def E33 (n : Nat × Nat) : Env := { T := tab, phi := (consPhi 25 (fun _ => true) (P25 n) noPhi), eff := fun _ => false, fuel := n.1, hold := n.2 }
noncomputable def S33 (n : Nat × Nat) (sheets0 : List (Int × Int)) (i1 : Int) (j2 : Int) : Option R33 := run (E33 n) c33 an33 rt33 (fun _ _ => none) rt33 { tm := [.c (.sl (.pair (.int .i64) (.int .i64)) sheets0 false), .c (.int .i64 i1), .c (.int .i64 j2), uu, uu, uu, uu, uu, uu, uu, uu, uu, uu, uu, uu, uu, uu, uu, uu, uu, uu, uu, uu, uu, uu, uu, uu, uu, uu, uu, uu, uu, uu, uu, uu, uu, uu, uu, uu, uu, uu, uu, uu, uu, uu, uu, uu, uu, uu], hp := emp }
theorem S33_eq (n : Nat × Nat) (sheets0 : List (Int × Int)) (i1 : Int) (j2 : Int) : S33 n sheets0 i1 j2 =
 (S25 n sheets0).bind fun r1' =>
 (bif (r1' != 0) then some (false, r1')
 else ((bif (decide ((if j2 < i1 then j2 else i1) < 0) == false) then some (decide ((if j2 > i1 then j2 else i1) ≥ (sheets0.length : Int)))
 else some true)).bind fun b2' =>
 (bif b2' then some (false, 2)
 else (idx sheets0 i1).bind fun x3' =>
 (idx sheets0 j2).bind fun x4' =>
 some (decide ((if x4'.2 < x3'.1 then x4'.2 else x3'.1) ≤ (if x3'.2 < x4'.1 then x3'.2 else x4'.1)), 0))) := by kernel_rfl
theorem S33_run (n : Nat × Nat) (xs : pksDen pk33) : S33 n xs.1 xs.2.1 xs.2.2.1 = runG (E33 n) noScope c33 an33 (rtG rk33) (fun _ _ => none) (rtG rk33) (st0 pk33 xs Try.f33.ntmps) := by kernel_rfl
noncomputable def P33 (n : Nat × Nat) := phiOf pk33 rk33 (fun xs => S33 n xs.1 xs.2.1 xs.2.2.1)
theorem call33 : CallOK Try.prog 33 := callOK_of Try.func33 (by kernel_rfl) (by kernel_rfl)
theorem env33 (n : Nat × Nat) : EnvOK Try.prog (E33 n) := envOK0 (consPhi_ok (FC25 n) call25 noPhi_ok) rfl rfl
theorem par33 (n : Nat × Nat) : EnvPar (E33 n) := envPar0 (consPhi_par phiOf_Par1 noPhi_par) rfl
theorem FC33 (n : Nat × Nat) : FCs Try.prog 33 (P33 n) := phiOf_FCs fun xs r h vs hv => FC.of_runG tabOK eqsOK (env33 n) (par33 n) mixed (fun _ => noScope_ok) Try.func33 (c := c33) (an := an33) (pks := pk33) (rks := rk33) (by kernel_rfl) (by kernel_rfl) hv ((S33_run n xs).symm.trans h)
abbrev R75 := Int
noncomputable def c75 : Code := bodyOf Try.f75
noncomputable def an75 : Ann := (.s .l (.s .l (.s .l (.s (.s .l (.j [9] (.j [2, 7, 8, 9, 23, 24, 25] (.s .l (.s (.j [2, 7, 8, 9, 23, 24, 25] .l .l) (.j [] (.j [2, 7, 8, 9, 23, 24, 25] (.s .l (.s .l (.j [2, 7, 8, 9, 23, 24, 25] .l .l))) .l) .l))) .l) .l)) .l))))
def pk75 : List PK := [.c (.sl (.pair (.int .i64) (.int .i64))), .c (.int .i64), .c (.int .i64)]
def rk75 : List RK := [.c (.int .i64) 6]
noncomputable def rt75 (st : St) : Option R75 := rtG rk75 st
noncomputable def E75 (n : Nat × Nat) : Env := { T := tab, phi := (consPhi 64 (fun _ => true) (P64 n) noPhi), eff := fun _ => false, fuel := n.1, hold := n.2 }
noncomputable def kq75_1 (n : Nat × Nat) : St → Option R75 := run (E75 n) (cB (cB (cB (cB c75)))) (Ann.snd (Ann.snd (Ann.snd (Ann.snd an75)))) rt75 (fun _ _ => none) rt75
noncomputable def xb75_3 (n : Nat × Nat) : Nat → St → Option R75 := fun j s => bif Nat.beq j 0 then normC [9] s (kq75_1 n) else (fun _ _ => none) j s
noncomputable def F75_4 (n : Nat × Nat) : (St → Option R75) → St → Option R75 := fun K s => run (E75 n) (cA (cA (cB (cA (cB (cB (cB c75))))))) (Ann.fst (Ann.fst (Ann.snd (Ann.fst (Ann.snd (Ann.snd (Ann.snd an75))))))) (fun s => normC [2, 7, 8, 9, 23, 24, 25] s K) (xb75_3 n) rt75 s
noncomputable def kq75_7 (n : Nat × Nat) (m1 : Nat) : St → Option R75 := run (E75 n) (cB (cB (cB (cA (cA (cB (cA (cB (cB (cB c75)))))))))) (Ann.snd (Ann.snd (Ann.snd (Ann.fst (Ann.fst (Ann.snd (Ann.fst (Ann.snd (Ann.snd (Ann.snd an75)))))))))) (fun s => normC [2, 7, 8, 9, 23, 24, 25] s (loopN (F75_4 n) m1)) (xb75_3 n) rt75
noncomputable def L75_1 (n : Nat × Nat) (m : Nat) (k2 : Int) (v9 : Int) (v24 : Int) (v25 : Int) (own7 : List Int) (other8 : List Int) : Option R75 := loopN (F75_4 n) m { tm := [uu, uu, .c (.int .i64 k2), uu, uu, uu, uu, .own 7 none false, .own 8 none false, .c (.int .i64 v9), uu, uu, uu, uu, uu, uu, uu, uu, uu, uu, uu, uu, uu, .own 7 none false, .c (.int .i64 v24), .c (.int .i64 v25), uu, uu, uu, uu, uu, uu, uu, uu, uu, uu, uu, uu, uu, uu, uu, uu, uu, uu, uu, uu, uu, uu, uu, uu, uu, uu], hp := (upd (upd emp 8 (.arr (.int .i64) other8 false)) 7 (.arr (.int .i64) own7 false)) }
noncomputable def L75_2 (n : Nat × Nat) (m1 : Nat) (k2 : Int) (v9 : Int) (v24 : Int) (v25 : Int) (own7 : List Int) (other8 : List Int) : Option R75 := loopN (fun _ => (kq75_7 n m1)) n.2 { tm := [uu, uu, .c (.int .i64 k2), uu, uu, uu, uu, .own 7 none false, .own 8 none false, .c (.int .i64 v9), uu, uu, uu, uu, uu, uu, uu, uu, uu, uu, uu, uu, uu, .own 7 none false, .c (.int .i64 v24), .c (.int .i64 v25), uu, uu, uu, uu, uu, uu, uu, uu, uu, uu, uu, uu, uu, uu, uu, uu, uu, uu, uu, uu, uu, uu, uu, uu, uu, uu], hp := (upd (upd emp 8 (.arr (.int .i64) other8 false)) 7 (.arr (.int .i64) own7 false)) }
theorem L75_1_eq (n : Nat × Nat) (m1 : Nat) (k2 : Int) (v9 : Int) (v24 : Int) (v25 : Int) (own7 : List Int) (other8 : List Int) : L75_1 n (m1 + 1) k2 v9 v24 v25 own7 other8 =
 (bif decide (v25 < v24) then (bif inB v25 own7.length then (idx own7 v25).bind fun x4' =>
 (bif inB k2 own7.length then (idx own7 k2).bind fun x5' =>
 (bif decide (x4' < x5') then (bif inB v25 other8.length then (idx other8 v25).bind fun x6' =>
              L75_2 n m1 k2 (wr .i64 (v9 + (if x6' < x4' then x6' else x4'))) v24 v25 own7 other8
 else none)
 else (bif inB v25 other8.length then (idx other8 v25).bind fun x7' =>
              L75_2 n m1 k2 (wr .i64 (v9 + x7')) v24 v25 own7 other8
 else none))
 else none)
 else none)
 else some v9) := by kernel_rfl
theorem L75_2_raw (n : Nat × Nat) (m1 : Nat) (k2 : Int) (v9 : Int) (v24 : Int) (v25 : Int) (own7 : List Int) (other8 : List Int) : (kq75_7 n m1) { tm := [uu, uu, .c (.int .i64 k2), uu, uu, uu, uu, .own 7 none false, .own 8 none false, .c (.int .i64 v9), uu, uu, uu, uu, uu, uu, uu, uu, uu, uu, uu, uu, uu, .own 7 none false, .c (.int .i64 v24), .c (.int .i64 v25), uu, uu, uu, uu, uu, uu, uu, uu, uu, uu, uu, uu, uu, uu, uu, uu, uu, uu, uu, uu, uu, uu, uu, uu, uu, uu], hp := (upd (upd emp 8 (.arr (.int .i64) other8 false)) 7 (.arr (.int .i64) own7 false)) } =
    L75_1 n m1 k2 v9 v24 (wr .i64 (v25 + 1)) own7 other8 := by kernel_rfl
noncomputable def S75 (n : Nat × Nat) (sheets0 : List (Int × Int)) (machine1 : Int) (k2 : Int) : Option R75 := run (E75 n) c75 an75 rt75 (fun _ _ => none) rt75 { tm := [.c (.sl (.pair (.int .i64) (.int .i64)) sheets0 false), .c (.int .i64 machine1), .c (.int .i64 k2), uu, uu, uu, uu, uu, uu, uu, uu, uu, uu, uu, uu, uu, uu, uu, uu, uu, uu, uu, uu, uu, uu, uu, uu, uu, uu, uu, uu, uu, uu, uu, uu, uu, uu, uu, uu, uu, uu, uu, uu, uu, uu, uu, uu, uu, uu, uu, uu, uu], hp := emp }
theorem S75_eq (n : Nat × Nat) (sheets0 : List (Int × Int)) (machine1 : Int) (k2 : Int) : S75 n sheets0 machine1 k2 =
 (S64 n sheets0 machine1).bind fun r1' =>
 (S64 n sheets0 (wr .i64 (1 - machine1))).bind fun r2' =>
 (bif inB k2 r1'.length then (idx r1' k2).bind fun x3' =>
      L75_1 n n.1 k2 x3' (r1'.length : Int) 0 r1' r2'
 else none) := by kernel_rfl
theorem S75_run (n : Nat × Nat) (xs : pksDen pk75) : S75 n xs.1 xs.2.1 xs.2.2.1 = runG (E75 n) noScope c75 an75 (rtG rk75) (fun _ _ => none) (rtG rk75) (st0 pk75 xs Try.f75.ntmps) := by kernel_rfl
noncomputable def P75 (n : Nat × Nat) := phiOf pk75 rk75 (fun xs => S75 n xs.1 xs.2.1 xs.2.2.1)
theorem call75 : CallOK Try.prog 75 := callOK_of Try.func75 (by kernel_rfl) (by kernel_rfl)
theorem env75 (n : Nat × Nat) : EnvOK Try.prog (E75 n) := envOK0 (consPhi_ok (FC64 n) call64 noPhi_ok) rfl rfl
theorem par75 (n : Nat × Nat) : EnvPar (E75 n) := envPar0 (consPhi_par phiOf_Par1 noPhi_par) rfl
theorem FC75 (n : Nat × Nat) : FCs Try.prog 75 (P75 n) := phiOf_FCs fun xs r h vs hv => FC.of_runG tabOK eqsOK (env75 n) (par75 n) mixed (fun _ => noScope_ok) Try.func75 (c := c75) (an := an75) (pks := pk75) (rks := rk75) (by kernel_rfl) (by kernel_rfl) hv ((S75_run n xs).symm.trans h)
abbrev R35 := Int × Int
noncomputable def c35 : Code := bodyOf Try.f35
noncomputable def an35 : Ann := (.s .l (.s (.s .l (.j [0, 1, 2] (.s .l (.j [0, 1, 2] .l (.s .l (.j [0, 1, 2] .l .l)))) .l)) .l))
def pk35 : List PK := [.c (.sl (.pair (.int .i64) (.int .i64))), .c (.int .i64), .c (.int .i64)]
def rk35 : List RK := [.c (.int .i64) 6, .c (.int .i64) 7]
noncomputable def rt35 (st : St) : Option R35 := rtG rk35 st
noncomputable def E35 (n : Nat × Nat) : Env := { T := tab, phi := (consPhi 25 (fun _ => true) (P25 n) (consPhi 75 (fun _ => true) (P75 n) noPhi)), eff := fun _ => false, fuel := n.1, hold := n.2 }
noncomputable def S35 (n : Nat × Nat) (sheets0 : List (Int × Int)) (machine1 : Int) (k2 : Int) : Option R35 := run (E35 n) c35 an35 rt35 (fun _ _ => none) rt35 { tm := [.c (.sl (.pair (.int .i64) (.int .i64)) sheets0 false), .c (.int .i64 machine1), .c (.int .i64 k2), uu, uu, uu, uu, uu, uu, uu, uu, uu, uu, uu, uu, uu, uu, uu, uu, uu, uu, uu, uu, uu, uu, uu, uu, uu, uu, uu, uu, uu, uu, uu, uu, uu], hp := emp }
theorem S35_eq (n : Nat × Nat) (sheets0 : List (Int × Int)) (machine1 : Int) (k2 : Int) : S35 n sheets0 machine1 k2 =
 (S25 n sheets0).bind fun r1' =>
 (bif (r1' != 0) then some (0, r1')
 else ((bif (decide (machine1 < 0) == false) then some (decide (machine1 > 1))
 else some true)).bind fun b2' =>
 ((bif (b2' == false) then some (decide (k2 < 0))
 else some true)).bind fun b3' =>
 ((bif (b3' == false) then some (decide (k2 ≥ (sheets0.length : Int)))
 else some true)).bind fun b4' =>
 (bif b4' then some (0, 2)
 else (S75 n sheets0 machine1 k2).bind fun r5' =>
 some (r5', 0))) := by kernel_rfl
theorem S35_run (n : Nat × Nat) (xs : pksDen pk35) : S35 n xs.1 xs.2.1 xs.2.2.1 = runG (E35 n) noScope c35 an35 (rtG rk35) (fun _ _ => none) (rtG rk35) (st0 pk35 xs Try.f35.ntmps) := by kernel_rfl
noncomputable def P35 (n : Nat × Nat) := phiOf pk35 rk35 (fun xs => S35 n xs.1 xs.2.1 xs.2.2.1)
theorem call35 : CallOK Try.prog 35 := callOK_of Try.func35 (by kernel_rfl) (by kernel_rfl)
theorem env35 (n : Nat × Nat) : EnvOK Try.prog (E35 n) := envOK0 (consPhi_ok (FC25 n) call25 (consPhi_ok (FC75 n) call75 noPhi_ok)) rfl rfl
theorem par35 (n : Nat × Nat) : EnvPar (E35 n) := envPar0 (consPhi_par phiOf_Par1 (consPhi_par phiOf_Par1 noPhi_par)) rfl
theorem FC35 (n : Nat × Nat) : FCs Try.prog 35 (P35 n) := phiOf_FCs fun xs r h vs hv => FC.of_runG tabOK eqsOK (env35 n) (par35 n) mixed (fun _ => noScope_ok) Try.func35 (c := c35) (an := an35) (pks := pk35) (rks := rk35) (by kernel_rfl) (by kernel_rfl) hv ((S35_run n xs).symm.trans h)
abbrev R37 := Int × Int × Int
noncomputable def c37 : Code := bodyOf Try.f37
noncomputable def an37 : Ann := (.s .l (.s (.s .l (.s .l (.j [0, 2, 3] .l .l))) (.s .l (.s (.s .l (.j [2, 3] (.j [0, 2, 3, 6, 15] (.s .l (.s (.j [0, 2, 3, 6, 15] .l .l) (.s (.j [0, 2, 3, 6, 15] (.s .l (.s .l (.j [0, 2, 3, 6, 15] (.j [0, 2, 3, 6, 7, 15, 19, 20] (.s .l (.s (.j [0, 2, 3, 6, 7, 15, 19, 20] .l .l) (.j [] (.j [0, 2, 3, 6, 7, 15, 19, 20] (.s .l (.s .l (.s .l (.j [0, 2, 3, 6, 7, 15, 19, 20] .l .l)))) .l) .l))) .l) .l))) .l) .l))) .l) .l)) .l))))
def pk37 : List PK := [.c (.sl (.pair (.int .i64) (.int .i64)))]
def rk37 : List RK := [.c (.int .i64) 2, .c (.int .i64) 3, .c (.int .i64) 4]
noncomputable def rt37 (st : St) : Option R37 := rtG rk37 st
noncomputable def E37 (n : Nat × Nat) : Env := { T := tab, phi := (consPhi 25 (fun _ => true) (P25 n) (consPhi 75 (fun _ => true) (P75 n) noPhi)), eff := fun _ => false, fuel := n.1, hold := n.2 }
noncomputable def kq37_3 (n : Nat × Nat) : St → Option R37 := run (E37 n) (cB (cB (cB (cB c37)))) (Ann.snd (Ann.snd (Ann.snd (Ann.snd an37)))) rt37 (fun _ _ => none) rt37
noncomputable def xb37_5 (n : Nat × Nat) : Nat → St → Option R37 := fun j s => bif Nat.beq j 0 then normC [2, 3] s (kq37_3 n) else (fun _ _ => none) j s
noncomputable def F37_6 (n : Nat × Nat) : (St → Option R37) → St → Option R37 := fun K s => run (E37 n) (cA (cA (cB (cA (cB (cB (cB c37))))))) (Ann.fst (Ann.fst (Ann.snd (Ann.fst (Ann.snd (Ann.snd (Ann.snd an37))))))) (fun s => normC [0, 2, 3, 6, 15] s K) (xb37_5 n) rt37 s
noncomputable def kq37_9 (n : Nat × Nat) (m1 : Nat) : St → Option R37 := run (E37 n) (cB (cB (cB (cA (cA (cB (cA (cB (cB (cB c37)))))))))) (Ann.snd (Ann.snd (Ann.snd (Ann.fst (Ann.fst (Ann.snd (Ann.fst (Ann.snd (Ann.snd (Ann.snd an37)))))))))) (fun s => normC [0, 2, 3, 6, 15] s (loopN (F37_6 n) m1)) (xb37_5 n) rt37
noncomputable def kc37_10 (n : Nat × Nat) (m1 : Nat) : St → Option R37 := fun s => normC [0, 2, 3, 6, 15] s (kq37_9 n m1)
noncomputable def xb37_11 (n : Nat × Nat) (m1 : Nat) : Nat → St → Option R37 := fun j s => bif Nat.beq j 1 then normC [0, 2, 3, 6, 15] s (kq37_9 n m1) else (xb37_5 n) j s
noncomputable def xb37_13 (n : Nat × Nat) (m1 : Nat) : Nat → St → Option R37 := fun j s => bif Nat.beq j 2 then normC [0, 2, 3, 6, 15] s (kc37_10 n m1) else (xb37_11 n m1) j s
noncomputable def F37_14 (n : Nat × Nat) (m1 : Nat) : (St → Option R37) → St → Option R37 := fun K s => run (E37 n) (cA (cA (cB (cB (cA (cA (cB (cB (cA (cA (cB (cA (cB (cB (cB c37))))))))))))))) (Ann.fst (Ann.fst (Ann.snd (Ann.snd (Ann.fst (Ann.fst (Ann.snd (Ann.snd (Ann.fst (Ann.fst (Ann.snd (Ann.fst (Ann.snd (Ann.snd (Ann.snd an37))))))))))))))) (fun s => normC [0, 2, 3, 6, 7, 15, 19, 20] s K) (xb37_13 n m1) rt37 s
noncomputable def kq37_17 (n : Nat × Nat) (m1 m2 : Nat) : St → Option R37 := run (E37 n) (cB (cB (cB (cA (cA (cB (cB (cA (cA (cB (cB (cA (cA (cB (cA (cB (cB (cB c37)))))))))))))))))) (Ann.snd (Ann.snd (Ann.snd (Ann.fst (Ann.fst (Ann.snd (Ann.snd (Ann.fst (Ann.fst (Ann.snd (Ann.snd (Ann.fst (Ann.fst (Ann.snd (Ann.fst (Ann.snd (Ann.snd (Ann.snd an37)))))))))))))))))) (fun s => normC [0, 2, 3, 6, 7, 15, 19, 20] s (loopN (F37_14 n m1) m2)) (xb37_13 n m1) rt37
noncomputable def L37_1 (n : Nat × Nat) (m : Nat) (sheets0 : List (Int × Int)) (machine2 : Int) (k3 : Int) (best6 : Int) (v15 : Int) : Option R37 := loopN (F37_6 n) m { tm := [.c (.sl (.pair (.int .i64) (.int .i64)) sheets0 false), uu, .c (.int .i64 machine2), .c (.int .i64 k3), uu, uu, .c (.int .i64 best6), uu, uu, uu, uu, uu, uu, uu, uu, .c (.int .i64 v15), uu, uu, uu, uu, uu, uu, uu, uu, uu, uu, uu, uu, uu, uu, uu, uu, uu, uu, uu, uu, uu], hp := emp }
noncomputable def L37_2 (n : Nat × Nat) (m1 : Nat) (m : Nat) (sheets0 : List (Int × Int)) (machine2 : Int) (k3 : Int) (best6 : Int) (m7 : Int) (v15 : Int) (v19 : Int) (v20 : Int) : Option R37 := loopN (F37_14 n m1) m { tm := [.c (.sl (.pair (.int .i64) (.int .i64)) sheets0 false), uu, .c (.int .i64 machine2), .c (.int .i64 k3), uu, uu, .c (.int .i64 best6), .c (.int .i64 m7), uu, uu, uu, uu, uu, uu, uu, .c (.int .i64 v15), uu, uu, uu, .c (.int .i64 v19), .c (.int .i64 v20), uu, uu, uu, uu, uu, uu, uu, uu, uu, uu, uu, uu, uu, uu, uu, uu], hp := emp }
noncomputable def L37_3 (n : Nat × Nat) (m1 m2 : Nat) (sheets0 : List (Int × Int)) (machine2 : Int) (k3 : Int) (best6 : Int) (m7 : Int) (v15 : Int) (v19 : Int) (v20 : Int) : Option R37 := loopN (fun _ => (kq37_17 n m1 m2)) n.2 { tm := [.c (.sl (.pair (.int .i64) (.int .i64)) sheets0 false), uu, .c (.int .i64 machine2), .c (.int .i64 k3), uu, uu, .c (.int .i64 best6), .c (.int .i64 m7), uu, uu, uu, uu, uu, uu, uu, .c (.int .i64 v15), uu, uu, uu, .c (.int .i64 v19), .c (.int .i64 v20), uu, uu, uu, uu, uu, uu, uu, uu, uu, uu, uu, uu, uu, uu, uu, uu], hp := emp }
theorem L37_1_eq (n : Nat × Nat) (m1 : Nat) (sheets0 : List (Int × Int)) (machine2 : Int) (k3 : Int) (best6 : Int) (v15 : Int) : L37_1 n (m1 + 1) sheets0 machine2 k3 best6 v15 =
 (bif decide (v15 < 2) then L37_2 n m1 n.1 sheets0 machine2 k3 best6 v15 v15 (sheets0.length : Int) 0
 else some (machine2, k3, 0)) := by kernel_rfl
theorem L37_2_eq (n : Nat × Nat) (m1 m2 : Nat) (sheets0 : List (Int × Int)) (machine2 : Int) (k3 : Int) (best6 : Int) (m7 : Int) (v15 : Int) (v19 : Int) (v20 : Int) : L37_2 n m1 (m2 + 1) sheets0 machine2 k3 best6 m7 v15 v19 v20 =
 (bif decide (v20 < v19) then (S75 n sheets0 m7 v20).bind fun r2' =>
 (bif decide (r2' > best6) then L37_3 n m1 m2 sheets0 m7 v20 r2' m7 v15 v19 v20
 else L37_3 n m1 m2 sheets0 machine2 k3 best6 m7 v15 v19 v20)
 else L37_1 n m1 sheets0 machine2 k3 best6 (wr .i64 (v15 + 1))) := by kernel_rfl
theorem L37_3_raw (n : Nat × Nat) (m1 m2 : Nat) (sheets0 : List (Int × Int)) (machine2 : Int) (k3 : Int) (best6 : Int) (m7 : Int) (v15 : Int) (v19 : Int) (v20 : Int) : (kq37_17 n m1 m2) { tm := [.c (.sl (.pair (.int .i64) (.int .i64)) sheets0 false), uu, .c (.int .i64 machine2), .c (.int .i64 k3), uu, uu, .c (.int .i64 best6), .c (.int .i64 m7), uu, uu, uu, uu, uu, uu, uu, .c (.int .i64 v15), uu, uu, uu, .c (.int .i64 v19), .c (.int .i64 v20), uu, uu, uu, uu, uu, uu, uu, uu, uu, uu, uu, uu, uu, uu, uu, uu], hp := emp } =
    L37_2 n m1 m2 sheets0 machine2 k3 best6 m7 v15 v19 (wr .i64 (v20 + 1)) := by kernel_rfl
noncomputable def S37 (n : Nat × Nat) (sheets0 : List (Int × Int)) : Option R37 := run (E37 n) c37 an37 rt37 (fun _ _ => none) rt37 { tm := [.c (.sl (.pair (.int .i64) (.int .i64)) sheets0 false), uu, uu, uu, uu, uu, uu, uu, uu, uu, uu, uu, uu, uu, uu, uu, uu, uu, uu, uu, uu, uu, uu, uu, uu, uu, uu, uu, uu, uu, uu, uu, uu, uu, uu, uu, uu], hp := emp }
theorem S37_eq (n : Nat × Nat) (sheets0 : List (Int × Int)) : S37 n sheets0 =
 (S25 n sheets0).bind fun r1' =>
 (bif (r1' != 0) then some (0, 0, r1')
 else L37_1 n n.1 sheets0 0 0 (-1) 0) := by kernel_rfl
theorem S37_run (n : Nat × Nat) (xs : pksDen pk37) : S37 n xs.1 = runG (E37 n) noScope c37 an37 (rtG rk37) (fun _ _ => none) (rtG rk37) (st0 pk37 xs Try.f37.ntmps) := by kernel_rfl
noncomputable def P37 (n : Nat × Nat) := phiOf pk37 rk37 (fun xs => S37 n xs.1)
theorem call37 : CallOK Try.prog 37 := callOK_of Try.func37 (by kernel_rfl) (by kernel_rfl)
theorem env37 (n : Nat × Nat) : EnvOK Try.prog (E37 n) := envOK0 (consPhi_ok (FC25 n) call25 (consPhi_ok (FC75 n) call75 noPhi_ok)) rfl rfl
theorem par37 (n : Nat × Nat) : EnvPar (E37 n) := envPar0 (consPhi_par phiOf_Par1 (consPhi_par phiOf_Par1 noPhi_par)) rfl
theorem FC37 (n : Nat × Nat) : FCs Try.prog 37 (P37 n) := phiOf_FCs fun xs r h vs hv => FC.of_runG tabOK eqsOK (env37 n) (par37 n) mixed (fun _ => noScope_ok) Try.func37 (c := c37) (an := an37) (pks := pk37) (rks := rk37) (by kernel_rfl) (by kernel_rfl) hv ((S37_run n xs).symm.trans h)
end Go.Proofs.Ytnlbhjmbaedadaa
set_option linter.unusedVariables false
set_option linter.unusedSimpArgs false
set_option maxRecDepth 100000
namespace Go.Proofs.Ytnlbhjmbaedadaa
open Go.RowKit Go.Shelf
section
attribute [local go_sem] Oper.semAt_some
/-- What a round keeps: what lay below n₀, and the box that holds the slice. -/
def KpB (n₀ Bs : Nat) (W W' : World) : Prop := Below n₀ W W' ∧ W'.heap[Bs]? = W.heap[Bs]?
theorem KpB.refl (n₀ Bs : Nat) (W : World) : KpB n₀ Bs W W := ⟨Below.refl _ _, rfl⟩
theorem KpB.trans {n₀ Bs : Nat} {A B C : World} (h : KpB n₀ Bs A B) (k : KpB n₀ Bs B C) : KpB n₀ Bs A C := ⟨h.1.trans k.1, k.2.trans h.2⟩
/-- A pair of numbers is read. -/
theorem run_load_pair (w : World) (b o : Nat) (x y : Int) (h1 : w.cell? ⟨b, o, none⟩ = some (.int .i64 x)) (h2 : w.cell? ⟨b, o + 1, none⟩ = some (.int .i64 y)) :
    (Instr.loadAt 58 (.pointer (some ⟨b, o, none⟩))).run Try.prog w = .ok (.agg #[.int .i64 x, .int .i64 y]) w := by
  obtain ⟨i, d, z, hi, hd, hsz, hby, hz, hzz, ha⟩ := (Go.Vi.TabOK.sh tabOK 58 (.pair (.int .i64) (.int .i64)) (by kernel_rfl)).base.ex
  have hc := run_loadCells_list (P := Try.prog) w ⟨b, o, none⟩ [.int .i64 x, .int .i64 y] (fun j v hj => by
    rw [Go.Vi.add_eq]
    match j, hj with
    | 0, hj => cases hj; exact h1
    | 1, hj => cases hj; exact h2)
  have ha : Go.Vi.isAggD d = true := ha
  have hsz : i.size = 2 := hsz
  simp only [Instr.loadAt, Instr.sureAddr, loadVar, Sem.run_bind, Sem.run_pure, Result.andThen_ok, Go.Vi.run_isAgg hd, ha, if_true, Go.Vi.run_sizeOf' hi, hsz]
  simp only [List.length_cons, List.length_nil, Nat.reduceAdd] at hc
  rw [hc]
  rfl
set_option maxHeartbeats 2000000 in
/-- The closure of slices.Backward: J k holds when the elements from k on have come. -/
theorem backN_in (F : Fence) (n : Nat) (hC : F.fn 92) (hro : F.round = none) (hn : 1 ≤ n) (l Bs n₀ b off cap : Nat) (zs : List (Int × Int)) (hreach : zs.length * 16 ≤ 140737488351232) (hb : b < n₀) (J : Nat → World → Prop)
    (hY : ∀ k (hk : k < zs.length) W, J (k + 1) W → YieldAt F (n - 1) Try.prog l #[.int .i64 (k : Int), .agg #[.int .i64 zs[k].1, .int .i64 zs[k].2]] W fun e W' => e = .returned (.bool true) ∧ J k W' ∧ KpB n₀ Bs W W')
    (W : World) (hBs : W.cell? ⟨Bs, 0, none⟩ = some (.slice (some ⟨b, off, none⟩) zs.length cap)) (hc : ∀ j (h : j < zs.length), W.cell? ⟨b, off + j * 2, none⟩ = some (.int .i64 zs[j].1) ∧ W.cell? ⟨b, off + j * 2 + 1, none⟩ = some (.int .i64 zs[j].2)) (h0 : J zs.length W) :
    CallsIn F n Try.prog 92 #[.func (.yield l) #[] #[], .pointer (some ⟨Bs, 0, none⟩)] W fun e W' => (∃ v, e = .returned v) ∧ J 0 W' := by
  refine callsIn_of_wp Try.func92 rfl hC ?_ hro
  simp only [Try.ntmps92, List.size_toArray, List.length_cons, List.length_nil, Nat.reduceAdd, Nat.reduceSub, Array.replicate_succ, Array.replicate_zero, List.push_toArray, List.append_toArray, List.nil_append, List.cons_append]
  gi_wp2
  gi_loopw [3] (fun i wr => (∃ k : Nat, k < zs.length ∧ i = .int .i64 k ∧ J (k + 1) wr ∧ KpB n₀ Bs W wr) ∨ (i = .int .i64 (-1) ∧ J 0 wr ∧ KpB n₀ Bs W wr))
    (fun i _ => (intOf i + 1).toNat)
  case atStart =>
    rcases Nat.eq_zero_or_pos zs.length with h | h
    · exact .inr ⟨by simp [h], by rw [h] at h0; exact h0, KpB.refl _ _ _⟩
    · exact .inl ⟨zs.length - 1, by omega, by congr 1; omega, by rw [show zs.length - 1 + 1 = zs.length by omega]; exact h0, KpB.refl _ _ _⟩
  case round =>
    rcases hrel with ⟨k, hk, rfl, hJs, hnx⟩ | ⟨rfl, hJs, hnx⟩
    · have hcx := (hnx.1.cell (p := ⟨b, off + k * 2, none⟩) hb).trans (hc k hk).1
      have hcy := (hnx.1.cell (p := ⟨b, off + k * 2 + 1, none⟩) hb).trans (hc k hk).2
      have hld := run_load_pair wr b (off + k * 2) _ _ hcx hcy
      have hBs' : wr.cell? ⟨Bs, 0, none⟩ = some (.slice (some ⟨b, off, none⟩) zs.length cap) := by rw [← hBs]; simp only [World.cell?, hnx.2]
      obtain ⟨fn, tmps, assign, body, hy, hR⟩ := hY k hk wr hJs
      gi_wp2
      refine hR.mono ?_
      rintro e W3 ⟨rfl, hJ3, hk3⟩
      gi_wp2
      go_roundw
      case rel =>
        cases k with
        | zero => exact .inr ⟨by simp, hJ3, hnx.trans hk3⟩
        | succ k => exact .inl ⟨k, by omega, by congr 1; omega, hJ3, hnx.trans hk3⟩
      case measure => simp [intOf]
    · gi_wp2
      go_end0
      exact ⟨⟨_, rfl⟩, hJs⟩
end
set_option maxHeartbeats 1000000 in
/-- slices.Backward(s): the slice value is boxed; the function value captures the box. -/
theorem back_in (F : Fence) (n : Nat) (hB : F.fn 77) (hro : F.round = none) (a : Option Addr) (len cap : Nat) (w : World) :
    CallsIn F n Try.prog 77 #[.slice a len cap] w fun e w' => e = .returned (.func (.func 92) #[] #[.pointer (some ⟨w.heap.size, 0, none⟩)]) ∧ w' = w.alloc (.cells #[.slice a len cap] 22) := by
  refine callsIn_of_wp Try.func77 rfl hB ?_ hro
  simp only [Try.ntmps77, List.size_toArray, List.length_cons, List.length_nil, Nat.reduceAdd, Nat.reduceSub, Array.replicate_succ, Array.replicate_zero, List.push_toArray, List.append_toArray, List.nil_append, List.cons_append]
  gi_wp2
  go_ret
  exact ⟨rfl, rfl⟩
/-- How a body that is never left must end. -/
def nrmW (R : World → Prop) : Exit → Act → World → Prop
  | .normal, _, w => R w
  | _, _, _ => False
/-- A loop over slices.Backward, its rounds in their order. -/
theorem rangeBack {F : Fence} {n : Nat} (hro : F.round = none) (hn : 2 ≤ n) (h92 : F.fn 92) {g : Operand} {ps : Array Tmp} {assign body : Code} {Q : Exit → Act → World → Prop} {a : Act} {w : World}
    {Bs n₀ b off cap : Nat} {zs : List (Int × Int)} (hreach : zs.length * 16 ≤ 140737488351232) (hg : a.eval g = .func (.func 92) #[] #[.pointer (some ⟨Bs, 0, none⟩)]) (hps : ps.size = 2) (hb : b < n₀) (hn₀ : n₀ ≤ w.heap.size) (hBl : Bs < w.heap.size)
    (hBs : w.cell? ⟨Bs, 0, none⟩ = some (.slice (some ⟨b, off, none⟩) zs.length cap)) (hc : ∀ j (h : j < zs.length), w.cell? ⟨b, off + j * 2, none⟩ = some (.int .i64 zs[j].1) ∧ w.cell? ⟨b, off + j * 2 + 1, none⟩ = some (.int .i64 zs[j].2))
    (I : Nat → World → Prop) (hI : OwnFrom w.heap.size I) (h0 : I zs.length w) (a₁ : Fin zs.length → Nat → Act) (asg : Fin zs.length → World → World)
    (I2 : Nat → Nat → World → Prop) (hI2 : ∀ p, OwnFrom w.heap.size (fun k => I2 k p)) (hasg : ∀ (k : Nat) (hk : k < zs.length) (W : World), w.heap.size ≤ W.heap.size → I (k + 1) W → KeepsFrom w.heap.size W (asg ⟨k, hk⟩ W) ∧ KpB n₀ Bs W (asg ⟨k, hk⟩ W) ∧ I2 k W.heap.size (asg ⟨k, hk⟩ W))
    (hassign : ∀ (l : Nat) (x : Fin zs.length) (W : World) (K : Act → World → Prop), K (a₁ x W.heap.size) (asg x W) →
      assign.wpIn (F.inRound l) (n - 1 - 1) Try.prog (Exit.then K (fun _ _ _ => False)) { tmps := (ps.zip #[.int .i64 (x.val : Int), .agg #[.int .i64 (zs[x.val]'x.isLt).1, .int .i64 (zs[x.val]'x.isLt).2]]).foldl (fun t (p, v) => t.setIfInBounds p v) a.tmps, defers := [] } W)
    (hbody : ∀ (l k : Nat) (hk : k < zs.length) (p : Nat) (W : World), I2 k p W → body.wpIn (F.inRound l) (n - 1 - 1) Try.prog (nrmW fun W' => KeepsFrom w.heap.size W W' ∧ KpB n₀ Bs W W' ∧ I k W') (a₁ ⟨k, hk⟩ p) W)
    (hdone : ∀ (D : Nat) (W : World), w.heap.size ≤ D → I 0 W → W.heap[D]? = some (.deferred (some [])) → Q .normal { a with defers := { target := .collected D, args := #[] } :: a.defers } W) :
    (Code.rangeFunc g ps assign body).wpIn F n Try.prog Q a w := by
  refine wpIn_rangeFunc fun fn hfn => ?_
  rw [hro]
  generalize hL : w.heap.size + 1 = L
  let r0 : Loop := { state := .ready, pending := none, fn, tmps := a.tmps, params := ps, assign, body, defers := w.heap.size }
  generalize hW1 : (w.alloc (.deferred (some []))).alloc (.loop r0) = W1
  have s1 : W1.heap.size = w.heap.size + 2 := by rw [← hW1]; simp
  have hl1 : W1.heap[L]? = some (.loop r0) := by
    have := World.alloc_heap_new (w.alloc (.deferred (some []))) (.loop r0)
    rw [World.size_alloc, hL, hW1] at this
    exact this
  have hd1 : W1.heap[w.heap.size]? = some (.deferred (some [])) := by
    rw [← hW1]
    exact (Below.heap_alloc _ _ _ (by simp)).trans (World.alloc_heap_new w _)
  have hB1 : Below w.heap.size w W1 := by rw [← hW1]; exact ((Below.refl _ w).alloc (Nat.le_refl _) _).alloc (by simp) _
  refine ⟨L, [{ target := .collected w.heap.size, args := #[] }], W1, { target := .fn (.func 92) #[.pointer (some ⟨Bs, 0, none⟩)], args := #[.func (.yield L) #[] #[]] }, W1, 92, #[.func (.yield L) #[] #[], .pointer (some ⟨Bs, 0, none⟩)], W1, ?_, ?_, ?_, ?_, fun _ => by omega, ?_⟩
  · rw [run_enterLoop_outer, hW1, hL]
  · simp only [resolve, hg]
    simp [go_sem]
  · intro f' hf'
    simp [Target.leads] at hf'
    subst hf'
    exact h92
  · simp [invoke, go_sem, enters_of Try.func92 (by kernel_rfl) rfl]
  · have hK : ∀ (X : World) (j : Nat) (o o' : Loop), w.heap.size ≤ j → X.heap[j]? = some (.loop o) → KpB n₀ Bs X (X.putObj j (.loop o')) := fun X j o o' hj ho => ⟨belowK_b (w := w) hn₀ X j _ _ hj ho rfl rfl, World.putObj_heap_other (by omega)⟩
    refine (backN_in F (n - 1) h92 hro (by omega) L Bs n₀ b off cap zs hreach hb (fun k W => I k W ∧ W.heap[L]? = some (.loop r0) ∧ W.heap[w.heap.size]? = some (.deferred (some []))) ?_ W1
      ((hB1.cell (p := ⟨Bs, 0, none⟩) hBl).trans hBs) (fun j hj => ⟨(hB1.cell (p := ⟨b, off + j * 2, none⟩) (by show b < _; omega)).trans (hc j hj).1, (hB1.cell (p := ⟨b, off + j * 2 + 1, none⟩) (by show b < _; omega)).trans (hc j hj).2⟩) ⟨by rw [← hW1]; exact hI.alloc _ (hI.alloc _ h0), hl1, hd1⟩).mono ?_
    · rintro k hk W ⟨hi, hl, hd⟩
      have hltW := (Array.getElem?_eq_some_iff.1 hl).1
      obtain ⟨q1, q2, q3⟩ := hasg k hk W (by omega) hi
      have hlA := q1.same _ _ (by omega) hl rfl
      have hdA := q1.same _ _ (Nat.le_refl _) hd rfl
      have hlt := (Array.getElem?_eq_some_iff.1 hlA).1
      refine ⟨_, _, _, _, run_yield (r := r0) hl (by rw [show r0.params = ps from rfl, hps]; rfl), roundIn_of_wpIn hfn (hassign L ⟨k, hk⟩ W _ ⟨_, run_beginRound hlA rfl, ?_⟩)⟩
      have hi2 := (hI2 W.heap.size).putObj (.loop { r0 with state := .busy }) q3 (by omega) hlA rfl
      have hl2 : ((asg ⟨k, hk⟩ W).putObj L (.loop { r0 with state := .busy })).heap[L]? = some (.loop { r0 with state := .busy }) := World.putObj_heap_same hlt
      have hd2 : ((asg ⟨k, hk⟩ W).putObj L (.loop { r0 with state := .busy })).heap[w.heap.size]? = some (.deferred (some [])) := (World.putObj_heap_other (by omega)).trans hdA
      refine wpIn_mono (hbody L k hk W.heap.size _ hi2) ?_
      intro e a3 W3 hp
      cases e with
      | normal =>
        obtain ⟨k1, k2, k3⟩ := hp
        have hl3 := k1.same _ _ (by omega) hl2 rfl
        have hd3 := k1.same _ _ (Nat.le_refl _) hd2 rfl
        exact ⟨_, _, run_endRound none hl3, rfl, ⟨hI.putObj _ k3 (by omega) hl3 rfl, World.putObj_heap_same (Array.getElem?_eq_some_iff.1 hl3).1, (World.putObj_heap_other (by omega)).trans hd3⟩,
          (q2.trans ((hK _ L _ _ (by omega) hlA).trans k2)).trans (hK W3 L _ _ (by omega) hl3)⟩
      | _ => exact hp.elim
    · rintro e W2 ⟨⟨v, rfl⟩, hi, hl, hd⟩
      exact ⟨none, _, run_endLoop hl (by simp [r0]), hdone _ _ (Nat.le_refl _) (hI.putObj _ hi (by omega) hl rfl) ((World.putObj_heap_other (by omega)).trans hd)⟩
end Go.Proofs.Ytnlbhjmbaedadaa
/-
  Turned sheets: the walk.
-/
set_option linter.unusedVariables false
set_option linter.unusedSimpArgs false
set_option maxRecDepth 100000
namespace Go.Proofs.Ytnlbhjmbaedadaa
open Go.RowKit Go.Shelf
section
attribute [local go_sem] Oper.semAt_some
/-- Cells of pairs. -/
def cp2 (l : List (Int × Int)) : List Value := l.flatMap fun p => [.int .i64 p.1, .int .i64 p.2]
theorem cp2_snoc (l : List (Int × Int)) (p : Int × Int) : cp2 (l ++ [p]) = cp2 l ++ [.int .i64 p.1, .int .i64 p.2] := by simp [cp2]
/-- What has come of the turned sheets, when those from k on have been turned. -/
def tu (zs : List (Int × Int)) (k : Nat) : List (Int × Int) := ((zs.drop k).reverse).map fun p => (p.2, p.1)
theorem tu_all (zs : List (Int × Int)) : tu zs zs.length = [] := by simp [tu]
theorem tu_step (zs : List (Int × Int)) (k : Nat) (hk : k < zs.length) : tu zs k = tu zs (k + 1) ++ [(zs[k].2, zs[k].1)] := by
  unfold tu
  rw [List.drop_eq_getElem_cons hk, List.reverse_cons, List.map_append]
  rfl
theorem tu_len (zs : List (Int × Int)) (k : Nat) : (tu zs k).length = zs.length - k := by simp [tu]
theorem boxed_own {β : Type} (B : Nat) (t : TypeId) (u : Value) : Own (fun (_ : β) W => Boxed W B t u) := fun s X Y row hs hg hrow =>
  hs.kept hg (fun e' => by
    obtain ⟨o, ho, hc⟩ := hrow B e'.symm
    rw [show X.heap[B]? = _ from hs] at ho
    cases ho
    cases hc)
theorem OwnFrom.box {β : Type} {n : Nat} {I : β → World → Prop} {B : Nat} {t : TypeId} {u : Value} (h : OwnFrom n I) : OwnFrom n (fun s W => I s W ∧ Boxed W B t u) := OwnFrom.and h (Own.from (boxed_own B t u) _)
set_option maxHeartbeats 4000000 in
theorem turn_walk (F : Fence) (h39 : F.fn 39) (h25 : F.fn 25) (h77 : F.fn 77) (h92 : F.fn 92) (hro : F.round = none) (b off cap : Nat) (zs : List (Int × Int)) (w : World) (hb : b < w.heap.size) (hlen : zs.length ≤ 1000000)
    (hcs : ∀ j (h : j < zs.length), w.cell? ⟨b, off + j * 2, none⟩ = some (.int .i64 zs[j].1) ∧ w.cell? ⟨b, off + j * 2 + 1, none⟩ = some (.int .i64 zs[j].2))
    (hck : CallsIn F 2 Try.prog 25 #[.slice (some ⟨b, off, none⟩) zs.length cap] w fun e w' => e = .returned (.int .i64 0) ∧ Below w.heap.size w w') :
    CallsIn F 3 Try.prog 39 #[.slice (some ⟨b, off, none⟩) zs.length cap] w fun e W' => ∃ v, e = .returned (.tuple #[v, .int .i64 0]) ∧ W'.ownsRow w.heap.size 58 2 v zs.length (cp2 (tu zs 0)) ∧ Below w.heap.size w W' := by
  obtain ⟨i0, hi, hz0, hz1, hz2⟩ := info_parts (show (Try.prog.info? 58).map (fun i => (i.zero, i.size, i.bytes)) = some (some (.agg #[.int .i64 0, .int .i64 0]), 2, 16) by kernel_rfl)
  have hu22 : Try.prog.underlying 22 = some (.slice 58) := by kernel_rfl
  refine callsIn_of_wp_marks Try.func39 rfl h39 ?_ hro
  simp only [Try.ntmps39, List.size_toArray, List.length_cons, List.length_nil, Nat.reduceAdd, Nat.reduceSub, Array.replicate_succ, Array.replicate_zero, List.push_toArray, List.append_toArray, List.nil_append, List.cons_append]
  gi_wp2_with first | (gi_at_call 25; refine hck.mono ?_; rintro e w1 ⟨rfl, hB1⟩) | (gi_at_call 77; refine (back_in F 2 h77 hro _ _ _ _).mono ?_; rintro e w' ⟨rfl, rfl⟩)
  have hs1 := hB1.size
  have bO := Boxed.new w1 22 (.slice none 0 0)
  have bN := Boxed.new (w1.alloc (.cells #[.slice none 0 0] 22)) 22 (.slice (some ⟨b, off, none⟩) zs.length cap)
  rw [World.size_alloc] at bN
  have hB0 : Below w.heap.size w ((w1.alloc (.cells #[.slice none 0 0] 22)).alloc (.cells #[.slice (some ⟨b, off, none⟩) zs.length cap] 22)) := (hB1.alloc hs1 _).alloc (by simp; omega) _
  have hcs0 : ∀ j (h : j < zs.length), ∀ W, Below w.heap.size w W → W.cell? ⟨b, off + j * 2, none⟩ = some (.int .i64 zs[j].1) ∧ W.cell? ⟨b, off + j * 2 + 1, none⟩ = some (.int .i64 zs[j].2) := fun j hj W hW =>
    ⟨(hW.cell (p := ⟨b, off + j * 2, none⟩) hb).trans (hcs j hj).1, (hW.cell (p := ⟨b, off + j * 2 + 1, none⟩) hb).trans (hcs j hj).2⟩
  refine rangeBack hro (by omega) h92 (zs := zs) (b := b) (off := off) (cap := cap) (Bs := w1.heap.size + 1) (n₀ := w.heap.size) (by omega) rfl rfl hb (by simp; omega) (by simp) bN.cell (fun j hj => hcs0 j hj _ hB0)
    (fun k W => ((∃ v, Boxed W w1.heap.size 22 v ∧ W.ownsRow w.heap.size 58 2 v (zs.length - k) (cp2 (tu zs k))) ∧ Below w.heap.size w W) ∧ Boxed W (w1.heap.size + 1) 22 (.slice (some ⟨b, off, none⟩) zs.length cap)) ?own ?start
    (fun x p => { tmps := #[.slice (some ⟨b, off, none⟩) zs.length cap, undef, .slice none 0 0, .int .i64 0, .int .i64 0, .pointer (some ⟨w1.heap.size, 0, none⟩), undef, .pointer (some ⟨p, 0, none⟩), .slice (some ⟨b, off, none⟩) zs.length cap, .int .i64 0, .int .i64 0, .bool false, undef, .slice (some ⟨b, off, none⟩) zs.length cap,
          .func (.func 92) #[] #[.pointer (some ⟨w1.heap.size + 1, 0, none⟩)], .int .i64 (x.val : Int), .agg #[.int .i64 zs[x.val].1, .int .i64 zs[x.val].2], undef, undef, undef, undef, undef, undef, undef, undef, undef], defers := [] })
    (fun x W => W.alloc (.cells #[.int .i64 zs[x.val].1, .int .i64 zs[x.val].2] 58))
    (fun k p W => (((∃ v, Boxed W w1.heap.size 22 v ∧ W.ownsRow w.heap.size 58 2 v (zs.length - (k + 1)) (cp2 (tu zs (k + 1)))) ∧ Below w.heap.size w W) ∧ Boxed W (w1.heap.size + 1) 22 (.slice (some ⟨b, off, none⟩) zs.length cap)) ∧ (W.cell? ⟨p, 0, none⟩ = some (.int .i64 (zs[k]?.getD (0, 0)).1) ∧ W.cell? ⟨p, 1, none⟩ = some (.int .i64 (zs[k]?.getD (0, 0)).2)))
    ?own2 ?asg ?assign ?body ?done
  case own => exact OwnFrom.box <| OwnFrom.and (Own.from (by simpa using holdsRow_own (β := Nat) w.heap.size w1.heap.size 22 58 2 (fun k => zs.length - k) (fun k => cp2 (tu zs k)) (fun _ _ => True)) _) (ownFrom_below (Nat.le_refl _) (by simp; omega))
  case own2 =>
    intro p
    refine OwnFrom.and (OwnFrom.box <| OwnFrom.and (Own.from (by simpa using holdsRow_own (β := Nat) w.heap.size w1.heap.size 22 58 2 (fun k => zs.length - (k + 1)) (fun k => cp2 (tu zs (k + 1))) (fun _ _ => True)) _) (ownFrom_below (Nat.le_refl _) (by simp; omega))) ?_
    exact fun s A B row hs hg hr => ⟨cell_kept hs.1 hg (fun r e => (hr r e).2), cell_kept hs.2 hg (fun r e => (hr r e).2)⟩
  case start => exact ⟨⟨⟨_, bO.alloc _, by rw [tu_all, Nat.sub_self]; exact World.ownsRow_nil _ _ _ _⟩, hB0⟩, bN⟩
  case asg =>
    rintro k hk W hsz ⟨⟨⟨v, hv, hrow⟩, hB⟩, hN⟩
    have hnew : (W.alloc (.cells #[.int .i64 zs[k].1, .int .i64 zs[k].2] 58)).heap[W.heap.size]? = _ := World.alloc_heap_new W _
    simp only [World.size_alloc] at hsz
    refine ⟨(KeepsOthers.alloc W _).from _, ⟨(Below.refl _ W).alloc (by omega) _, ?_⟩, ⟨⟨⟨v, hv.alloc _, hrow.alloc _⟩, hB.alloc (by omega) _⟩, hN.alloc _⟩, ?_⟩
    · exact Below.heap_alloc _ _ _ (by omega)
    · have e : zs[k]?.getD (0, 0) = zs[k] := by simp [List.getElem?_eq_getElem hk]
      rw [e]
      constructor
      · show (match (W.alloc (.cells #[.int .i64 zs[k].1, .int .i64 zs[k].2] 58)).heap[W.heap.size]? with | some (.cells c _ _) => c[0]? | _ => none) = _
        rw [hnew]
        rfl
      · show (match (W.alloc (.cells #[.int .i64 zs[k].1, .int .i64 zs[k].2] 58)).heap[W.heap.size]? with | some (.cells c _ _) => c[1]? | _ => none) = _
        rw [hnew]
        rfl
  case assign =>
    intro l x W K hK
    gi_wp2
    exact hK
  case body =>
    rintro l k hk p W ⟨⟨⟨⟨v, hv, hrow⟩, hB⟩, hN⟩, hp0, hp1⟩
    have e : zs[k]?.getD (0, 0) = zs[k] := by simp [List.getElem?_eq_getElem hk]
    rw [e] at hp0 hp1
    have hc := hv.cell
    have hBs := hB.size
    have hcc : ∀ (W1 : World) (x y : Int) (j : Nat) (u : Value), [Value.int .i64 x, .int .i64 y][j]? = some u → (W1.alloc (.cells #[.int .i64 x, .int .i64 y] 58)).cell? ((⟨W1.heap.size, 0, none⟩ : Addr).add j) = some u := by
      intro W1 x y j u hu
      have hnew := World.alloc_heap_new W1 (.cells #[.int .i64 x, .int .i64 y] 58)
      rw [Go.Vi.add_eq]
      show (match (W1.alloc (.cells #[.int .i64 x, .int .i64 y] 58)).heap[W1.heap.size]? with | some (.cells c _ _) => c[0 + j]? | _ => none) = _
      rw [hnew]
      match j, hu with
      | 0, hu => cases hu; rfl
      | 1, hu => cases hu; rfl
    gi_wp2_with (gi_at_builtin; refine wpListIn_append_own _ rfl _ _ 22 rfl w.heap.size 58 i0 (.agg #[.int .i64 0, .int .i64 0]) 2 16 hu22 hi hz0 hz1 hz2 rfl (by decide) _ _ _ rfl (hrow.alloc _) ⟨W.heap.size, 0, none⟩ 1 1 [.int .i64 zs[k].2, .int .i64 zs[k].1] rfl rfl (hcc _ _ _) (by simp [Value.oneCell']) (by unfold maxLen; omega) (by omega) (by simp; omega) ?_; intro v' w2 hown' hgrow _; obtain ⟨g', cap', rfl⟩ := ownsRow_succ hown'; obtain ⟨hv1, hv2, hr2, hk2, hb2⟩ := hv.appended (by decide) hrow hB.size (by omega) hown' hgrow; have hc1 := hv1.cell; have hf1 := hv1.frozen)
    have hne := hN.not_row (by decide) hrow
    have hN2 := (hN.alloc _).kept hgrow hne
    have hN3 : Boxed (w2.setCell ⟨w1.heap.size, 0, none⟩ (.slice (some ⟨g', 0, none⟩) (zs.length - (k + 1) + 1) cap')) (w1.heap.size + 1) 22 (.slice (some ⟨b, off, none⟩) zs.length cap) :=
      (heap_setCell_other w2 ⟨w1.heap.size, 0, none⟩ (w1.heap.size + 1) _ (by simp only []; omega)).trans hN2
    refine ⟨hk2.from _, ⟨hb2, hN3.trans hN.symm⟩, ⟨⟨_, hv2, ?_⟩, hB.trans hb2⟩, hN3⟩
    rw [tu_step zs k hk, cp2_snoc, show zs.length - k = zs.length - (k + 1) + 1 by omega]
    exact hr2
  case done =>
    rintro D W hD ⟨⟨⟨v, hv, hrow⟩, hB⟩, hN⟩ hK
    have hc := hv.cell
    gi_wp2
    refine ⟨by simp, .inl ⟨_, _, rfl, run_takeDeferred hK, ?_⟩⟩
    simp only [World.size_alloc] at hD
    exact ⟨_, results_tmp2 rfl _ _ _, v, rfl, ownsRow_putObj hrow _ hK rfl, hB.trans (belowK_b (w := w) (Nat.le_refl _) W D _ _ (by omega) hK rfl rfl)⟩
set_option maxHeartbeats 1000000 in
theorem turn_err (F : Fence) (h39 : F.fn 39) (h25 : F.fn 25) (hro : F.round = none) (e : Int) (he : e ≠ 0) (v0 : Value) (w : World)
    (hck : CallsIn F 2 Try.prog 25 #[v0] w fun x w' => x = .returned (.int .i64 e) ∧ Below w.heap.size w w') :
    CallsIn F 3 Try.prog 39 #[v0] w fun x W' => x = .returned (.tuple #[.slice none 0 0, .int .i64 e]) ∧ Below w.heap.size w W' := by
  refine callsIn_of_wp_marks Try.func39 rfl h39 ?_ hro
  simp only [Try.ntmps39, List.size_toArray, List.length_cons, List.length_nil, Nat.reduceAdd, Nat.reduceSub, Array.replicate_succ, Array.replicate_zero, List.push_toArray, List.append_toArray, List.nil_append, List.cons_append]
  gi_wp2_with (gi_at_call 25; refine hck.mono ?_; rintro e w1 ⟨rfl, hB1⟩)
  exact ⟨_, results_tmp2 rfl _ _ _, rfl, hB1⟩
theorem cp2_get (l : List (Int × Int)) (i : Nat) (x : Int × Int) (h : l[i]? = some x) : ((cp2 l).drop (i * 2)).take 2 = [.int .i64 x.1, .int .i64 x.2] := by
  induction l generalizing i with
  | nil => simp at h
  | cons p l ih =>
    cases i with
    | zero => simp at h; subst h; simp [cp2]
    | succ i =>
      have := ih i (by simpa using h)
      rw [← this]
      have e : cp2 (p :: l) = .int .i64 p.1 :: .int .i64 p.2 :: cp2 l := rfl
      rw [e, show (i + 1) * 2 = i * 2 + 1 + 1 by omega]
      rfl
end
open Go.Vi
def HF39 (S : List (Int × Int) → Option Int) (zs : List (Int × Int)) : Option (List (Int × Int) × Int) :=
  (S zs).bind fun e => bif e != 0 then some ([], e) else bif decide (0 < zs.length) && decide (zs.length ≤ 1000000) then some (tu zs 0, 0) else none
/-- A slice of pairs that was handed in. -/
theorem CR_pairs {w : World} {A : Nat → Prop} {zs : List (Int × Int)} {t : Bool} {v : Value} (h : CR w A (.sl (.pair (.int .i64) (.int .i64)) zs t) v) (h0 : 0 < zs.length) (hA : ∀ b, A b → b < w.heap.size) :
    ∃ b off cap, v = .slice (some ⟨b, off, none⟩) zs.length cap ∧ b < w.heap.size ∧ ∀ j (h : j < zs.length), w.cell? ⟨b, off + j * 2, none⟩ = some (.int .i64 zs[j].1) ∧ w.cell? ⟨b, off + j * 2 + 1, none⟩ = some (.int .i64 zs[j].2) := by
  obtain ⟨a, cap, rfl, hcap, _, hr⟩ := h
  rcases hr with hr | ⟨b, o, cur, et, fz, rfl, hb, hc, hl, hx⟩
  · rw [hr] at h0; exact absurd h0 (by simp)
  · refine ⟨b, o, cap, rfl, hA b hb, fun j hj => ?_⟩
    have h1 := hx j zs[j] (by simp)
    obtain ⟨h2, h3⟩ : ((cur.toList.drop (o + j * 2)).take 2).take 1 = [.int .i64 zs[j].1] ∧ ((cur.toList.drop (o + j * 2)).take 2).drop 1 = [.int .i64 zs[j].2] := h1
    have h4 : cur.toList[o + j * 2]? = some (.int .i64 zs[j].1) := by
      have := congrArg (fun l => l[0]?) h2
      simpa [List.getElem?_take, List.getElem?_drop] using this
    have h5 : cur.toList[o + j * 2 + 1]? = some (.int .i64 zs[j].2) := by
      have := congrArg (fun l => l[0]?) h3
      simpa [List.getElem?_take, List.getElem?_drop] using this
    rw [Array.getElem?_toList] at h4 h5
    constructor
    · show (match w.heap[b]? with | some (.cells c _ _) => c[o + j * 2]? | _ => none) = _
      rw [hc]
      exact h4
    · show (match w.heap[b]? with | some (.cells c _ _) => c[o + j * 2 + 1]? | _ => none) = _
      rw [hc]
      exact h5
/-- A call of a function that reads a list of pairs and gives one number. -/
theorem call_pairs {g : FuncId} {t : Nat} {S : pksDen [.c (.sl (.pair (.int .i64) (.int .i64)))] → Option (rksDen [.c (.int .i64) t])} (h : FCs Try.prog g (phiOf [.c (.sl (.pair (.int .i64) (.int .i64)))] [.c (.int .i64) t] S)) {zs : List (Int × Int)} {e : Int} (hs : S (zs, ()) = some e)
    {w : World} {A0 : Nat → Prop} {v : Value} (hA : ∀ b, A0 b → b < w.heap.size) (hv : CR w A0 (.sl (.pair (.int .i64) (.int .i64)) zs false) v) :
    Calls Try.prog g #[v] w fun x w2 => x = .returned (.int .i64 e) ∧ Below w.heap.size w w2 := by
  obtain ⟨ret, h1, h2⟩ := h [.c (.sl (.pair (.int .i64) (.int .i64)) zs false)] _ some (rets [.c (.int .i64) t] e) (by
    show (pksArg [.c (.sl (.pair (.int .i64) (.int .i64)))] [.c (.sl (.pair (.int .i64) (.int .i64)) zs false)]).bind _ = _
    rw [show pksArg [.c (.sl (.pair (.int .i64) (.int .i64)))] [.c (.sl (.pair (.int .i64) (.int .i64)) zs false)] = some (zs, ()) from rfl]
    simp only [Option.bind_some, hs])
  cases h1
  refine (h2 w A0 [v] hA ⟨hv, trivial⟩).mono ?_
  intro x w2 hx
  cases x with
  | returned u =>
    obtain ⟨hG, is, us, rfl, hR⟩ := hx
    match is, us, hR with
    | [i], [u], ⟨hu, _, _⟩ =>
      have hu : u = .int .i64 e := hu
      subst hu
      exact ⟨rfl, ⟨hG.os, hG.tape, hG.output, hG.size, hG.blk⟩⟩
    | [], [], hR => exact hR.elim
    | [], _ :: _, hR => exact hR.elim
    | [_], [], hR => exact hR.elim
    | [_], _ :: _ :: _, hR => exact hR.2.2.elim
    | _ :: _ :: _, [], hR => exact hR.elim
    | _ :: _ :: _, [_], hR => exact hR.2.2.elim
    | _ :: _ :: _, _ :: _ :: _, hR => exact hR.2.2.elim
  | _ => exact hx.elim
theorem HC39 (n : Nat × Nat) (xs : pksDen [.c (.sl (.pair (.int .i64) (.int .i64)))]) (r : rksDen [.own (.pair (.int .i64) (.int .i64)) 0, .c (.int .i64) 0]) (h : HF39 (S25 n) xs.1 = some r) (vs : List V) (hv : pksArg [.c (.sl (.pair (.int .i64) (.int .i64)))] vs = some xs) :
    FC Try.prog 39 vs (rets [.own (.pair (.int .i64) (.int .i64)) 0, .c (.int .i64) 0] r) := by
  obtain ⟨zs, ⟨⟩⟩ := xs
  unfold HF39 at h
  obtain ⟨e, he, h⟩ := Option.bind_eq_some_iff.1 h
  intro w A0 args hA hargs
  have hv2 := pksArg_VR _ _ _ _ hv hargs
  match args, hv2 with
  | [v0], ⟨g0, _⟩ =>
    have hck := call_pairs (FC25 n) (zs := zs) he hA g0
    cases hz : e != 0 with
    | true =>
      rw [hz] at h
      cases h
      refine ((callsIn_wide (n := 3)).1 (turn_err Fence.wide trivial trivial rfl e (by simpa using hz) v0 w ((callsIn_wide (n := 2)).2 hck))).mono ?_
      rintro x W' ⟨rfl, hB⟩
      refine ⟨Grows.of_below hB, [.emp, .emp], [_, _], rfl, ⟨rfl, ⟨none, rfl, fun _ => rfl, rfl, fun p l h => (by cases h)⟩, fun b c h => (by cases h)⟩, fun b c h => (by cases h), rfl, fun b c h => (by cases h), trivial⟩
    | false =>
      rw [hz] at h
      have hz : e = 0 := by simpa using hz
      subst hz
      simp only [cond_false] at h
      obtain ⟨hd, h⟩ := cond_some h rfl
      simp only [Bool.and_eq_true, decide_eq_true_eq] at hd
      cases h
      obtain ⟨b, off, cap, rfl, hb, hcs⟩ := CR_pairs (zs := zs) (t := false) g0 hd.1 hA
      refine ((callsIn_wide (n := 3)).1 (turn_walk Fence.wide trivial trivial trivial trivial rfl b off cap zs w hb hd.2 hcs ((callsIn_wide (n := 2)).2 hck))).mono ?_
      rintro x W' ⟨v, rfl, hrow, hB⟩
      obtain ⟨hlen, hrow⟩ := hrow
      rcases hrow with ⟨_, h0⟩ | ⟨g, cap2, cur, rfl, hg, hgb, hcap, _, hsz, htk⟩
      · omega
      have htl : (tu zs 0).length = zs.length := by rw [tu_len]; rfl
      refine ⟨Grows.of_below hB, [.at g cap2, .emp], [_, _], rfl, ⟨⟨fun h => (by cases h), by rw [htl]; exact hcap, cur, 58, hgb, by show cap2 * 2 ≤ _; omega, fun i x hi => ?_⟩, ⟨by rw [htl], by rw [htl]; exact hcap, fun h => (by cases h)⟩, fun b' c' h => ?_⟩, ?_, rfl, fun b c h => (by cases h), trivial⟩
      · have hi2 := (List.getElem?_eq_some_iff.1 hi).1
        rw [htl] at hi2
        have h5 := cp2_get _ i x hi
        rw [← htk, List.drop_take, List.take_take, Nat.min_eq_left (by omega)] at h5
        show VRs _ _ (.pair (.int .i64) (.int .i64)) x ((cur.toList.drop (i * 2)).take 2)
        rw [h5]
        exact ⟨rfl, rfl⟩
      · cases h
        exact ⟨hg, (Array.getElem?_eq_some_iff.1 hgb).1⟩
      · intro b' c' h j hj
        simp at hj
        subst hj
        intro c'' e
        cases e
end Go.Proofs.Ytnlbhjmbaedadaa
set_option linter.unusedVariables false
set_option linter.unusedSimpArgs false
set_option maxRecDepth 100000
namespace Go.Proofs.Ytnlbhjmbaedadaa
open Go.Vi
abbrev R39 := (List (Int × Int)) × Int
def pk39 : List PK := [.c (.sl (.pair (.int .i64) (.int .i64)))]
def rk39 : List RK := [.own (.pair (.int .i64) (.int .i64)) 0, .c (.int .i64) 0]
noncomputable def S39 (n : Nat × Nat) (sheets0 : List (Int × Int)) : Option R39 := HF39 (S25 n) sheets0
noncomputable def P39 (n : Nat × Nat) := phiOf pk39 rk39 (fun xs => S39 n xs.1)
theorem call39 : CallOK Try.prog 39 := callOK_of Try.func39 (by kernel_rfl) (by kernel_rfl)
theorem FC39 (n : Nat × Nat) : FCs Try.prog 39 (P39 n) := phiOf_FCs fun xs r h vs hv => HC39 n xs r h vs hv
abbrev R18 := Bool
noncomputable def c18 : Code := bodyOf Try.f18
noncomputable def an18 : Ann := (.s .l (.s (.s .l (.j [0, 1] .l .l)) (.s (.s .l (.j [] (.j [0, 1, 5] (.s (.s .l (.j [0, 1, 5] .l .l)) (.s (.j [0, 1, 5] (.s .l (.j [0, 1, 5] .l .l)) .l) .l)) .l) .l)) .l)))
def pk18 : List PK := [.c (.sl (.int .i64)), .c (.sl (.int .i64))]
def rk18 : List RK := [.c .bool 4]
noncomputable def rt18 (st : St) : Option R18 := rtG rk18 st
noncomputable def E18 (n : Nat × Nat) : Env := { T := tab, phi := noPhi, eff := fun _ => false, fuel := n.1, hold := n.2 }
noncomputable def kq18_3 (n : Nat × Nat) : St → Option R18 := run (E18 n) (cB (cB (cB c18))) (Ann.snd (Ann.snd (Ann.snd an18))) rt18 (fun _ _ => none) rt18
noncomputable def xb18_5 (n : Nat × Nat) : Nat → St → Option R18 := fun j s => bif Nat.beq j 0 then normC [] s (kq18_3 n) else (fun _ _ => none) j s
noncomputable def F18_6 (n : Nat × Nat) : (St → Option R18) → St → Option R18 := fun K s => run (E18 n) (cA (cA (cB (cA (cB (cB c18)))))) (Ann.fst (Ann.fst (Ann.snd (Ann.fst (Ann.snd (Ann.snd an18)))))) (fun s => normC [0, 1, 5] s K) (xb18_5 n) rt18 s
noncomputable def L18_1 (n : Nat × Nat) (m : Nat) (a0 : List Int) (b1 : List Int) (i5 : Int) : Option R18 := loopN (F18_6 n) m { tm := [.c (.sl (.int .i64) a0 false), .c (.sl (.int .i64) b1 false), uu, uu, uu, .c (.int .i64 i5), uu, uu, uu, uu, uu, uu, uu, uu, uu, uu, uu, uu, uu, uu, uu, uu, uu, uu, uu, uu], hp := emp }
theorem L18_1_eq (n : Nat × Nat) (m1 : Nat) (a0 : List Int) (b1 : List Int) (i5 : Int) : L18_1 n (m1 + 1) a0 b1 i5 =
 (bif decide (i5 < (a0.length : Int)) then (idx a0 i5).bind fun x1' =>
 (idx b1 i5).bind fun x2' =>
 (bif (x1' != x2') then some false
 else L18_1 n m1 a0 b1 (wr .i64 (i5 + 1)))
 else some true) := by kernel_rfl
noncomputable def S18 (n : Nat × Nat) (a0 : List Int) (b1 : List Int) : Option R18 := run (E18 n) c18 an18 rt18 (fun _ _ => none) rt18 { tm := [.c (.sl (.int .i64) a0 false), .c (.sl (.int .i64) b1 false), uu, uu, uu, uu, uu, uu, uu, uu, uu, uu, uu, uu, uu, uu, uu, uu, uu, uu, uu, uu, uu, uu, uu, uu], hp := emp }
theorem S18_eq (n : Nat × Nat) (a0 : List Int) (b1 : List Int) : S18 n a0 b1 =
 (bif ((a0.length : Int) != (b1.length : Int)) then some false
 else L18_1 n n.1 a0 b1 0) := by kernel_rfl
theorem S18_run (n : Nat × Nat) (xs : pksDen pk18) : S18 n xs.1 xs.2.1 = runG (E18 n) noScope c18 an18 (rtG rk18) (fun _ _ => none) (rtG rk18) (st0 pk18 xs Try.f18.ntmps) := by kernel_rfl
noncomputable def P18 (n : Nat × Nat) := phiOf pk18 rk18 (fun xs => S18 n xs.1 xs.2.1)
theorem call18 : CallOK Try.prog 18 := callOK_of Try.func18 (by kernel_rfl) (by kernel_rfl)
theorem env18 (n : Nat × Nat) : EnvOK Try.prog (E18 n) := envOK0 noPhi_ok rfl rfl
theorem par18 (n : Nat × Nat) : EnvPar (E18 n) := envPar0 noPhi_par rfl
theorem FC18 (n : Nat × Nat) : FCs Try.prog 18 (P18 n) := phiOf_FCs fun xs r h vs hv => FC.of_runG tabOK eqsOK (env18 n) (par18 n) mixed (fun _ => noScope_ok) Try.func18 (c := c18) (an := an18) (pks := pk18) (rks := rk18) (by kernel_rfl) (by kernel_rfl) hv ((S18_run n xs).symm.trans h)
abbrev R51 := Bool
noncomputable def c51 : Code := bodyOf Try.f51
noncomputable def an51 : Ann := (.s .l (.s (.s .l (.j [0, 1] .l .l)) (.s (.s .l (.j [] (.j [0, 1, 5] (.s (.s .l (.j [0, 1, 5] .l .l)) (.s (.j [0, 1, 5] (.s .l (.j [0, 1, 5] .l .l)) .l) .l)) .l) .l)) .l)))
def pk51 : List PK := [.c (.sl (.pair (.int .i64) (.int .i64))), .c (.sl (.pair (.int .i64) (.int .i64)))]
def rk51 : List RK := [.c .bool 4]
noncomputable def rt51 (st : St) : Option R51 := rtG rk51 st
noncomputable def E51 (n : Nat × Nat) : Env := { T := tab, phi := noPhi, eff := fun _ => false, fuel := n.1, hold := n.2 }
noncomputable def kq51_3 (n : Nat × Nat) : St → Option R51 := run (E51 n) (cB (cB (cB c51))) (Ann.snd (Ann.snd (Ann.snd an51))) rt51 (fun _ _ => none) rt51
noncomputable def xb51_5 (n : Nat × Nat) : Nat → St → Option R51 := fun j s => bif Nat.beq j 0 then normC [] s (kq51_3 n) else (fun _ _ => none) j s
noncomputable def F51_6 (n : Nat × Nat) : (St → Option R51) → St → Option R51 := fun K s => run (E51 n) (cA (cA (cB (cA (cB (cB c51)))))) (Ann.fst (Ann.fst (Ann.snd (Ann.fst (Ann.snd (Ann.snd an51)))))) (fun s => normC [0, 1, 5] s K) (xb51_5 n) rt51 s
noncomputable def L51_1 (n : Nat × Nat) (m : Nat) (a0 : List (Int × Int)) (b1 : List (Int × Int)) (i5 : Int) : Option R51 := loopN (F51_6 n) m { tm := [.c (.sl (.pair (.int .i64) (.int .i64)) a0 false), .c (.sl (.pair (.int .i64) (.int .i64)) b1 false), uu, uu, uu, .c (.int .i64 i5), uu, uu, uu, uu, uu, uu, uu, uu, uu, uu, uu, uu, uu, uu, uu, uu, uu, uu, uu, uu], hp := emp }
theorem L51_1_eq (n : Nat × Nat) (m1 : Nat) (a0 : List (Int × Int)) (b1 : List (Int × Int)) (i5 : Int) : L51_1 n (m1 + 1) a0 b1 i5 =
 (bif decide (i5 < (a0.length : Int)) then (idx a0 i5).bind fun x1' =>
 (idx b1 i5).bind fun x2' =>
 (bif (!((x1'.1 == x2'.1) && ((x1'.2 == x2'.2) && true))) then some false
 else L51_1 n m1 a0 b1 (wr .i64 (i5 + 1)))
 else some true) := by kernel_rfl
noncomputable def S51 (n : Nat × Nat) (a0 : List (Int × Int)) (b1 : List (Int × Int)) : Option R51 := run (E51 n) c51 an51 rt51 (fun _ _ => none) rt51 { tm := [.c (.sl (.pair (.int .i64) (.int .i64)) a0 false), .c (.sl (.pair (.int .i64) (.int .i64)) b1 false), uu, uu, uu, uu, uu, uu, uu, uu, uu, uu, uu, uu, uu, uu, uu, uu, uu, uu, uu, uu, uu, uu, uu, uu], hp := emp }
theorem S51_eq (n : Nat × Nat) (a0 : List (Int × Int)) (b1 : List (Int × Int)) : S51 n a0 b1 =
 (bif ((a0.length : Int) != (b1.length : Int)) then some false
 else L51_1 n n.1 a0 b1 0) := by kernel_rfl
theorem S51_run (n : Nat × Nat) (xs : pksDen pk51) : S51 n xs.1 xs.2.1 = runG (E51 n) noScope c51 an51 (rtG rk51) (fun _ _ => none) (rtG rk51) (st0 pk51 xs Try.f51.ntmps) := by kernel_rfl
noncomputable def P51 (n : Nat × Nat) := phiOf pk51 rk51 (fun xs => S51 n xs.1 xs.2.1)
theorem call51 : CallOK Try.prog 51 := callOK_of Try.func51 (by kernel_rfl) (by kernel_rfl)
theorem env51 (n : Nat × Nat) : EnvOK Try.prog (E51 n) := envOK0 noPhi_ok rfl rfl
theorem par51 (n : Nat × Nat) : EnvPar (E51 n) := envPar0 noPhi_par rfl
theorem FC51 (n : Nat × Nat) : FCs Try.prog 51 (P51 n) := phiOf_FCs fun xs r h vs hv => FC.of_runG tabOK eqsOK (env51 n) (par51 n) mixed (fun _ => noScope_ok) Try.func51 (c := c51) (an := an51) (pks := pk51) (rks := rk51) (by kernel_rfl) (by kernel_rfl) hv ((S51_run n xs).symm.trans h)
abbrev R41 := Int
noncomputable def c41 : Code := bodyOf Try.f41
noncomputable def an41 : Ann := (.s .l (.s .l (.s (.s .l (.j [0, 2, 3, 9] .l .l)) (.s (.s .l (.j [] (.s .l (.j [] .l (.s .l (.j [] .l .l)))) .l)) .l))))
def pk41 : List PK := [.c (.sl (.pair (.int .i64) (.int .i64))), .c (.sl (.int .i64)), .c (.int .i64), .c (.int .i64)]
def rk41 : List RK := [.c (.int .i64) 8]
noncomputable def rt41 (st : St) : Option R41 := rtG rk41 st
noncomputable def E41 (n : Nat × Nat) : Env := { T := tab, phi := (consPhi 35 (fun _ => true) (P35 n) (consPhi 58 (fun _ => true) (P58 n) (consPhi 61 (fun _ => true) (P61 n) noPhi))), eff := fun _ => false, fuel := n.1, hold := n.2 }
noncomputable def S41 (n : Nat × Nat) (sheets0 : List (Int × Int)) (order1 : List Int) (machine2 : Int) (k3 : Int) : Option R41 := run (E41 n) c41 an41 rt41 (fun _ _ => none) rt41 { tm := [.c (.sl (.pair (.int .i64) (.int .i64)) sheets0 false), .c (.sl (.int .i64) order1 false), .c (.int .i64 machine2), .c (.int .i64 k3), uu, uu, uu, uu, uu, uu, uu, uu, uu, uu, uu, uu, uu, uu, uu, uu, uu, uu, uu, uu, uu, uu, uu, uu, uu, uu, uu, uu, uu, uu, uu, uu, uu, uu], hp := emp }
theorem S41_eq (n : Nat × Nat) (sheets0 : List (Int × Int)) (order1 : List Int) (machine2 : Int) (k3 : Int) : S41 n sheets0 order1 machine2 k3 =
 (S58 n sheets0 order1).bind fun r1' =>
 (bif (r1'.2 != 0) then some r1'.2
 else (S35 n sheets0 machine2 k3).bind fun r2' =>
 (bif (r2'.2 != 0) then some r2'.2
 else (S61 n r1'.1).bind fun r3' =>
 (bif (r2'.1 != r3') then some 14
 else some 0))) := by kernel_rfl
theorem S41_run (n : Nat × Nat) (xs : pksDen pk41) : S41 n xs.1 xs.2.1 xs.2.2.1 xs.2.2.2.1 = runG (E41 n) noScope c41 an41 (rtG rk41) (fun _ _ => none) (rtG rk41) (st0 pk41 xs Try.f41.ntmps) := by kernel_rfl
noncomputable def P41 (n : Nat × Nat) := phiOf pk41 rk41 (fun xs => S41 n xs.1 xs.2.1 xs.2.2.1 xs.2.2.2.1)
theorem call41 : CallOK Try.prog 41 := callOK_of Try.func41 (by kernel_rfl) (by kernel_rfl)
theorem env41 (n : Nat × Nat) : EnvOK Try.prog (E41 n) := envOK0 (consPhi_ok (FC35 n) call35 (consPhi_ok (FC58 n) call58 (consPhi_ok (FC61 n) call61 noPhi_ok))) rfl rfl
theorem par41 (n : Nat × Nat) : EnvPar (E41 n) := envPar0 (consPhi_par phiOf_Par1 (consPhi_par phiOf_Par1 (consPhi_par phiOf_Par1 noPhi_par))) rfl
theorem FC41 (n : Nat × Nat) : FCs Try.prog 41 (P41 n) := phiOf_FCs fun xs r h vs hv => FC.of_runG tabOK eqsOK (env41 n) (par41 n) mixed (fun _ => noScope_ok) Try.func41 (c := c41) (an := an41) (pks := pk41) (rks := rk41) (by kernel_rfl) (by kernel_rfl) hv ((S41_run n xs).symm.trans h)
abbrev R14 := Bool
noncomputable def c14 : Code := bodyOf Try.f14
noncomputable def an14 : Ann := (.s .l (.s .l (.s .l (.s .l (.s .l (.s .l (.s .l (.s .l (.s (.s .l (.j [1, 2, 4, 6, 8, 10, 12, 14, 128, 129, 132, 133, 136, 137, 140, 141, 144, 145, 148, 149, 150, 151, 154, 155, 156, 157, 160, 161, 164, 165, 168, 169, 172, 173, 174, 175, 178, 179, 180, 181, 184, 185, 188, 191, 192, 195, 196, 199, 200, 203, 204, 207, 208, 209, 210, 213, 214, 215, 216, 217, 220, 221, 222, 223, 224] .l .l)) .l)))))))))
def pk14 : List PK := []
def rk14 : List RK := [.c .bool 0]
noncomputable def rt14 (st : St) : Option R14 := rtG rk14 st
noncomputable def E14 (n : Nat × Nat) : Env := { T := tab, phi := (consPhi 16 (fun _ => true) (P16 n) (consPhi 18 (fun _ => true) (P18 n) (consPhi 19 (fun _ => true) (P19 n) (consPhi 21 (fun _ => true) (P21 n) (consPhi 23 (fun _ => true) (P23 n) (consPhi 27 (fun _ => true) (P27 n) (consPhi 29 (fun _ => true) (P29 n) (consPhi 31 (fun _ => true) (P31 n) (consPhi 33 (fun _ => true) (P33 n) (consPhi 35 (fun _ => true) (P35 n) (consPhi 37 (fun _ => true) (P37 n) (consPhi 39 (fun _ => true) (P39 n) (consPhi 41 (fun _ => true) (P41 n) (consPhi 51 (fun _ => true) (P51 n) (consPhi 52 (fun _ => true) (P52 n) (consPhi 55 (fun _ => true) (P55 n) noPhi)))))))))))))))), eff := fun g => Nat.beq g 27 || Nat.beq g 29, fuel := n.1, hold := n.2 }
noncomputable def S14 (n : Nat × Nat) : Option R14 := run (E14 n) c14 an14 rt14 (fun _ _ => none) rt14 { tm := [uu, uu, uu, uu, uu, uu, uu, uu, uu, uu, uu, uu, uu, uu, uu, uu, uu, uu, uu, uu, uu, uu, uu, uu, uu, uu, uu, uu, uu, uu, uu, uu, uu, uu, uu, uu, uu, uu, uu, uu, uu, uu, uu, uu, uu, uu, uu, uu, uu, uu, uu, uu, uu, uu, uu, uu, uu, uu, uu, uu, uu, uu, uu, uu, uu, uu, uu, uu, uu, uu, uu, uu, uu, uu, uu, uu, uu, uu, uu, uu, uu, uu, uu, uu, uu, uu, uu, uu, uu, uu, uu, uu, uu, uu, uu, uu, uu, uu, uu, uu, uu, uu, uu, uu, uu, uu, uu, uu, uu, uu, uu, uu, uu, uu, uu, uu, uu, uu, uu, uu, uu, uu, uu, uu, uu, uu, uu, uu, uu, uu, uu, uu, uu, uu, uu, uu, uu, uu, uu, uu, uu, uu, uu, uu, uu, uu, uu, uu, uu, uu, uu, uu, uu, uu, uu, uu, uu, uu, uu, uu, uu, uu, uu, uu, uu, uu, uu, uu, uu, uu, uu, uu, uu, uu, uu, uu, uu, uu, uu, uu, uu, uu, uu, uu, uu, uu, uu, uu, uu, uu, uu, uu, uu, uu, uu, uu, uu, uu, uu, uu, uu, uu, uu, uu, uu, uu, uu, uu, uu, uu, uu, uu, uu, uu, uu, uu, uu, uu, uu, uu, uu, uu, uu, uu, uu, uu], hp := emp }
theorem S14_eq (n : Nat × Nat) : S14 n =
 (S52 n).bind fun r1' =>
 (S16 n r1' [1, 0, 2]).bind fun r2' =>
 (S52 n).bind fun r3' =>
 (S19 n r3' [0, 1, 2]).bind fun r4' =>
 (S52 n).bind fun r5' =>
 (S21 n r5' [0, 1, 2]).bind fun r6' =>
 (S52 n).bind fun r7' =>
 (S23 n r7' [1, 0, 2]).bind fun r8' =>
 (S52 n).bind fun r9' =>
 (S27 n r9').bind fun r10' =>
 (S52 n).bind fun r11' =>
 (S29 n r11').bind fun r12' =>
 (S52 n).bind fun r13' =>
 (S31 n r13').bind fun r14' =>
 ((bif ((r2'.2.2 != 0) == false) then some (r4'.2 != 0)
 else some true)).bind fun b15' =>
 ((bif (b15' == false) then some (r6'.2 != 0)
 else some true)).bind fun b16' =>
 ((bif (b16' == false) then some (r8'.2 != 0)
 else some true)).bind fun b17' =>
 ((bif (b17' == false) then some (r10'.2 != 0)
 else some true)).bind fun b18' =>
 ((bif (b18' == false) then some (r12'.2 != 0)
 else some true)).bind fun b19' =>
 ((bif (b19' == false) then some (r14'.2 != 0)
 else some true)).bind fun b20' =>
 (bif b20' then some false
 else (S52 n).bind fun r21' =>
 (S33 n r21' 1 0).bind fun r22' =>
 (S52 n).bind fun r23' =>
 (S33 n r23' 0 1).bind fun r24' =>
 (S52 n).bind fun r25' =>
 (S35 n r25' 1 2).bind fun r26' =>
 (S52 n).bind fun r27' =>
 (S37 n r27').bind fun r28' =>
 (S52 n).bind fun r29' =>
 (S39 n r29').bind fun r30' =>
 (S52 n).bind fun r31' =>
 (S19 n r31' [0, 1, 1]).bind fun r32' =>
 ((bif ((r22'.2 == 0) == true) then some (r24'.2 == 0)
 else some false)).bind fun b33' =>
 ((bif (b33' == true) then some (r26'.2 == 0)
 else some false)).bind fun b34' =>
 ((bif (b34' == true) then some (r28'.2.2 == 0)
 else some false)).bind fun b35' =>
 ((bif (b35' == true) then some (r30'.2 == 0)
 else some false)).bind fun b36' =>
 ((bif (b36' == true) then some (r32'.2 == 6)
 else some false)).bind fun b37' =>
 ((bif (b37' == true) then (S18 n r2'.1 [1, 4, 9]).bind fun r38' =>
 some r38'
 else some false)).bind fun b39' =>
 ((bif (b39' == true) then (S18 n r2'.2.1 [5, 7, 10]).bind fun r40' =>
 some r40'
 else some false)).bind fun b41' =>
 ((bif (b41' == true) then some (r4'.1 == 10)
 else some false)).bind fun b42' =>
 ((bif (b42' == true) then some (r6'.1 == 3)
 else some false)).bind fun b43' =>
 ((bif (b43' == true) then some (r8'.1 == 2)
 else some false)).bind fun b44' =>
 ((bif (b44' == true) then (S18 n r10'.1 [1, 0, 2]).bind fun r45' =>
 some r45'
 else some false)).bind fun b46' =>
 ((bif (b46' == true) then (S18 n r12'.1 [0, 1, 2]).bind fun r47' =>
 some r47'
 else some false)).bind fun b48' =>
 ((bif (b48' == true) then some (r14'.1 == 2)
 else some false)).bind fun b49' =>
 ((bif (b49' == true) then some r22'.1
 else some false)).bind fun b50' =>
 ((bif (b50' == true) then some (!r24'.1)
 else some false)).bind fun b51' =>
 ((bif (b51' == true) then some (r26'.1 == 10)
 else some false)).bind fun b52' =>
 ((bif (b52' == true) then some (r28'.1 == 1)
 else some false)).bind fun b53' =>
 ((bif (b53' == true) then some (r28'.2.1 == 2)
 else some false)).bind fun b54' =>
 ((bif (b54' == true) then (S55 n [1, 5, 4, 1, 2, 3]).bind fun r55' =>
 (S51 n r30'.1 r55').bind fun r56' =>
 some r56'
 else some false)).bind fun b57' =>
 ((bif (b57' == true) then (S52 n).bind fun r58' =>
 (S41 n r58' [0, 1, 2] 1 2).bind fun r59' =>
 some (r59' == 0)
 else some false)).bind fun b60' =>
 ((bif (b60' == true) then (S52 n).bind fun r61' =>
 (S41 n r61' [2, 1, 0] 1 2).bind fun r62' =>
 some (r62' == 14)
 else some false)).bind fun b63' =>
 some b63') := by kernel_rfl
theorem S14_run (n : Nat × Nat) (xs : pksDen pk14) : S14 n = runG (E14 n) noScope c14 an14 (rtG rk14) (fun _ _ => none) (rtG rk14) (st0 pk14 xs Try.f14.ntmps) := by kernel_rfl
noncomputable def P14 (n : Nat × Nat) := phiOf pk14 rk14 (fun xs => S14 n)
theorem call14 : CallOK Try.prog 14 := callOK_of Try.func14 (by kernel_rfl) (by kernel_rfl)
theorem env14 (n : Nat × Nat) : EnvOK Try.prog (E14 n) := envOK0 (consPhi_ok (FC16 n) call16 (consPhi_ok (FC18 n) call18 (consPhi_ok (FC19 n) call19 (consPhi_ok (FC21 n) call21 (consPhi_ok (FC23 n) call23 (consPhi_ok (FC27 n) call27 (consPhi_ok (FC29 n) call29 (consPhi_ok (FC31 n) call31 (consPhi_ok (FC33 n) call33 (consPhi_ok (FC35 n) call35 (consPhi_ok (FC37 n) call37 (consPhi_ok (FC39 n) call39 (consPhi_ok (FC41 n) call41 (consPhi_ok (FC51 n) call51 (consPhi_ok (FC52 n) call52 (consPhi_ok (FC55 n) call55 noPhi_ok)))))))))))))))) rfl rfl
theorem par14 (n : Nat × Nat) : EnvPar (E14 n) := envPar0 (consPhi_par phiOf_Par1 (consPhi_par phiOf_Par1 (consPhi_par phiOf_Par1 (consPhi_par phiOf_Par1 (consPhi_par phiOf_Par1 (consPhi_par phiOf_Par1 (consPhi_par phiOf_Par1 (consPhi_par phiOf_Par1 (consPhi_par phiOf_Par1 (consPhi_par phiOf_Par1 (consPhi_par phiOf_Par1 (consPhi_par phiOf_Par1 (consPhi_par phiOf_Par1 (consPhi_par phiOf_Par1 (consPhi_par phiOf_Par1 (consPhi_par phiOf_Par1 noPhi_par)))))))))))))))) rfl
theorem FC14 (n : Nat × Nat) : FCs Try.prog 14 (P14 n) := phiOf_FCs fun xs r h vs hv => FC.of_runG tabOK eqsOK (env14 n) (par14 n) mixed (fun _ => noScope_ok) Try.func14 (c := c14) (an := an14) (pks := pk14) (rks := rk14) (by kernel_rfl) (by kernel_rfl) hv ((S14_run n xs).symm.trans h)
/-D 55 -/
noncomputable def DF55_1 (n : Nat × Nat) (f1 : List Int → Int → (List (Int × Int)) → Option R55) (l0 : List Int) (i4 : Int) (out3 : List (Int × Int)) : Option R55 :=
 (bif decide (wr .i64 (i4 + 1) < (l0.length : Int)) then (idx l0 i4).bind fun x1' =>
 (idx l0 (wr .i64 (i4 + 1))).bind fun x2' =>
 (bif decide (out3.length + [(x1', x2')].length ≤ lim) then f1 l0 (wr .i64 (i4 + 2)) (out3 ++ [(x1', x2')])
 else none)
 else some out3)
noncomputable def DL55_1 (n : Nat × Nat) (m : Nat) : List Int → Int → (List (Int × Int)) → Option R55 := Nat.rec (motive := fun _ => List Int → Int → (List (Int × Int)) → Option R55) (fun _ _ _ => none) (fun _ ih => DF55_1 n ih) m
theorem DL55_1_succ (n : Nat × Nat) (m : Nat) : DL55_1 n (m + 1) = DF55_1 n (DL55_1 n m) := rfl
theorem DL55_1_eq (n : Nat × Nat) (hn : n.2 = 1) : ∀ m, L55_1 n m = DL55_1 n m
  | 0 => by funext l0 i4 out3; kernel_rfl
  | m + 1 => by
    have ih := DL55_1_eq n hn m
    funext l0 i4 out3; refine (L55_1_eq n m l0 i4 out3).trans ?_
    rw [DL55_1_succ]
    unfold DF55_1
    (try simp only [ih]) <;> first | with_reducible rfl | rfl
noncomputable def D55 (n : Nat × Nat) (l0 : List Int) : Option R55 :=
    DL55_1 n n.1 l0 0 []
theorem S55_D (n : Nat × Nat) (hn : n.2 = 1) : S55 n = D55 n := by
  funext l0; refine (S55_eq n l0).trans ?_
  unfold D55
  (try simp only [DL55_1_eq n hn]) <;> first | with_reducible rfl | rfl
/-D 52 -/
noncomputable def D52 (n : Nat × Nat) : Option R52 :=
 (D55 n [3, 2, 1, 4, 5, 1]).bind fun r1' =>
 some r1'
theorem S52_D (n : Nat × Nat) (hn : n.2 = 1) : S52 n = D52 n := by
  refine (S52_eq n).trans ?_
  unfold D52
  (try simp only [S55_D n hn]) <;> first | with_reducible rfl | rfl
/-D 25 -/
noncomputable def DF25_1 (n : Nat × Nat) (f1 : (List (Int × Int)) → Int → Int → Option R25) (v13 : List (Int × Int)) (v14 : Int) (v15 : Int) : Option R25 :=
 (bif decide (v15 < v14) then (idx v13 v15).bind fun x1' =>
 ((bif (decide ((if x1'.2 < x1'.1 then x1'.2 else x1'.1) < 0) == false) then some (decide ((if x1'.2 > x1'.1 then x1'.2 else x1'.1) > 50))
 else some true)).bind fun b2' =>
 (bif b2' then some 1
 else f1 v13 v14 (wr .i64 (v15 + 1)))
 else some 0)
noncomputable def DL25_1 (n : Nat × Nat) (m : Nat) : (List (Int × Int)) → Int → Int → Option R25 := Nat.rec (motive := fun _ => (List (Int × Int)) → Int → Int → Option R25) (fun _ _ _ => none) (fun _ ih => DF25_1 n ih) m
theorem DL25_1_succ (n : Nat × Nat) (m : Nat) : DL25_1 n (m + 1) = DF25_1 n (DL25_1 n m) := rfl
theorem DL25_1_eq (n : Nat × Nat) (hn : n.2 = 1) : ∀ m, L25_1 n m = DL25_1 n m
  | 0 => by funext v13 v14 v15; kernel_rfl
  | m + 1 => by
    have ih := DL25_1_eq n hn m
    funext v13 v14 v15; refine (L25_1_eq n m v13 v14 v15).trans ?_
    rw [DL25_1_succ]
    unfold DF25_1
    (try simp only [ih]) <;> first | with_reducible rfl | rfl
noncomputable def D25 (n : Nat × Nat) (sheets0 : List (Int × Int)) : Option R25 :=
 (bif ((sheets0.length : Int) == 0) then some 4
 else (bif decide ((sheets0.length : Int) > 7) then some 3
 else DL25_1 n n.1 sheets0 (sheets0.length : Int) 0))
theorem S25_D (n : Nat × Nat) (hn : n.2 = 1) : S25 n = D25 n := by
  funext sheets0; refine (S25_eq n sheets0).trans ?_
  unfold D25
  (try simp only [DL25_1_eq n hn]) <;> first | with_reducible rfl | rfl
/-D 65 -/
noncomputable def DF65_1 (n : Nat × Nat) (f1 : List Int → Int → Int → Int → Option R65) (s0 : List Int) (v1 : Int) (v7 : Int) (v8 : Int) : Option R65 :=
 (bif decide (v8 < v7) then (idx s0 v8).bind fun x1' =>
 (bif (v1 == x1') then some v8
 else f1 s0 v1 v7 (wr .i64 (v8 + 1)))
 else some (-1))
noncomputable def DL65_1 (n : Nat × Nat) (m : Nat) : List Int → Int → Int → Int → Option R65 := Nat.rec (motive := fun _ => List Int → Int → Int → Int → Option R65) (fun _ _ _ _ => none) (fun _ ih => DF65_1 n ih) m
theorem DL65_1_succ (n : Nat × Nat) (m : Nat) : DL65_1 n (m + 1) = DF65_1 n (DL65_1 n m) := rfl
theorem DL65_1_eq (n : Nat × Nat) (hn : n.2 = 1) : ∀ m, L65_1 n m = DL65_1 n m
  | 0 => by funext s0 v1 v7 v8; kernel_rfl
  | m + 1 => by
    have ih := DL65_1_eq n hn m
    funext s0 v1 v7 v8; refine (L65_1_eq n m s0 v1 v7 v8).trans ?_
    rw [DL65_1_succ]
    unfold DF65_1
    (try simp only [ih]) <;> first | with_reducible rfl | rfl
noncomputable def D65 (n : Nat × Nat) (s0 : List Int) (v1 : Int) : Option R65 :=
    DL65_1 n n.1 s0 v1 (s0.length : Int) 0
theorem S65_D (n : Nat × Nat) (hn : n.2 = 1) : S65 n = D65 n := by
  funext s0 v1; refine (S65_eq n s0 v1).trans ?_
  unfold D65
  (try simp only [DL65_1_eq n hn]) <;> first | with_reducible rfl | rfl
/-D 80 -/
noncomputable def D80 (n : Nat × Nat) (s0 : List Int) (v1 : Int) : Option R80 :=
 (D65 n s0 v1).bind fun r1' =>
 some (decide (r1' ≥ 0))
theorem S80_D (n : Nat × Nat) (hn : n.2 = 1) : S80 n = D80 n := by
  funext s0 v1; refine (S80_eq n s0 v1).trans ?_
  unfold D80
  (try simp only [S65_D n hn]) <;> first | with_reducible rfl | rfl
/-D 58 -/
noncomputable def DF58_1 (n : Nat × Nat) (f1 : (List (Int × Int)) → List Int → List Int → Int → Int → (List (Int × Int)) → Option R58) (sheets0 : List (Int × Int)) (order1 : List Int) (v22 : List Int) (v23 : Int) (v24 : Int) (out7 : List (Int × Int)) : Option R58 :=
 (bif decide (v24 < v23) then (idx v22 v24).bind fun x2' =>
 ((bif (decide (x2' < 0) == false) then some (decide (x2' ≥ (sheets0.length : Int)))
 else some true)).bind fun b3' =>
 (bif b3' then some ([], 2)
 else (bif bounds none (some v24) none order1.length then (D80 n (order1.take (Int.toNat v24)) x2').bind fun r4' =>
 (bif r4' then some ([], 6)
 else (idx sheets0 x2').bind fun x5' =>
 (bif decide (out7.length + [x5'].length ≤ lim) then f1 sheets0 order1 v22 v23 (wr .i64 (v24 + 1)) (out7 ++ [x5'])
 else none))
 else none))
 else some (out7, 0))
noncomputable def DL58_1 (n : Nat × Nat) (m : Nat) : (List (Int × Int)) → List Int → List Int → Int → Int → (List (Int × Int)) → Option R58 := Nat.rec (motive := fun _ => (List (Int × Int)) → List Int → List Int → Int → Int → (List (Int × Int)) → Option R58) (fun _ _ _ _ _ _ => none) (fun _ ih => DF58_1 n ih) m
theorem DL58_1_succ (n : Nat × Nat) (m : Nat) : DL58_1 n (m + 1) = DF58_1 n (DL58_1 n m) := rfl
theorem DL58_1_eq (n : Nat × Nat) (hn : n.2 = 1) : ∀ m, L58_1 n m = DL58_1 n m
  | 0 => by funext sheets0 order1 v22 v23 v24 out7; kernel_rfl
  | m + 1 => by
    have ih := DL58_1_eq n hn m
    funext sheets0 order1 v22 v23 v24 out7; refine (L58_1_eq n m sheets0 order1 v22 v23 v24 out7).trans ?_
    rw [DL58_1_succ]
    unfold DF58_1
    (try simp only [ih, S25_D n hn, S80_D n hn]) <;> first | with_reducible rfl | rfl
noncomputable def D58 (n : Nat × Nat) (sheets0 : List (Int × Int)) (order1 : List Int) : Option R58 :=
 (D25 n sheets0).bind fun r1' =>
 (bif (r1' != 0) then some ([], r1')
 else (bif ((order1.length : Int) != (sheets0.length : Int)) then some ([], 5)
 else DL58_1 n n.1 sheets0 order1 order1 (order1.length : Int) 0 []))
theorem S58_D (n : Nat × Nat) (hn : n.2 = 1) : S58 n = D58 n := by
  funext sheets0 order1; refine (S58_eq n sheets0 order1).trans ?_
  unfold D58
  (try simp only [DL58_1_eq n hn, S25_D n hn, S80_D n hn]) <;> first | with_reducible rfl | rfl
/-D 16 -/
noncomputable def DF16_1 (n : Nat × Nat) (f1 : Int → Int → Int → Int → List Int → List Int → (List (Int × Int)) → Option R16) (a8 : Int) (b9 : Int) (v22 : Int) (v23 : Int) (v4 : List Int) (printed5 : List Int) (v21 : List (Int × Int)) : Option R16 :=
 (bif decide (v23 < v22) then (bif inB v23 v21.length then (idx v21 v23).bind fun x2' =>
 (bif decide (v4.length + [wr .i64 (a8 + x2'.1)].length ≤ lim) then (bif decide (printed5.length + [wr .i64 ((if b9 > (wr .i64 (a8 + x2'.1)) then b9 else (wr .i64 (a8 + x2'.1))) + x2'.2)].length ≤ lim) then f1 (wr .i64 (a8 + x2'.1)) (wr .i64 ((if b9 > (wr .i64 (a8 + x2'.1)) then b9 else (wr .i64 (a8 + x2'.1))) + x2'.2)) v22 (wr .i64 (v23 + 1)) (v4 ++ [wr .i64 (a8 + x2'.1)]) (printed5 ++ [wr .i64 ((if b9 > (wr .i64 (a8 + x2'.1)) then b9 else (wr .i64 (a8 + x2'.1))) + x2'.2)]) v21
 else none)
 else none)
 else none)
 else some (v4, printed5, 0))
noncomputable def DL16_1 (n : Nat × Nat) (m : Nat) : Int → Int → Int → Int → List Int → List Int → (List (Int × Int)) → Option R16 := Nat.rec (motive := fun _ => Int → Int → Int → Int → List Int → List Int → (List (Int × Int)) → Option R16) (fun _ _ _ _ _ _ _ => none) (fun _ ih => DF16_1 n ih) m
theorem DL16_1_succ (n : Nat × Nat) (m : Nat) : DL16_1 n (m + 1) = DF16_1 n (DL16_1 n m) := rfl
theorem DL16_1_eq (n : Nat × Nat) (hn : n.2 = 1) : ∀ m, L16_1 n m = DL16_1 n m
  | 0 => by funext a8 b9 v22 v23 v4 printed5 v21; kernel_rfl
  | m + 1 => by
    have ih := DL16_1_eq n hn m
    funext a8 b9 v22 v23 v4 printed5 v21; refine (L16_1_eq n m a8 b9 v22 v23 v4 printed5 v21).trans ?_
    rw [DL16_1_succ]
    unfold DF16_1
    (try simp only [ih, S58_D n hn]) <;> first | with_reducible rfl | rfl
noncomputable def D16 (n : Nat × Nat) (sheets0 : List (Int × Int)) (order1 : List Int) : Option R16 :=
 (D58 n sheets0 order1).bind fun r1' =>
 (bif (r1'.2 != 0) then some ([], [], r1'.2)
 else DL16_1 n n.1 0 0 (r1'.1.length : Int) 0 [] [] r1'.1)
theorem S16_D (n : Nat × Nat) (hn : n.2 = 1) : S16 n = D16 n := by
  funext sheets0 order1; refine (S16_eq n sheets0 order1).trans ?_
  unfold D16
  (try simp only [DL16_1_eq n hn, S58_D n hn]) <;> first | with_reducible rfl | rfl
/-D 64 -/
noncomputable def DF64_1 (n : Nat × Nat) (f1 : Int → (List (Int × Int)) → Int → Int → List Int → Option R64) (machine1 : Int) (v8 : List (Int × Int)) (v9 : Int) (v10 : Int) (out5 : List Int) : Option R64 :=
 (bif decide (v10 < v9) then (idx v8 v10).bind fun x1' =>
 (idx [x1'.1, x1'.2] machine1).bind fun x2' =>
 (bif decide (out5.length + [x2'].length ≤ lim) then f1 machine1 v8 v9 (wr .i64 (v10 + 1)) (out5 ++ [x2'])
 else none)
 else some out5)
noncomputable def DL64_1 (n : Nat × Nat) (m : Nat) : Int → (List (Int × Int)) → Int → Int → List Int → Option R64 := Nat.rec (motive := fun _ => Int → (List (Int × Int)) → Int → Int → List Int → Option R64) (fun _ _ _ _ _ => none) (fun _ ih => DF64_1 n ih) m
theorem DL64_1_succ (n : Nat × Nat) (m : Nat) : DL64_1 n (m + 1) = DF64_1 n (DL64_1 n m) := rfl
theorem DL64_1_eq (n : Nat × Nat) (hn : n.2 = 1) : ∀ m, L64_1 n m = DL64_1 n m
  | 0 => by funext machine1 v8 v9 v10 out5; kernel_rfl
  | m + 1 => by
    have ih := DL64_1_eq n hn m
    funext machine1 v8 v9 v10 out5; refine (L64_1_eq n m machine1 v8 v9 v10 out5).trans ?_
    rw [DL64_1_succ]
    unfold DF64_1
    (try simp only [ih]) <;> first | with_reducible rfl | rfl
noncomputable def D64 (n : Nat × Nat) (sheets0 : List (Int × Int)) (machine1 : Int) : Option R64 :=
    DL64_1 n n.1 machine1 sheets0 (sheets0.length : Int) 0 []
theorem S64_D (n : Nat × Nat) (hn : n.2 = 1) : S64 n = D64 n := by
  funext sheets0 machine1; refine (S64_eq n sheets0 machine1).trans ?_
  unfold D64
  (try simp only [DL64_1_eq n hn]) <;> first | with_reducible rfl | rfl
/-D 63 -/
noncomputable def DF63_1 (n : Nat × Nat) (f1 : Int → List Int → Int → Int → Option R63) (v3 : Int) (v6 : List Int) (v7 : Int) (v8 : Int) : Option R63 :=
 (bif decide (v8 < v7) then (idx v6 v8).bind fun x1' =>
      f1 (wr .i64 (v3 + x1')) v6 v7 (wr .i64 (v8 + 1))
 else some v3)
noncomputable def DL63_1 (n : Nat × Nat) (m : Nat) : Int → List Int → Int → Int → Option R63 := Nat.rec (motive := fun _ => Int → List Int → Int → Int → Option R63) (fun _ _ _ _ => none) (fun _ ih => DF63_1 n ih) m
theorem DL63_1_succ (n : Nat × Nat) (m : Nat) : DL63_1 n (m + 1) = DF63_1 n (DL63_1 n m) := rfl
theorem DL63_1_eq (n : Nat × Nat) (hn : n.2 = 1) : ∀ m, L63_1 n m = DL63_1 n m
  | 0 => by funext v3 v6 v7 v8; kernel_rfl
  | m + 1 => by
    have ih := DL63_1_eq n hn m
    funext v3 v6 v7 v8; refine (L63_1_eq n m v3 v6 v7 v8).trans ?_
    rw [DL63_1_succ]
    unfold DF63_1
    (try simp only [ih]) <;> first | with_reducible rfl | rfl
noncomputable def D63 (n : Nat × Nat) (l0 : List Int) : Option R63 :=
    DL63_1 n n.1 0 l0 (l0.length : Int) 0
theorem S63_D (n : Nat × Nat) (hn : n.2 = 1) : S63 n = D63 n := by
  funext l0; refine (S63_eq n l0).trans ?_
  unfold D63
  (try simp only [DL63_1_eq n hn]) <;> first | with_reducible rfl | rfl
/-D 66 -/
noncomputable def DF66_1 (n : Nat × Nat) (f1 : (List (Int × Int)) → Int → Int → List Int → Option R66) (l0 : List (Int × Int)) (v6 : Int) (v7 : Int) (out3 : List Int) : Option R66 :=
 (bif decide (v7 < v6) then (bif bounds none (some (wr .i64 (v7 + 1))) none l0.length then (D64 n (l0.take (Int.toNat (wr .i64 (v7 + 1)))) 0).bind fun r1' =>
 (D63 n r1').bind fun r2' =>
 (bif bounds (some v7) none none l0.length then (D64 n (l0.drop (Int.toNat v7)) 1).bind fun r3' =>
 (D63 n r3').bind fun r4' =>
 (bif decide (out3.length + [wr .i64 (r2' + r4')].length ≤ lim) then f1 l0 v6 (wr .i64 (v7 + 1)) (out3 ++ [wr .i64 (r2' + r4')])
 else none)
 else none)
 else none)
 else some out3)
noncomputable def DL66_1 (n : Nat × Nat) (m : Nat) : (List (Int × Int)) → Int → Int → List Int → Option R66 := Nat.rec (motive := fun _ => (List (Int × Int)) → Int → Int → List Int → Option R66) (fun _ _ _ _ => none) (fun _ ih => DF66_1 n ih) m
theorem DL66_1_succ (n : Nat × Nat) (m : Nat) : DL66_1 n (m + 1) = DF66_1 n (DL66_1 n m) := rfl
theorem DL66_1_eq (n : Nat × Nat) (hn : n.2 = 1) : ∀ m, L66_1 n m = DL66_1 n m
  | 0 => by funext l0 v6 v7 out3; kernel_rfl
  | m + 1 => by
    have ih := DL66_1_eq n hn m
    funext l0 v6 v7 out3; refine (L66_1_eq n m l0 v6 v7 out3).trans ?_
    rw [DL66_1_succ]
    unfold DF66_1
    (try simp only [ih, S63_D n hn, S64_D n hn]) <;> first | with_reducible rfl | rfl
noncomputable def D66 (n : Nat × Nat) (l0 : List (Int × Int)) : Option R66 :=
    DL66_1 n n.1 l0 (l0.length : Int) 0 []
theorem S66_D (n : Nat × Nat) (hn : n.2 = 1) : S66 n = D66 n := by
  funext l0; refine (S66_eq n l0).trans ?_
  unfold D66
  (try simp only [DL66_1_eq n hn, S63_D n hn, S64_D n hn]) <;> first | with_reducible rfl | rfl
end Go.Proofs.Ytnlbhjmbaedadaa
