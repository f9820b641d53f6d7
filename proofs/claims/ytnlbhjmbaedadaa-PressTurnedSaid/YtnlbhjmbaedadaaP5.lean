/- Texts of this claim, joined: G84 to G71c74io01. -/
import Derived.KernelRfl
import Derived.Test.YtnlbhjmbaedadaaProg
import Derived.WalkKit
import Derived.Test.YtnlbhjmbaedadaaP4
set_option linter.unusedVariables false
set_option linter.unusedSimpArgs false
set_option maxRecDepth 100000
namespace Go.Proofs.Ytnlbhjmbaedadaa
open Go.Vi
abbrev R84 := Int
noncomputable def c84 : Code := bodyOf Try.f84
noncomputable def an84 : Ann := (.s .l (.s (.s .l (.j [0] (.j [0, 7, 8, 9] (.s .l (.s (.j [0, 7, 8, 9] .l .l) (.s (.j [0, 7, 8, 9] .l .l) .l))) .l) .l)) .l))
def pk84 : List PK := [.c (.int .i64), .c (.sl (.int .i64))]
def rk84 : List RK := [.c (.int .i64) 4]
noncomputable def rt84 (st : St) : Option R84 := rtG rk84 st
noncomputable def E84 (n : Nat × Nat) : Env := { T := tab, phi := noPhi, eff := fun _ => false, fuel := n.1, hold := n.2 }
noncomputable def kq84_1 (n : Nat × Nat) : St → Option R84 := run (E84 n) (cB (cB c84)) (Ann.snd (Ann.snd an84)) rt84 (fun _ _ => none) rt84
noncomputable def xb84_3 (n : Nat × Nat) : Nat → St → Option R84 := fun j s => bif Nat.beq j 0 then normC [0] s (kq84_1 n) else (fun _ _ => none) j s
noncomputable def F84_4 (n : Nat × Nat) : (St → Option R84) → St → Option R84 := fun K s => run (E84 n) (cA (cA (cB (cA (cB c84))))) (Ann.fst (Ann.fst (Ann.snd (Ann.fst (Ann.snd an84))))) (fun s => normC [0, 7, 8, 9] s K) (xb84_3 n) rt84 s
noncomputable def L84_1 (n : Nat × Nat) (m : Nat) (first0 : Int) (v7 : List Int) (v8 : Int) (v9 : Int) : Option R84 := loopN (F84_4 n) m { tm := [.c (.int .i64 first0), uu, uu, uu, uu, uu, uu, .c (.sl (.int .i64) v7 false), .c (.int .i64 v8), .c (.int .i64 v9), uu, uu, uu, uu, uu, uu, uu, uu], hp := emp }
theorem L84_1_eq (n : Nat × Nat) (m1 : Nat) (first0 : Int) (v7 : List Int) (v8 : Int) (v9 : Int) : L84_1 n (m1 + 1) first0 v7 v8 v9 =
 (bif decide (v9 < v8) then (idx v7 v9).bind fun x1' =>
      L84_1 n m1 (if x1' > first0 then x1' else first0) v7 v8 (wr .i64 (v9 + 1))
 else some first0) := by kernel_rfl
noncomputable def S84 (n : Nat × Nat) (first0 : Int) (v1 : List Int) : Option R84 := run (E84 n) c84 an84 rt84 (fun _ _ => none) rt84 { tm := [.c (.int .i64 first0), .c (.sl (.int .i64) v1 false), uu, uu, uu, uu, uu, uu, uu, uu, uu, uu, uu, uu, uu, uu, uu, uu], hp := emp }
theorem S84_eq (n : Nat × Nat) (first0 : Int) (v1 : List Int) : S84 n first0 v1 =
    L84_1 n n.1 first0 v1 (v1.length : Int) 0 := by kernel_rfl
theorem S84_run (n : Nat × Nat) (xs : pksDen pk84) : S84 n xs.1 xs.2.1 = runG (E84 n) noScope c84 an84 (rtG rk84) (fun _ _ => none) (rtG rk84) (st0 pk84 xs Try.f84.ntmps) := by kernel_rfl
noncomputable def P84 (n : Nat × Nat) := phiOf pk84 rk84 (fun xs => S84 n xs.1 xs.2.1)
theorem call84 : CallOK Try.prog 84 := callOK_of Try.func84 (by kernel_rfl) (by kernel_rfl)
theorem env84 (n : Nat × Nat) : EnvOK Try.prog (E84 n) := envOK0 noPhi_ok rfl rfl
theorem par84 (n : Nat × Nat) : EnvPar (E84 n) := envPar0 noPhi_par rfl
theorem FC84 (n : Nat × Nat) : FCs Try.prog 84 (P84 n) := phiOf_FCs fun xs r h vs hv => FC.of_runG tabOK eqsOK (env84 n) (par84 n) mixed (fun _ p _ => noScope_ok p.1 p.2) Try.func84 (c := c84) (an := an84) (pks := pk84) (rks := rk84) (by kernel_rfl) (by kernel_rfl) hv ((S84_run n xs).symm.trans h)
abbrev R61 := Int
noncomputable def c61 : Code := bodyOf Try.f61
noncomputable def an61 : Ann := .l
def pk61 : List PK := [.c (.sl (.pair (.int .i64) (.int .i64)))]
def rk61 : List RK := [.c (.int .i64) 2]
noncomputable def rt61 (st : St) : Option R61 := rtG rk61 st
noncomputable def E61 (n : Nat × Nat) : Env := { T := tab, phi := (consPhi 66 (fun _ => true) (P66 n) (consPhi 84 (fun _ => true) (P84 n) noPhi)), eff := fun _ => false, fuel := n.1, hold := n.2 }
noncomputable def S61 (n : Nat × Nat) (l0 : List (Int × Int)) : Option R61 := run (E61 n) c61 an61 rt61 (fun _ _ => none) rt61 { tm := [.c (.sl (.pair (.int .i64) (.int .i64)) l0 false), uu, uu, uu, uu, uu, uu, uu, uu, uu, uu, uu], hp := emp }
theorem S61_eq (n : Nat × Nat) (l0 : List (Int × Int)) : S61 n l0 =
 (S66 n l0).bind fun r1' =>
 (bif inB 0 r1'.length then (idx r1' 0).bind fun x2' =>
 (bif bounds (some 1) none none r1'.length then (S84 n x2' ((r1'.drop (0 + (Int.toNat 1))).take (r1'.length - (Int.toNat 1)))).bind fun r3' =>
 some r3'
 else none)
 else none) := by kernel_rfl
theorem S61_run (n : Nat × Nat) (xs : pksDen pk61) : S61 n xs.1 = runG (E61 n) noScope c61 an61 (rtG rk61) (fun _ _ => none) (rtG rk61) (st0 pk61 xs Try.f61.ntmps) := by kernel_rfl
noncomputable def P61 (n : Nat × Nat) := phiOf pk61 rk61 (fun xs => S61 n xs.1)
theorem call61 : CallOK Try.prog 61 := callOK_of Try.func61 (by kernel_rfl) (by kernel_rfl)
theorem env61 (n : Nat × Nat) : EnvOK Try.prog (E61 n) := envOK0 (consPhi_ok (FC66 n) call66 (consPhi_ok (FC84 n) call84 noPhi_ok)) rfl rfl
theorem par61 (n : Nat × Nat) : EnvPar (E61 n) := envPar0 (consPhi_par phiOf_Par1 (consPhi_par phiOf_Par1 noPhi_par)) rfl
theorem FC61 (n : Nat × Nat) : FCs Try.prog 61 (P61 n) := phiOf_FCs fun xs r h vs hv => FC.of_runG tabOK eqsOK (env61 n) (par61 n) mixed (fun _ p _ => noScope_ok p.1 p.2) Try.func61 (c := c61) (an := an61) (pks := pk61) (rks := rk61) (by kernel_rfl) (by kernel_rfl) hv ((S61_run n xs).symm.trans h)
abbrev R19 := Int × Int
noncomputable def c19 : Code := bodyOf Try.f19
noncomputable def an19 : Ann := (.s .l (.s .l (.s (.s .l (.j [6] .l .l)) .l)))
def pk19 : List PK := [.c (.sl (.pair (.int .i64) (.int .i64))), .c (.sl (.int .i64))]
def rk19 : List RK := [.c (.int .i64) 4, .c (.int .i64) 5]
noncomputable def rt19 (st : St) : Option R19 := rtG rk19 st
noncomputable def E19 (n : Nat × Nat) : Env := { T := tab, phi := (consPhi 58 (fun _ => true) (P58 n) (consPhi 61 (fun _ => true) (P61 n) noPhi)), eff := fun _ => false, fuel := n.1, hold := n.2 }
noncomputable def S19 (n : Nat × Nat) (sheets0 : List (Int × Int)) (order1 : List Int) : Option R19 := run (E19 n) c19 an19 rt19 (fun _ _ => none) rt19 { tm := [.c (.sl (.pair (.int .i64) (.int .i64)) sheets0 false), .c (.sl (.int .i64) order1 false), uu, uu, uu, uu, uu, uu, uu, uu, uu, uu, uu, uu, uu, uu, uu, uu, uu], hp := emp }
theorem S19_eq (n : Nat × Nat) (sheets0 : List (Int × Int)) (order1 : List Int) : S19 n sheets0 order1 =
 (S58 n sheets0 order1).bind fun r1' =>
 (bif (r1'.2 != 0) then some (0, r1'.2)
 else (S61 n r1'.1).bind fun r2' =>
 some (r2', 0)) := by kernel_rfl
theorem S19_run (n : Nat × Nat) (xs : pksDen pk19) : S19 n xs.1 xs.2.1 = runG (E19 n) noScope c19 an19 (rtG rk19) (fun _ _ => none) (rtG rk19) (st0 pk19 xs Try.f19.ntmps) := by kernel_rfl
noncomputable def P19 (n : Nat × Nat) := phiOf pk19 rk19 (fun xs => S19 n xs.1 xs.2.1)
theorem call19 : CallOK Try.prog 19 := callOK_of Try.func19 (by kernel_rfl) (by kernel_rfl)
theorem env19 (n : Nat × Nat) : EnvOK Try.prog (E19 n) := envOK0 (consPhi_ok (FC58 n) call58 (consPhi_ok (FC61 n) call61 noPhi_ok)) rfl rfl
theorem par19 (n : Nat × Nat) : EnvPar (E19 n) := envPar0 (consPhi_par phiOf_Par1 (consPhi_par phiOf_Par1 noPhi_par)) rfl
theorem FC19 (n : Nat × Nat) : FCs Try.prog 19 (P19 n) := phiOf_FCs fun xs r h vs hv => FC.of_runG tabOK eqsOK (env19 n) (par19 n) mixed (fun _ p _ => noScope_ok p.1 p.2) Try.func19 (c := c19) (an := an19) (pks := pk19) (rks := rk19) (by kernel_rfl) (by kernel_rfl) hv ((S19_run n xs).symm.trans h)
abbrev R21 := Int × Int
noncomputable def c21 : Code := bodyOf Try.f21
noncomputable def an21 : Ann := (.s .l (.s .l (.s (.s .l (.j [6] .l .l)) .l)))
def pk21 : List PK := [.c (.sl (.pair (.int .i64) (.int .i64))), .c (.sl (.int .i64))]
def rk21 : List RK := [.c (.int .i64) 4, .c (.int .i64) 5]
noncomputable def rt21 (st : St) : Option R21 := rtG rk21 st
noncomputable def E21 (n : Nat × Nat) : Env := { T := tab, phi := (consPhi 58 (fun _ => true) (P58 n) (consPhi 61 (fun _ => true) (P61 n) (consPhi 63 (fun _ => true) (P63 n) (consPhi 64 (fun _ => true) (P64 n) noPhi)))), eff := fun _ => false, fuel := n.1, hold := n.2 }
noncomputable def S21 (n : Nat × Nat) (sheets0 : List (Int × Int)) (order1 : List Int) : Option R21 := run (E21 n) c21 an21 rt21 (fun _ _ => none) rt21 { tm := [.c (.sl (.pair (.int .i64) (.int .i64)) sheets0 false), .c (.sl (.int .i64) order1 false), uu, uu, uu, uu, uu, uu, uu, uu, uu, uu, uu, uu, uu, uu, uu, uu, uu, uu, uu, uu, uu], hp := emp }
theorem S21_eq (n : Nat × Nat) (sheets0 : List (Int × Int)) (order1 : List Int) : S21 n sheets0 order1 =
 (S58 n sheets0 order1).bind fun r1' =>
 (bif (r1'.2 != 0) then some (0, r1'.2)
 else (S61 n r1'.1).bind fun r2' =>
 (S64 n r1'.1 1).bind fun r3' =>
 (S63 n r3').bind fun r4' =>
 some (wr .i64 (r2' - r4'), 0)) := by kernel_rfl
theorem S21_run (n : Nat × Nat) (xs : pksDen pk21) : S21 n xs.1 xs.2.1 = runG (E21 n) noScope c21 an21 (rtG rk21) (fun _ _ => none) (rtG rk21) (st0 pk21 xs Try.f21.ntmps) := by kernel_rfl
noncomputable def P21 (n : Nat × Nat) := phiOf pk21 rk21 (fun xs => S21 n xs.1 xs.2.1)
theorem call21 : CallOK Try.prog 21 := callOK_of Try.func21 (by kernel_rfl) (by kernel_rfl)
theorem env21 (n : Nat × Nat) : EnvOK Try.prog (E21 n) := envOK0 (consPhi_ok (FC58 n) call58 (consPhi_ok (FC61 n) call61 (consPhi_ok (FC63 n) call63 (consPhi_ok (FC64 n) call64 noPhi_ok)))) rfl rfl
theorem par21 (n : Nat × Nat) : EnvPar (E21 n) := envPar0 (consPhi_par phiOf_Par1 (consPhi_par phiOf_Par1 (consPhi_par phiOf_Par1 (consPhi_par phiOf_Par1 noPhi_par)))) rfl
theorem FC21 (n : Nat × Nat) : FCs Try.prog 21 (P21 n) := phiOf_FCs fun xs r h vs hv => FC.of_runG tabOK eqsOK (env21 n) (par21 n) mixed (fun _ p _ => noScope_ok p.1 p.2) Try.func21 (c := c21) (an := an21) (pks := pk21) (rks := rk21) (by kernel_rfl) (by kernel_rfl) hv ((S21_run n xs).symm.trans h)
abbrev R23 := Int × Int
noncomputable def c23 : Code := bodyOf Try.f23
noncomputable def an23 : Ann := (.s .l (.s .l (.s (.s .l (.j [6] .l .l)) .l)))
def pk23 : List PK := [.c (.sl (.pair (.int .i64) (.int .i64))), .c (.sl (.int .i64))]
def rk23 : List RK := [.c (.int .i64) 4, .c (.int .i64) 5]
noncomputable def rt23 (st : St) : Option R23 := rtG rk23 st
noncomputable def E23 (n : Nat × Nat) : Env := { T := tab, phi := (consPhi 58 (fun _ => true) (P58 n) (consPhi 61 (fun _ => true) (P61 n) (consPhi 65 (fun _ => true) (P65 n) (consPhi 66 (fun _ => true) (P66 n) noPhi)))), eff := fun _ => false, fuel := n.1, hold := n.2 }
noncomputable def S23 (n : Nat × Nat) (sheets0 : List (Int × Int)) (order1 : List Int) : Option R23 := run (E23 n) c23 an23 rt23 (fun _ _ => none) rt23 { tm := [.c (.sl (.pair (.int .i64) (.int .i64)) sheets0 false), .c (.sl (.int .i64) order1 false), uu, uu, uu, uu, uu, uu, uu, uu, uu, uu, uu, uu, uu, uu, uu, uu, uu, uu, uu, uu], hp := emp }
theorem S23_eq (n : Nat × Nat) (sheets0 : List (Int × Int)) (order1 : List Int) : S23 n sheets0 order1 =
 (S58 n sheets0 order1).bind fun r1' =>
 (bif (r1'.2 != 0) then some (0, r1'.2)
 else (S66 n r1'.1).bind fun r2' =>
 (S61 n r1'.1).bind fun r3' =>
 (S65 n r2' r3').bind fun r4' =>
 some (r4', 0)) := by kernel_rfl
theorem S23_run (n : Nat × Nat) (xs : pksDen pk23) : S23 n xs.1 xs.2.1 = runG (E23 n) noScope c23 an23 (rtG rk23) (fun _ _ => none) (rtG rk23) (st0 pk23 xs Try.f23.ntmps) := by kernel_rfl
noncomputable def P23 (n : Nat × Nat) := phiOf pk23 rk23 (fun xs => S23 n xs.1 xs.2.1)
theorem call23 : CallOK Try.prog 23 := callOK_of Try.func23 (by kernel_rfl) (by kernel_rfl)
theorem env23 (n : Nat × Nat) : EnvOK Try.prog (E23 n) := envOK0 (consPhi_ok (FC58 n) call58 (consPhi_ok (FC61 n) call61 (consPhi_ok (FC65 n) call65 (consPhi_ok (FC66 n) call66 noPhi_ok)))) rfl rfl
theorem par23 (n : Nat × Nat) : EnvPar (E23 n) := envPar0 (consPhi_par phiOf_Par1 (consPhi_par phiOf_Par1 (consPhi_par phiOf_Par1 (consPhi_par phiOf_Par1 noPhi_par)))) rfl
theorem FC23 (n : Nat × Nat) : FCs Try.prog 23 (P23 n) := phiOf_FCs fun xs r h vs hv => FC.of_runG tabOK eqsOK (env23 n) (par23 n) mixed (fun _ p _ => noScope_ok p.1 p.2) Try.func23 (c := c23) (an := an23) (pks := pk23) (rks := rk23) (by kernel_rfl) (by kernel_rfl) hv ((S23_run n xs).symm.trans h)
abbrev R86 := Int
noncomputable def c86 : Code := bodyOf Try.f86
noncomputable def an86 : Ann := .l
def pk86 : List PK := [.c (.int .i64), .c (.int .i64), .p (.sl (.pair (.int .i64) (.int .i64)))]
def rk86 : List RK := [.c (.int .i64) 5]
noncomputable def rt86 (st : St) : Option R86 := rtG rk86 st
noncomputable def E86 (n : Nat × Nat) : Env := { T := tab, phi := noPhi, eff := fun _ => false, fuel := n.1, hold := n.2 }
noncomputable def S86 (n : Nat × Nat) (i0 : Int) (j1 : Int) (v2 : List (Int × Int)) : Option R86 := run (E86 n) c86 an86 rt86 (fun _ _ => none) rt86 { tm := [.c (.int .i64 i0), .c (.int .i64 j1), .iptr [.sl (.pair (.int .i64) (.int .i64)) v2 false], uu, uu, uu, uu, uu, uu, uu, uu, uu, uu, uu, uu, uu, uu], hp := emp }
theorem S86_eq (n : Nat × Nat) (i0 : Int) (j1 : Int) (v2 : List (Int × Int)) : S86 n i0 j1 v2 =
 (idx v2 i0).bind fun x1' =>
 (idx v2 j1).bind fun x2' =>
 some (wr .i64 (x1'.1 - x2'.1)) := by kernel_rfl
theorem S86_run (n : Nat × Nat) (xs : pksDen pk86) : S86 n xs.1 xs.2.1 xs.2.2.1 = runG (E86 n) noScope c86 an86 (rtG rk86) (fun _ _ => none) (rtG rk86) (st0 pk86 xs Try.f86.ntmps) := by kernel_rfl
noncomputable def P86 (n : Nat × Nat) := phiOf pk86 rk86 (fun xs => S86 n xs.1 xs.2.1 xs.2.2.1)
theorem call86 : CallOK Try.prog 86 := callOK_of Try.func86 (by kernel_rfl) (by kernel_rfl)
theorem env86 (n : Nat × Nat) : EnvOK Try.prog (E86 n) := envOK0 noPhi_ok rfl rfl
theorem par86 (n : Nat × Nat) : EnvPar (E86 n) := envPar0 noPhi_par rfl
theorem FC86 (n : Nat × Nat) : FCs Try.prog 86 (P86 n) := phiOf_FCs fun xs r h vs hv => FC.of_runG tabOK eqsOK (env86 n) (par86 n) mixed (fun _ p _ => noScope_ok p.1 p.2) Try.func86 (c := c86) (an := an86) (pks := pk86) (rks := rk86) (by kernel_rfl) (by kernel_rfl) hv ((S86_run n xs).symm.trans h)
/- slices.insertionSortCmpFunc[int] -/
abbrev R95c86io1001 := (Unit) × (List Int) × (List (Int × Int)) × Unit
noncomputable def c95c86io1001 : Code := bodyOf Try.f95
noncomputable def an95c86io1001 : Ann := (.s .l (.j [1000000000, 1000000001] (.j [0, 1, 2, 3, 8, 22, 23, 24, 25, 26, 27, 28, 29, 30, 31, 32, 33, 1000000000, 1000000001] (.s (.s .l (.j [0, 1, 2, 3, 8, 22, 23, 24, 25, 26, 27, 28, 29, 30, 31, 32, 33, 1000000000, 1000000001] .l .l)) (.s (.j [0, 1, 2, 3, 8, 22, 23, 24, 25, 26, 27, 28, 29, 30, 31, 32, 33, 1000000000, 1000000001] (.s .l (.j [0, 1, 2, 3, 8, 22, 23, 24, 25, 26, 27, 28, 29, 30, 31, 32, 33, 1000000000, 1000000001] (.j [0, 1, 2, 3, 8, 9, 22, 23, 24, 25, 26, 27, 28, 29, 30, 31, 32, 33, 1000000000, 1000000001] (.s (.s .l (.j [0, 1, 2, 3, 8, 9, 22, 23, 24, 25, 26, 27, 28, 29, 30, 31, 32, 33, 1000000000, 1000000001] .l .l)) (.s (.j [0, 1, 2, 3, 8, 9, 22, 23, 24, 25, 26, 27, 28, 29, 30, 31, 32, 33, 1000000000, 1000000001] .l .l) .l)) .l) .l)) .l) .l)) .l) .l))
def pk95c86io1001 : List QK := [.oa (.int .i64), .pl (.c (.int .i64)), .pl (.c (.int .i64)), .of 86 [(.sl (.pair (.int .i64) (.int .i64)))]]
def rk95c86io1001 : List RK := []
noncomputable def rt95c86io1001 (st : St) : Option R95c86io1001 := rtIO rk95c86io1001 (pk95c86io1001.flatMap QK.ods) st
noncomputable def E95c86io1001 (n : Nat × Nat) : Env := { T := tab, phi := (consPhi 86 (fun _ => true) (P86 n) noPhi), eff := fun _ => false, fuel := n.1, hold := n.2, pcl := [22] }
noncomputable def xb95c86io1001_2 (n : Nat × Nat) : Nat → St → Option R95c86io1001 := fun j s => bif Nat.beq j 0 then normC [1000000000, 1000000001] s rt95c86io1001 else (fun _ _ => none) j s
noncomputable def F95c86io1001_3 (n : Nat × Nat) : (St → Option R95c86io1001) → St → Option R95c86io1001 := fun K s => run (E95c86io1001 n) (cA (cA (cB c95c86io1001))) (Ann.fst (Ann.fst (Ann.snd an95c86io1001))) (fun s => normC [0, 1, 2, 3, 8, 22, 23, 24, 25, 26, 27, 28, 29, 30, 31, 32, 33, 1000000000, 1000000001] s K) (xb95c86io1001_2 n) rt95c86io1001 s
noncomputable def kq95c86io1001_6 (n : Nat × Nat) (m1 : Nat) : St → Option R95c86io1001 := run (E95c86io1001 n) (cB (cB (cA (cA (cB c95c86io1001))))) (Ann.snd (Ann.snd (Ann.fst (Ann.fst (Ann.snd an95c86io1001))))) (fun s => normC [0, 1, 2, 3, 8, 22, 23, 24, 25, 26, 27, 28, 29, 30, 31, 32, 33, 1000000000, 1000000001] s (loopN (F95c86io1001_3 n) m1)) (xb95c86io1001_2 n) rt95c86io1001
noncomputable def kc95c86io1001_7 (n : Nat × Nat) (m1 : Nat) : St → Option R95c86io1001 := fun s => normC [0, 1, 2, 3, 8, 22, 23, 24, 25, 26, 27, 28, 29, 30, 31, 32, 33, 1000000000, 1000000001] s (kq95c86io1001_6 n m1)
noncomputable def xb95c86io1001_8 (n : Nat × Nat) (m1 : Nat) : Nat → St → Option R95c86io1001 := fun j s => bif Nat.beq j 1 then normC [0, 1, 2, 3, 8, 22, 23, 24, 25, 26, 27, 28, 29, 30, 31, 32, 33, 1000000000, 1000000001] s (kq95c86io1001_6 n m1) else (xb95c86io1001_2 n) j s
noncomputable def xb95c86io1001_10 (n : Nat × Nat) (m1 : Nat) : Nat → St → Option R95c86io1001 := fun j s => bif Nat.beq j 2 then normC [0, 1, 2, 3, 8, 22, 23, 24, 25, 26, 27, 28, 29, 30, 31, 32, 33, 1000000000, 1000000001] s (kc95c86io1001_7 n m1) else (xb95c86io1001_8 n m1) j s
noncomputable def F95c86io1001_11 (n : Nat × Nat) (m1 : Nat) : (St → Option R95c86io1001) → St → Option R95c86io1001 := fun K s => run (E95c86io1001 n) (cA (cA (cB (cA (cA (cB (cA (cA (cB c95c86io1001))))))))) (Ann.fst (Ann.fst (Ann.snd (Ann.fst (Ann.fst (Ann.snd (Ann.fst (Ann.fst (Ann.snd an95c86io1001))))))))) (fun s => normC [0, 1, 2, 3, 8, 9, 22, 23, 24, 25, 26, 27, 28, 29, 30, 31, 32, 33, 1000000000, 1000000001] s K) (xb95c86io1001_10 n m1) rt95c86io1001 s
noncomputable def L95c86io1001_1 (n : Nat × Nat) (m : Nat) (a1 : Int) (b2 : Int) (i8 : Int) (u0 : List Int) (u1 : List (Int × Int)) : Option R95c86io1001 := loopN (F95c86io1001_3 n) m { tm := [.own 1000000000 none false, .c (.int .i64 a1), .c (.int .i64 b2), .fn 86 [.ptr 1000000001 0], uu, uu, uu, uu, .c (.int .i64 i8), uu, uu, uu, uu, uu, uu, uu, uu, uu, uu, uu, uu, uu, uu, uu, uu, uu, uu, uu, uu, uu, uu, uu, uu, uu, uu, uu, uu, uu, uu, uu, uu, uu, uu, uu, uu, uu, uu, uu, uu, uu, uu, uu, uu], hp := (upd (upd emp 1000000001 (.box [.sl (.pair (.int .i64) (.int .i64)) u1 false])) 1000000000 (.arr (.int .i64) u0 false)) }
noncomputable def L95c86io1001_2 (n : Nat × Nat) (m1 : Nat) (m : Nat) (a1 : Int) (b2 : Int) (i8 : Int) (j9 : Int) (u0 : List Int) (u1 : List (Int × Int)) : Option R95c86io1001 := loopN (F95c86io1001_11 n m1) m { tm := [.own 1000000000 none false, .c (.int .i64 a1), .c (.int .i64 b2), .fn 86 [.ptr 1000000001 0], uu, uu, uu, uu, .c (.int .i64 i8), .c (.int .i64 j9), uu, uu, uu, uu, uu, uu, uu, uu, uu, uu, uu, uu, uu, uu, uu, uu, uu, uu, uu, uu, uu, uu, uu, uu, uu, uu, uu, uu, uu, uu, uu, uu, uu, uu, uu, uu, uu, uu, uu, uu, uu, uu, uu], hp := (upd (upd emp 1000000001 (.box [.sl (.pair (.int .i64) (.int .i64)) u1 false])) 1000000000 (.arr (.int .i64) u0 false)) }
theorem L95c86io1001_1_eq (n : Nat × Nat) (m1 : Nat) (a1 : Int) (b2 : Int) (i8 : Int) (u0 : List Int) (u1 : List (Int × Int)) : L95c86io1001_1 n (m1 + 1) a1 b2 i8 u0 u1 =
 (bif decide (i8 < b2) then L95c86io1001_2 n m1 n.1 a1 b2 i8 i8 u0 u1
 else some ((), u0, u1, ())) := by kernel_rfl
theorem L95c86io1001_2_eq (n : Nat × Nat) (m1 m2 : Nat) (a1 : Int) (b2 : Int) (i8 : Int) (j9 : Int) (u0 : List Int) (u1 : List (Int × Int)) : L95c86io1001_2 n m1 (m2 + 1) a1 b2 i8 j9 u0 u1 =
 ((bif (decide (j9 > a1) == true) then (bif inB j9 u0.length then (idx u0 j9).bind fun x1' =>
 (bif inB (wr .i64 (j9 - 1)) u0.length then (idx u0 (wr .i64 (j9 - 1))).bind fun x2' =>
 (S86 n x1' x2' u1).bind fun r3' =>
 some (decide (r3' < 0))
 else none)
 else none)
 else some false)).bind fun b4' =>
 (bif b4' then (bif inB (wr .i64 (j9 - 1)) u0.length then (idx u0 (wr .i64 (j9 - 1))).bind fun x5' =>
 (bif inB j9 u0.length then (idx u0 j9).bind fun x6' =>
 (bif inB j9 u0.length then (idx u0 j9).bind fun x7' =>
 (bif inB (wr .i64 (j9 - 1)) (u0.set (Int.toNat j9) x5').length then (idx (u0.set (Int.toNat j9) x5') (wr .i64 (j9 - 1))).bind fun x8' =>
              L95c86io1001_2 n m1 m2 a1 b2 i8 (wr .i64 (j9 - 1)) ((u0.set (Int.toNat j9) x5').set (Int.toNat (wr .i64 (j9 - 1))) x6') u1
 else none)
 else none)
 else none)
 else none)
 else L95c86io1001_1 n m1 a1 b2 (wr .i64 (i8 + 1)) u0 u1) := by kernel_rfl
noncomputable def S95c86io1001 (n : Nat × Nat) (data0 : List Int) (a1 : Int) (b2 : Int) (cp_3_0 : List (Int × Int)) : Option R95c86io1001 := run (E95c86io1001 n) c95c86io1001 an95c86io1001 rt95c86io1001 (fun _ _ => none) rt95c86io1001 { tm := [.own 1000000000 none false, .c (.int .i64 a1), .c (.int .i64 b2), .fn 86 [.ptr 1000000001 0], uu, uu, uu, uu, uu, uu, uu, uu, uu, uu, uu, uu, uu, uu, uu, uu, uu, uu, uu, uu, uu, uu, uu, uu, uu, uu, uu, uu, uu, uu, uu, uu, uu, uu, uu, uu, uu, uu, uu, uu, uu, uu, uu, uu, uu, uu, uu, uu, uu], hp := (upd (upd emp 1000000001 (.box [.sl (.pair (.int .i64) (.int .i64)) cp_3_0 false])) 1000000000 (.arr (.int .i64) data0 false)) }
theorem S95c86io1001_eq (n : Nat × Nat) (data0 : List Int) (a1 : Int) (b2 : Int) (cp_3_0 : List (Int × Int)) : S95c86io1001 n data0 a1 b2 cp_3_0 =
    L95c86io1001_1 n n.1 a1 b2 (wr .i64 (a1 + 1)) data0 cp_3_0 := by kernel_rfl
theorem S95c86io1001_run (n : Nat × Nat) (xs : qksDen pk95c86io1001) : S95c86io1001 n xs.1 xs.2.1 xs.2.2.1 xs.2.2.2.1.1 = runG (E95c86io1001 n) noScope c95c86io1001 an95c86io1001 (rtIO rk95c86io1001 (pk95c86io1001.flatMap QK.ods)) (fun _ _ => none) (rtIO rk95c86io1001 (pk95c86io1001.flatMap QK.ods)) (st1 pk95c86io1001 xs Try.f95.ntmps) := by kernel_rfl
noncomputable def P95c86io1001 (n : Nat × Nat) := phioOf pk95c86io1001 rk95c86io1001 (pk95c86io1001.flatMap QK.ods) (fun xs => S95c86io1001 n xs.1 xs.2.1 xs.2.2.1 xs.2.2.2.1.1)
theorem call95 : CallOK Try.prog 95 := callOK_of Try.func95 (by kernel_rfl) (by kernel_rfl)
theorem env95c86io1001 (n : Nat × Nat) : EnvOK Try.prog (E95c86io1001 n) := envOK0 (consPhi_ok (FC86 n) call86 noPhi_ok) rfl rfl
theorem par95c86io1001 (n : Nat × Nat) : EnvPar (E95c86io1001 n) := envPar0 (consPhi_par phiOf_Par1 noPhi_par) rfl
theorem FC95c86io1001 (n : Nat × Nat) : FCios Try.prog 95 (pk95c86io1001.map QK.flag) (P95c86io1001 n) := phioOf_FCios fun xs r h vs hv => FCio.of_runG tabOK eqsOK (env95c86io1001 n) (par95c86io1001 n) mixed (fun _ p _ => noScope_ok p.1 p.2) Try.func95 (c := c95c86io1001) (an := an95c86io1001) (qks := pk95c86io1001) (rks := rk95c86io1001) (by kernel_rfl) (by kernel_rfl) hv ((S95c86io1001_run n xs).symm.trans h)
/- slices.swapRangeCmpFunc[int] -/
abbrev R98c86io10001 := (Unit) × (List Int) × (List (Int × Int)) × Unit
noncomputable def c98c86io10001 : Code := bodyOf Try.f98
noncomputable def an98c86io10001 : Ann := (.s .l (.j [1000000000, 1000000001] (.j [0, 1, 2, 3, 10, 1000000000, 1000000001] (.s (.s .l (.j [0, 1, 2, 3, 10, 1000000000, 1000000001] .l .l)) (.s (.j [0, 1, 2, 3, 10, 1000000000, 1000000001] .l .l) .l)) .l) .l))
def pk98c86io10001 : List QK := [.oa (.int .i64), .pl (.c (.int .i64)), .pl (.c (.int .i64)), .pl (.c (.int .i64)), .of 86 [(.sl (.pair (.int .i64) (.int .i64)))]]
def rk98c86io10001 : List RK := []
noncomputable def rt98c86io10001 (st : St) : Option R98c86io10001 := rtIO rk98c86io10001 (pk98c86io10001.flatMap QK.ods) st
noncomputable def E98c86io10001 (n : Nat × Nat) : Env := { T := tab, phi := noPhi, eff := fun _ => false, fuel := n.1, hold := n.2 }
noncomputable def xb98c86io10001_2 (n : Nat × Nat) : Nat → St → Option R98c86io10001 := fun j s => bif Nat.beq j 0 then normC [1000000000, 1000000001] s rt98c86io10001 else (fun _ _ => none) j s
noncomputable def F98c86io10001_3 (n : Nat × Nat) : (St → Option R98c86io10001) → St → Option R98c86io10001 := fun K s => run (E98c86io10001 n) (cA (cA (cB c98c86io10001))) (Ann.fst (Ann.fst (Ann.snd an98c86io10001))) (fun s => normC [0, 1, 2, 3, 10, 1000000000, 1000000001] s K) (xb98c86io10001_2 n) rt98c86io10001 s
noncomputable def L98c86io10001_1 (n : Nat × Nat) (m : Nat) (a1 : Int) (b2 : Int) (v3 : Int) (i10 : Int) (u0 : List Int) (u1 : List (Int × Int)) : Option R98c86io10001 := loopN (F98c86io10001_3 n) m { tm := [.own 1000000000 none false, .c (.int .i64 a1), .c (.int .i64 b2), .c (.int .i64 v3), uu, uu, uu, uu, uu, uu, .c (.int .i64 i10), uu, uu, uu, uu, uu, uu, uu, uu, uu, uu, uu, uu, uu, uu, uu, uu, uu, uu, uu, uu, uu, uu, uu, uu, uu, uu, uu], hp := (upd (upd emp 1000000001 (.box [.sl (.pair (.int .i64) (.int .i64)) u1 false])) 1000000000 (.arr (.int .i64) u0 false)) }
theorem L98c86io10001_1_eq (n : Nat × Nat) (m1 : Nat) (a1 : Int) (b2 : Int) (v3 : Int) (i10 : Int) (u0 : List Int) (u1 : List (Int × Int)) : L98c86io10001_1 n (m1 + 1) a1 b2 v3 i10 u0 u1 =
 (bif decide (i10 < v3) then (bif inB (wr .i64 (b2 + i10)) u0.length then (idx u0 (wr .i64 (b2 + i10))).bind fun x1' =>
 (bif inB (wr .i64 (a1 + i10)) u0.length then (idx u0 (wr .i64 (a1 + i10))).bind fun x2' =>
 (bif inB (wr .i64 (a1 + i10)) u0.length then (idx u0 (wr .i64 (a1 + i10))).bind fun x3' =>
 (bif inB (wr .i64 (b2 + i10)) (u0.set (Int.toNat (wr .i64 (a1 + i10))) x1').length then (idx (u0.set (Int.toNat (wr .i64 (a1 + i10))) x1') (wr .i64 (b2 + i10))).bind fun x4' =>
              L98c86io10001_1 n m1 a1 b2 v3 (wr .i64 (i10 + 1)) ((u0.set (Int.toNat (wr .i64 (a1 + i10))) x1').set (Int.toNat (wr .i64 (b2 + i10))) x2') u1
 else none)
 else none)
 else none)
 else none)
 else some ((), u0, u1, ())) := by kernel_rfl
noncomputable def S98c86io10001 (n : Nat × Nat) (data0 : List Int) (a1 : Int) (b2 : Int) (v3 : Int) (cp_4_0 : List (Int × Int)) : Option R98c86io10001 := run (E98c86io10001 n) c98c86io10001 an98c86io10001 rt98c86io10001 (fun _ _ => none) rt98c86io10001 { tm := [.own 1000000000 none false, .c (.int .i64 a1), .c (.int .i64 b2), .c (.int .i64 v3), .fn 86 [.ptr 1000000001 0], uu, uu, uu, uu, uu, uu, uu, uu, uu, uu, uu, uu, uu, uu, uu, uu, uu, uu, uu, uu, uu, uu, uu, uu, uu, uu, uu, uu, uu, uu, uu, uu, uu], hp := (upd (upd emp 1000000001 (.box [.sl (.pair (.int .i64) (.int .i64)) cp_4_0 false])) 1000000000 (.arr (.int .i64) data0 false)) }
theorem S98c86io10001_eq (n : Nat × Nat) (data0 : List Int) (a1 : Int) (b2 : Int) (v3 : Int) (cp_4_0 : List (Int × Int)) : S98c86io10001 n data0 a1 b2 v3 cp_4_0 =
    L98c86io10001_1 n n.1 a1 b2 v3 0 data0 cp_4_0 := by kernel_rfl
theorem S98c86io10001_run (n : Nat × Nat) (xs : qksDen pk98c86io10001) : S98c86io10001 n xs.1 xs.2.1 xs.2.2.1 xs.2.2.2.1 xs.2.2.2.2.1.1 = runG (E98c86io10001 n) noScope c98c86io10001 an98c86io10001 (rtIO rk98c86io10001 (pk98c86io10001.flatMap QK.ods)) (fun _ _ => none) (rtIO rk98c86io10001 (pk98c86io10001.flatMap QK.ods)) (st1 pk98c86io10001 xs Try.f98.ntmps) := by kernel_rfl
noncomputable def P98c86io10001 (n : Nat × Nat) := phioOf pk98c86io10001 rk98c86io10001 (pk98c86io10001.flatMap QK.ods) (fun xs => S98c86io10001 n xs.1 xs.2.1 xs.2.2.1 xs.2.2.2.1 xs.2.2.2.2.1.1)
theorem call98 : CallOK Try.prog 98 := callOK_of Try.func98 (by kernel_rfl) (by kernel_rfl)
theorem env98c86io10001 (n : Nat × Nat) : EnvOK Try.prog (E98c86io10001 n) := envOK0 noPhi_ok rfl rfl
theorem par98c86io10001 (n : Nat × Nat) : EnvPar (E98c86io10001 n) := envPar0 noPhi_par rfl
theorem FC98c86io10001 (n : Nat × Nat) : FCios Try.prog 98 (pk98c86io10001.map QK.flag) (P98c86io10001 n) := phioOf_FCios fun xs r h vs hv => FCio.of_runG tabOK eqsOK (env98c86io10001 n) (par98c86io10001 n) mixed (fun _ p _ => noScope_ok p.1 p.2) Try.func98 (c := c98c86io10001) (an := an98c86io10001) (qks := pk98c86io10001) (rks := rk98c86io10001) (by kernel_rfl) (by kernel_rfl) hv ((S98c86io10001_run n xs).symm.trans h)
/- slices.rotateCmpFunc[int] -/
abbrev R97c86io10001 := (Unit) × (List Int) × (List (Int × Int)) × Unit
noncomputable def c97c86io10001 : Code := bodyOf Try.f97
noncomputable def an97c86io10001 : Ann := (.s .l (.s .l (.s (.j [0, 2, 4, 10, 1000000000, 1000000001] (.j [0, 2, 4, 10, 11, 1000000000, 1000000001] (.s (.s .l (.j [0, 2, 4, 10, 11, 1000000000, 1000000001] .l .l)) (.j [0, 2, 4, 10, 11, 1000000000, 1000000001] (.s .l (.j [0, 2, 4, 10, 11, 1000000000, 1000000001] .l .l)) .l)) .l) .l) .l)))
def pk97c86io10001 : List QK := [.oa (.int .i64), .pl (.c (.int .i64)), .pl (.c (.int .i64)), .pl (.c (.int .i64)), .of 86 [(.sl (.pair (.int .i64) (.int .i64)))]]
def rk97c86io10001 : List RK := []
noncomputable def rt97c86io10001 (st : St) : Option R97c86io10001 := rtIO rk97c86io10001 (pk97c86io10001.flatMap QK.ods) st
noncomputable def io97c86io10001 (n : Nat × Nat) : List IoE := [⟨98, (isFns [none, none, none, none, some 86]), pk98c86io10001.map QK.flag, P98c86io10001 n⟩]
noncomputable def E97c86io10001 (n : Nat × Nat) : Env := { T := tab, phi := noPhi, eff := fun _ => false, fuel := n.1, hold := n.2, phio := phioL (io97c86io10001 n), iop := iopL (io97c86io10001 n) }
noncomputable def kq97c86io10001_1 (n : Nat × Nat) : St → Option R97c86io10001 := run (E97c86io10001 n) (cB (cB (cB c97c86io10001))) (Ann.snd (Ann.snd (Ann.snd an97c86io10001))) rt97c86io10001 (fun _ _ => none) rt97c86io10001
noncomputable def xb97c86io10001_3 (n : Nat × Nat) : Nat → St → Option R97c86io10001 := fun j s => bif Nat.beq j 0 then normC [0, 2, 4, 10, 1000000000, 1000000001] s (kq97c86io10001_1 n) else (fun _ _ => none) j s
noncomputable def F97c86io10001_4 (n : Nat × Nat) : (St → Option R97c86io10001) → St → Option R97c86io10001 := fun K s => run (E97c86io10001 n) (cA (cA (cA (cB (cB c97c86io10001))))) (Ann.fst (Ann.fst (Ann.fst (Ann.snd (Ann.snd an97c86io10001))))) (fun s => normC [0, 2, 4, 10, 11, 1000000000, 1000000001] s K) (xb97c86io10001_3 n) rt97c86io10001 s
noncomputable def L97c86io10001_1 (n : Nat × Nat) (m : Nat) (m2 : Int) (i10 : Int) (j11 : Int) (u0 : List Int) (u1 : List (Int × Int)) : Option R97c86io10001 := loopN (F97c86io10001_4 n) m { tm := [.own 1000000000 none false, uu, .c (.int .i64 m2), uu, .fn 86 [.ptr 1000000001 0], uu, uu, uu, uu, uu, .c (.int .i64 i10), .c (.int .i64 j11), uu, uu, uu, uu, uu, uu, uu, uu, uu, uu, uu, uu, uu, uu, uu, uu, uu, uu, uu, uu, uu, uu, uu, uu, uu, uu, uu, uu, uu, uu, uu, uu, uu, uu, uu, uu, uu, uu, uu, uu, uu, uu, uu, uu, uu, uu], hp := (upd (upd emp 1000000001 (.box [.sl (.pair (.int .i64) (.int .i64)) u1 false])) 1000000000 (.arr (.int .i64) u0 false)) }
theorem L97c86io10001_1_eq (n : Nat × Nat) (m1 : Nat) (m2 : Int) (i10 : Int) (j11 : Int) (u0 : List Int) (u1 : List (Int × Int)) : L97c86io10001_1 n (m1 + 1) m2 i10 j11 u0 u1 =
 (bif (i10 != j11) then (bif decide (i10 > j11) then (S98c86io10001 n u0 (wr .i64 (m2 - i10)) m2 j11 u1).bind fun r1' =>
 (bif Nat.beq r1'.2.1.length u0.length then L97c86io10001_1 n m1 m2 (wr .i64 (i10 - j11)) j11 r1'.2.1 r1'.2.2.1
 else none)
 else (S98c86io10001 n u0 (wr .i64 (m2 - i10)) (wr .i64 ((wr .i64 (m2 + j11)) - i10)) i10 u1).bind fun r2' =>
 (bif Nat.beq r2'.2.1.length u0.length then L97c86io10001_1 n m1 m2 i10 (wr .i64 (j11 - i10)) r2'.2.1 r2'.2.2.1
 else none))
 else (S98c86io10001 n u0 (wr .i64 (m2 - i10)) m2 i10 u1).bind fun r3' =>
 (bif Nat.beq r3'.2.1.length u0.length then some ((), r3'.2.1, r3'.2.2.1, ())
 else none)) := by kernel_rfl
noncomputable def S97c86io10001 (n : Nat × Nat) (data0 : List Int) (a1 : Int) (m2 : Int) (b3 : Int) (cp_4_0 : List (Int × Int)) : Option R97c86io10001 := run (E97c86io10001 n) c97c86io10001 an97c86io10001 rt97c86io10001 (fun _ _ => none) rt97c86io10001 { tm := [.own 1000000000 none false, .c (.int .i64 a1), .c (.int .i64 m2), .c (.int .i64 b3), .fn 86 [.ptr 1000000001 0], uu, uu, uu, uu, uu, uu, uu, uu, uu, uu, uu, uu, uu, uu, uu, uu, uu, uu, uu, uu, uu, uu, uu, uu, uu, uu, uu, uu, uu, uu, uu, uu, uu, uu, uu, uu, uu, uu, uu, uu, uu, uu, uu, uu, uu, uu, uu, uu, uu, uu, uu, uu, uu], hp := (upd (upd emp 1000000001 (.box [.sl (.pair (.int .i64) (.int .i64)) cp_4_0 false])) 1000000000 (.arr (.int .i64) data0 false)) }
theorem S97c86io10001_eq (n : Nat × Nat) (data0 : List Int) (a1 : Int) (m2 : Int) (b3 : Int) (cp_4_0 : List (Int × Int)) : S97c86io10001 n data0 a1 m2 b3 cp_4_0 =
    L97c86io10001_1 n n.1 m2 (wr .i64 (m2 - a1)) (wr .i64 (b3 - m2)) data0 cp_4_0 := by kernel_rfl
theorem S97c86io10001_run (n : Nat × Nat) (xs : qksDen pk97c86io10001) : S97c86io10001 n xs.1 xs.2.1 xs.2.2.1 xs.2.2.2.1 xs.2.2.2.2.1.1 = runG (E97c86io10001 n) noScope c97c86io10001 an97c86io10001 (rtIO rk97c86io10001 (pk97c86io10001.flatMap QK.ods)) (fun _ _ => none) (rtIO rk97c86io10001 (pk97c86io10001.flatMap QK.ods)) (st1 pk97c86io10001 xs Try.f97.ntmps) := by kernel_rfl
noncomputable def P97c86io10001 (n : Nat × Nat) := phioOf pk97c86io10001 rk97c86io10001 (pk97c86io10001.flatMap QK.ods) (fun xs => S97c86io10001 n xs.1 xs.2.1 xs.2.2.1 xs.2.2.2.1 xs.2.2.2.2.1.1)
theorem call97 : CallOK Try.prog 97 := callOK_of Try.func97 (by kernel_rfl) (by kernel_rfl)
theorem env97c86io10001 (n : Nat × Nat) : EnvOK Try.prog (E97c86io10001 n) := envOK (l := io97c86io10001 n) noPhi_ok rfl rfl (by kernel_rfl) ⟨FC98c86io10001 n, call98, trivial⟩
theorem par97c86io10001 (n : Nat × Nat) : EnvPar (E97c86io10001 n) := envPar (l := io97c86io10001 n) noPhi_par rfl ⟨phioOf_Pario1, trivial⟩
theorem FC97c86io10001 (n : Nat × Nat) : FCios Try.prog 97 (pk97c86io10001.map QK.flag) (P97c86io10001 n) := phioOf_FCios fun xs r h vs hv => FCio.of_runG tabOK eqsOK (env97c86io10001 n) (par97c86io10001 n) mixed (fun _ p _ => noScope_ok p.1 p.2) Try.func97 (c := c97c86io10001) (an := an97c86io10001) (qks := pk97c86io10001) (rks := rk97c86io10001) (by kernel_rfl) (by kernel_rfl) hv ((S97c86io10001_run n xs).symm.trans h)
/- slices.symMergeCmpFunc[int] -/
abbrev R96c86io10001 := (Unit) × (List Int) × (List (Int × Int)) × Unit
noncomputable def c96c86io10001 : Code := bodyOf Try.f96
noncomputable def an96c86io10001 : Ann := (.s (.s .l (.j [0, 1, 2, 3, 4, 182, 183, 184, 196, 197, 198, 210, 211, 212, 1000000000, 1000000001] (.s .l (.s .l (.s (.j [0, 1, 10, 1000000000, 1000000001] (.j [0, 1, 4, 10, 11, 1000000000, 1000000001] (.s (.s .l (.j [0, 1, 4, 10, 11, 1000000000, 1000000001] .l .l)) (.j [0, 1, 4, 10, 11, 1000000000, 1000000001] (.s .l (.s .l (.j [0, 1, 4, 10, 11, 1000000000, 1000000001] .l .l))) .l)) .l) .l) (.s (.s .l (.j [1000000000, 1000000001] (.j [0, 10, 13, 1000000000, 1000000001] (.s (.s .l (.j [0, 10, 13, 1000000000, 1000000001] .l .l)) (.s (.j [0, 10, 13, 1000000000, 1000000001] .l .l) .l)) .l) .l)) .l)))) .l)) (.s (.s .l (.j [0, 1, 2, 3, 4, 182, 183, 184, 196, 197, 198, 210, 211, 212, 1000000000, 1000000001] (.s .l (.s .l (.s (.j [0, 2, 14, 1000000000, 1000000001] (.j [0, 2, 4, 14, 15, 1000000000, 1000000001] (.s (.s .l (.j [0, 2, 4, 14, 15, 1000000000, 1000000001] .l .l)) (.j [0, 2, 4, 14, 15, 1000000000, 1000000001] (.s .l (.s .l (.j [0, 2, 4, 14, 15, 1000000000, 1000000001] .l .l))) .l)) .l) .l) (.s (.s .l (.j [1000000000, 1000000001] (.j [0, 14, 17, 1000000000, 1000000001] (.s (.s .l (.j [0, 14, 17, 1000000000, 1000000001] .l .l)) (.s (.j [0, 14, 17, 1000000000, 1000000001] .l .l) .l)) .l) .l)) .l)))) .l)) (.s .l (.s .l (.s .l (.s (.s .l (.j [0, 1, 2, 3, 4, 18, 19, 20, 21, 182, 183, 184, 196, 197, 198, 210, 211, 212, 1000000000, 1000000001] .l .l)) (.s .l (.s (.j [0, 1, 2, 3, 4, 18, 19, 20, 182, 183, 184, 196, 197, 198, 210, 211, 212, 1000000000, 1000000001] (.j [0, 1, 2, 3, 4, 18, 19, 20, 21, 22, 182, 183, 184, 196, 197, 198, 210, 211, 212, 1000000000, 1000000001] (.s (.s .l (.j [0, 1, 2, 3, 4, 18, 19, 20, 21, 22, 182, 183, 184, 196, 197, 198, 210, 211, 212, 1000000000, 1000000001] .l .l)) (.j [0, 1, 2, 3, 4, 18, 19, 20, 21, 22, 182, 183, 184, 196, 197, 198, 210, 211, 212, 1000000000, 1000000001] (.s .l (.s .l (.j [0, 1, 2, 3, 4, 18, 19, 20, 21, 22, 182, 183, 184, 196, 197, 198, 210, 211, 212, 1000000000, 1000000001] .l .l))) .l)) .l) .l) (.s .l (.s (.s .l (.j [0, 1, 3, 4, 18, 20, 24, 196, 197, 198, 210, 211, 212, 1000000000, 1000000001] .l .l)) (.s (.s .l (.j [0, 3, 4, 18, 24, 210, 211, 212, 1000000000, 1000000001] .l .l)) (.s .l (.j [1000000000, 1000000001] .l .l)))))))))))))
def pk96c86io10001 : List QK := [.oa (.int .i64), .pl (.c (.int .i64)), .pl (.c (.int .i64)), .pl (.c (.int .i64)), .of 86 [(.sl (.pair (.int .i64) (.int .i64)))]]
def rk96c86io10001 : List RK := []
noncomputable def rt96c86io10001 (st : St) : Option R96c86io10001 := rtIO rk96c86io10001 (pk96c86io10001.flatMap QK.ods) st
noncomputable def io96c86io10001 (n : Nat × Nat) (SS : List Int → Int → Int → Int → (List (Int × Int)) → Option R96c86io10001) : List IoE := [⟨97, (isFns [none, none, none, none, some 86]), pk97c86io10001.map QK.flag, P97c86io10001 n⟩, ⟨96, (fun _ => true), pk96c86io10001.map QK.flag, (phioOf pk96c86io10001 rk96c86io10001 (pk96c86io10001.flatMap QK.ods) (fun xs => SS xs.1 xs.2.1 xs.2.2.1 xs.2.2.2.1 xs.2.2.2.2.1.1))⟩]
noncomputable def E96c86io10001 (n : Nat × Nat) (SS : List Int → Int → Int → Int → (List (Int × Int)) → Option R96c86io10001) : Env := { T := tab, phi := (consPhi 86 (fun _ => true) (P86 n) noPhi), eff := fun _ => false, fuel := n.1, hold := n.2, phio := phioL (io96c86io10001 n SS), iop := iopL (io96c86io10001 n SS), pcl := [40, 92, 158] }
noncomputable def kq96c86io10001_1 (n : Nat × Nat) (SS : List Int → Int → Int → Int → (List (Int × Int)) → Option R96c86io10001) : St → Option R96c86io10001 := run (E96c86io10001 n SS) (cB c96c86io10001) (Ann.snd an96c86io10001) rt96c86io10001 (fun _ _ => none) rt96c86io10001
noncomputable def kc96c86io10001_2 (n : Nat × Nat) (SS : List Int → Int → Int → Int → (List (Int × Int)) → Option R96c86io10001) : St → Option R96c86io10001 := fun s => normC [0, 1, 2, 3, 4, 182, 183, 184, 196, 197, 198, 210, 211, 212, 1000000000, 1000000001] s (kq96c86io10001_1 n SS)
noncomputable def kq96c86io10001_3 (n : Nat × Nat) (SS : List Int → Int → Int → Int → (List (Int × Int)) → Option R96c86io10001) : St → Option R96c86io10001 := run (E96c86io10001 n SS) (cB (cB (cB (cA (cB (cA c96c86io10001)))))) (Ann.snd (Ann.snd (Ann.snd (Ann.fst (Ann.snd (Ann.fst an96c86io10001)))))) (kc96c86io10001_2 n SS) (fun _ _ => none) rt96c86io10001
noncomputable def xb96c86io10001_5 (n : Nat × Nat) (SS : List Int → Int → Int → Int → (List (Int × Int)) → Option R96c86io10001) : Nat → St → Option R96c86io10001 := fun j s => bif Nat.beq j 0 then normC [0, 1, 10, 1000000000, 1000000001] s (kq96c86io10001_3 n SS) else (fun _ _ => none) j s
noncomputable def F96c86io10001_6 (n : Nat × Nat) (SS : List Int → Int → Int → Int → (List (Int × Int)) → Option R96c86io10001) : (St → Option R96c86io10001) → St → Option R96c86io10001 := fun K s => run (E96c86io10001 n SS) (cA (cA (cA (cB (cB (cA (cB (cA c96c86io10001)))))))) (Ann.fst (Ann.fst (Ann.fst (Ann.snd (Ann.snd (Ann.fst (Ann.snd (Ann.fst an96c86io10001)))))))) (fun s => normC [0, 1, 4, 10, 11, 1000000000, 1000000001] s K) (xb96c86io10001_5 n SS) rt96c86io10001 s
noncomputable def kq96c86io10001_7 (n : Nat × Nat) (SS : List Int → Int → Int → Int → (List (Int × Int)) → Option R96c86io10001) : St → Option R96c86io10001 := run (E96c86io10001 n SS) (cB (cB c96c86io10001)) (Ann.snd (Ann.snd an96c86io10001)) rt96c86io10001 (fun _ _ => none) rt96c86io10001
noncomputable def kc96c86io10001_8 (n : Nat × Nat) (SS : List Int → Int → Int → Int → (List (Int × Int)) → Option R96c86io10001) : St → Option R96c86io10001 := fun s => normC [0, 1, 2, 3, 4, 182, 183, 184, 196, 197, 198, 210, 211, 212, 1000000000, 1000000001] s (kq96c86io10001_7 n SS)
noncomputable def kq96c86io10001_9 (n : Nat × Nat) (SS : List Int → Int → Int → Int → (List (Int × Int)) → Option R96c86io10001) : St → Option R96c86io10001 := run (E96c86io10001 n SS) (cB (cB (cB (cA (cB (cA (cB c96c86io10001))))))) (Ann.snd (Ann.snd (Ann.snd (Ann.fst (Ann.snd (Ann.fst (Ann.snd an96c86io10001))))))) (kc96c86io10001_8 n SS) (fun _ _ => none) rt96c86io10001
noncomputable def xb96c86io10001_11 (n : Nat × Nat) (SS : List Int → Int → Int → Int → (List (Int × Int)) → Option R96c86io10001) : Nat → St → Option R96c86io10001 := fun j s => bif Nat.beq j 4 then normC [0, 2, 14, 1000000000, 1000000001] s (kq96c86io10001_9 n SS) else (fun _ _ => none) j s
noncomputable def F96c86io10001_12 (n : Nat × Nat) (SS : List Int → Int → Int → Int → (List (Int × Int)) → Option R96c86io10001) : (St → Option R96c86io10001) → St → Option R96c86io10001 := fun K s => run (E96c86io10001 n SS) (cA (cA (cA (cB (cB (cA (cB (cA (cB c96c86io10001))))))))) (Ann.fst (Ann.fst (Ann.fst (Ann.snd (Ann.snd (Ann.fst (Ann.snd (Ann.fst (Ann.snd an96c86io10001))))))))) (fun s => normC [0, 2, 4, 14, 15, 1000000000, 1000000001] s K) (xb96c86io10001_11 n SS) rt96c86io10001 s
noncomputable def kq96c86io10001_15 (n : Nat × Nat) (SS : List Int → Int → Int → Int → (List (Int × Int)) → Option R96c86io10001) : St → Option R96c86io10001 := run (E96c86io10001 n SS) (cB (cB (cB (cB (cB (cB (cB (cB c96c86io10001)))))))) (Ann.snd (Ann.snd (Ann.snd (Ann.snd (Ann.snd (Ann.snd (Ann.snd (Ann.snd an96c86io10001)))))))) rt96c86io10001 (fun _ _ => none) rt96c86io10001
noncomputable def xb96c86io10001_17 (n : Nat × Nat) (SS : List Int → Int → Int → Int → (List (Int × Int)) → Option R96c86io10001) : Nat → St → Option R96c86io10001 := fun j s => bif Nat.beq j 8 then normC [0, 1, 2, 3, 4, 18, 19, 20, 182, 183, 184, 196, 197, 198, 210, 211, 212, 1000000000, 1000000001] s (kq96c86io10001_15 n SS) else (fun _ _ => none) j s
noncomputable def F96c86io10001_18 (n : Nat × Nat) (SS : List Int → Int → Int → Int → (List (Int × Int)) → Option R96c86io10001) : (St → Option R96c86io10001) → St → Option R96c86io10001 := fun K s => run (E96c86io10001 n SS) (cA (cA (cA (cB (cB (cB (cB (cB (cB (cB c96c86io10001)))))))))) (Ann.fst (Ann.fst (Ann.fst (Ann.snd (Ann.snd (Ann.snd (Ann.snd (Ann.snd (Ann.snd (Ann.snd an96c86io10001)))))))))) (fun s => normC [0, 1, 2, 3, 4, 18, 19, 20, 21, 22, 182, 183, 184, 196, 197, 198, 210, 211, 212, 1000000000, 1000000001] s K) (xb96c86io10001_17 n SS) rt96c86io10001 s
noncomputable def kq96c86io10001_24 (n : Nat × Nat) (SS : List Int → Int → Int → Int → (List (Int × Int)) → Option R96c86io10001) : St → Option R96c86io10001 := run (E96c86io10001 n SS) (cB (cB (cB (cB (cA (cB (cA c96c86io10001))))))) (Ann.snd (Ann.snd (Ann.snd (Ann.snd (Ann.fst (Ann.snd (Ann.fst an96c86io10001))))))) (kc96c86io10001_2 n SS) (fun _ _ => none) rt96c86io10001
noncomputable def xb96c86io10001_26 (n : Nat × Nat) (SS : List Int → Int → Int → Int → (List (Int × Int)) → Option R96c86io10001) : Nat → St → Option R96c86io10001 := fun j s => bif Nat.beq j 2 then normC [1000000000, 1000000001] s (kq96c86io10001_24 n SS) else (fun _ _ => none) j s
noncomputable def F96c86io10001_27 (n : Nat × Nat) (SS : List Int → Int → Int → Int → (List (Int × Int)) → Option R96c86io10001) : (St → Option R96c86io10001) → St → Option R96c86io10001 := fun K s => run (E96c86io10001 n SS) (cA (cA (cB (cA (cB (cB (cB (cA (cB (cA c96c86io10001)))))))))) (Ann.fst (Ann.fst (Ann.snd (Ann.fst (Ann.snd (Ann.snd (Ann.snd (Ann.fst (Ann.snd (Ann.fst an96c86io10001)))))))))) (fun s => normC [0, 10, 13, 1000000000, 1000000001] s K) (xb96c86io10001_26 n SS) rt96c86io10001 s
noncomputable def kq96c86io10001_33 (n : Nat × Nat) (SS : List Int → Int → Int → Int → (List (Int × Int)) → Option R96c86io10001) : St → Option R96c86io10001 := run (E96c86io10001 n SS) (cB (cB (cB (cB (cA (cB (cA (cB c96c86io10001)))))))) (Ann.snd (Ann.snd (Ann.snd (Ann.snd (Ann.fst (Ann.snd (Ann.fst (Ann.snd an96c86io10001)))))))) (kc96c86io10001_8 n SS) (fun _ _ => none) rt96c86io10001
noncomputable def xb96c86io10001_35 (n : Nat × Nat) (SS : List Int → Int → Int → Int → (List (Int × Int)) → Option R96c86io10001) : Nat → St → Option R96c86io10001 := fun j s => bif Nat.beq j 6 then normC [1000000000, 1000000001] s (kq96c86io10001_33 n SS) else (fun _ _ => none) j s
noncomputable def F96c86io10001_36 (n : Nat × Nat) (SS : List Int → Int → Int → Int → (List (Int × Int)) → Option R96c86io10001) : (St → Option R96c86io10001) → St → Option R96c86io10001 := fun K s => run (E96c86io10001 n SS) (cA (cA (cB (cA (cB (cB (cB (cA (cB (cA (cB c96c86io10001))))))))))) (Ann.fst (Ann.fst (Ann.snd (Ann.fst (Ann.snd (Ann.snd (Ann.snd (Ann.fst (Ann.snd (Ann.fst (Ann.snd an96c86io10001))))))))))) (fun s => normC [0, 14, 17, 1000000000, 1000000001] s K) (xb96c86io10001_35 n SS) rt96c86io10001 s
noncomputable def L96c86io10001_1 (n : Nat × Nat) (SS : List Int → Int → Int → Int → (List (Int × Int)) → Option R96c86io10001) (m : Nat) (a1 : Int) (i10 : Int) (j11 : Int) (u0 : List Int) (u1 : List (Int × Int)) : Option R96c86io10001 := loopN (F96c86io10001_6 n SS) m { tm := [.own 1000000000 none false, .c (.int .i64 a1), uu, uu, .fn 86 [.ptr 1000000001 0], uu, uu, uu, uu, uu, .c (.int .i64 i10), .c (.int .i64 j11), uu, uu, uu, uu, uu, uu, uu, uu, uu, uu, uu, uu, uu, uu, uu, uu, uu, uu, uu, uu, uu, uu, uu, uu, uu, uu, uu, uu, uu, uu, uu, uu, uu, uu, uu, uu, uu, uu, uu, uu, uu, uu, uu, uu, uu, uu, uu, uu, uu, uu, uu, uu, uu, uu, uu, uu, uu, uu, uu, uu, uu, uu, uu, uu, uu, uu, uu, uu, uu, uu, uu, uu, uu, uu, uu, uu, uu, uu, uu, uu, uu, uu, uu, uu, uu, uu, uu, uu, uu, uu, uu, uu, uu, uu, uu, uu, uu, uu, uu, uu, uu, uu, uu, uu, uu, uu, uu, uu, uu, uu, uu, uu, uu, uu, uu, uu, uu, uu, uu, uu, uu, uu, uu, uu, uu, uu, uu, uu, uu, uu, uu, uu, uu, uu, uu, uu, uu, uu, uu, uu, uu, uu, uu, uu, uu, uu, uu, uu, uu, uu, uu, uu, uu, uu, uu, uu, uu, uu, uu, uu, uu, uu, uu, uu, uu, uu, uu, uu, uu, uu, uu, uu, uu, uu, uu, uu, uu, uu, uu, uu, uu, uu, uu, uu, uu, uu, uu, uu, uu, uu, uu, uu, uu, uu, uu, uu, uu, uu, uu, uu, uu, uu, uu, uu, uu, uu, uu, uu], hp := (upd (upd emp 1000000001 (.box [.sl (.pair (.int .i64) (.int .i64)) u1 false])) 1000000000 (.arr (.int .i64) u0 false)) }
noncomputable def L96c86io10001_2 (n : Nat × Nat) (SS : List Int → Int → Int → Int → (List (Int × Int)) → Option R96c86io10001) (m : Nat) (m2 : Int) (i14 : Int) (j15 : Int) (u0 : List Int) (u1 : List (Int × Int)) : Option R96c86io10001 := loopN (F96c86io10001_12 n SS) m { tm := [.own 1000000000 none false, uu, .c (.int .i64 m2), uu, .fn 86 [.ptr 1000000001 0], uu, uu, uu, uu, uu, uu, uu, uu, uu, .c (.int .i64 i14), .c (.int .i64 j15), uu, uu, uu, uu, uu, uu, uu, uu, uu, uu, uu, uu, uu, uu, uu, uu, uu, uu, uu, uu, uu, uu, uu, uu, uu, uu, uu, uu, uu, uu, uu, uu, uu, uu, uu, uu, uu, uu, uu, uu, uu, uu, uu, uu, uu, uu, uu, uu, uu, uu, uu, uu, uu, uu, uu, uu, uu, uu, uu, uu, uu, uu, uu, uu, uu, uu, uu, uu, uu, uu, uu, uu, uu, uu, uu, uu, uu, uu, uu, uu, uu, uu, uu, uu, uu, uu, uu, uu, uu, uu, uu, uu, uu, uu, uu, uu, uu, uu, uu, uu, uu, uu, uu, uu, uu, uu, uu, uu, uu, uu, uu, uu, uu, uu, uu, uu, uu, uu, uu, uu, uu, uu, uu, uu, uu, uu, uu, uu, uu, uu, uu, uu, uu, uu, uu, uu, uu, uu, uu, uu, uu, uu, uu, uu, uu, uu, uu, uu, uu, uu, uu, uu, uu, uu, uu, uu, uu, uu, uu, uu, uu, uu, uu, uu, uu, uu, uu, uu, uu, uu, uu, uu, uu, uu, uu, uu, uu, uu, uu, uu, uu, uu, uu, uu, uu, uu, uu, uu, uu, uu, uu, uu, uu, uu, uu, uu, uu, uu, uu, uu, uu, uu, uu, uu], hp := (upd (upd emp 1000000001 (.box [.sl (.pair (.int .i64) (.int .i64)) u1 false])) 1000000000 (.arr (.int .i64) u0 false)) }
noncomputable def L96c86io10001_3 (n : Nat × Nat) (SS : List Int → Int → Int → Int → (List (Int × Int)) → Option R96c86io10001) (m : Nat) (a1 : Int) (m2 : Int) (b3 : Int) (mid18 : Int) (v19 : Int) (start20 : Int) (r21 : Int) (p22 : Int) (u0 : List Int) (u1 : List (Int × Int)) : Option R96c86io10001 := loopN (F96c86io10001_18 n SS) m { tm := [.own 1000000000 none false, .c (.int .i64 a1), .c (.int .i64 m2), .c (.int .i64 b3), .fn 86 [.ptr 1000000001 0], uu, uu, uu, uu, uu, uu, uu, uu, uu, uu, uu, uu, uu, .c (.int .i64 mid18), .c (.int .i64 v19), .c (.int .i64 start20), .c (.int .i64 r21), .c (.int .i64 p22), uu, uu, uu, uu, uu, uu, uu, uu, uu, uu, uu, uu, uu, uu, uu, uu, uu, uu, uu, uu, uu, uu, uu, uu, uu, uu, uu, uu, uu, uu, uu, uu, uu, uu, uu, uu, uu, uu, uu, uu, uu, uu, uu, uu, uu, uu, uu, uu, uu, uu, uu, uu, uu, uu, uu, uu, uu, uu, uu, uu, uu, uu, uu, uu, uu, uu, uu, uu, uu, uu, uu, uu, uu, uu, uu, uu, uu, uu, uu, uu, uu, uu, uu, uu, uu, uu, uu, uu, uu, uu, uu, uu, uu, uu, uu, uu, uu, uu, uu, uu, uu, uu, uu, uu, uu, uu, uu, uu, uu, uu, uu, uu, uu, uu, uu, uu, uu, uu, uu, uu, uu, uu, uu, uu, uu, uu, uu, uu, uu, uu, uu, uu, uu, uu, uu, uu, uu, uu, uu, uu, uu, uu, uu, uu, uu, uu, uu, uu, uu, uu, uu, uu, uu, uu, uu, uu, uu, uu, uu, uu, uu, uu, uu, uu, uu, uu, uu, uu, uu, uu, uu, uu, uu, uu, uu, uu, uu, uu, uu, uu, uu, uu, uu, uu, uu, uu, uu, uu, uu, uu, uu, uu, uu, uu, uu, uu, uu], hp := (upd (upd emp 1000000001 (.box [.sl (.pair (.int .i64) (.int .i64)) u1 false])) 1000000000 (.arr (.int .i64) u0 false)) }
noncomputable def L96c86io10001_4 (n : Nat × Nat) (SS : List Int → Int → Int → Int → (List (Int × Int)) → Option R96c86io10001) (m : Nat) (i10 : Int) (k13 : Int) (u0 : List Int) (u1 : List (Int × Int)) : Option R96c86io10001 := loopN (F96c86io10001_27 n SS) m { tm := [.own 1000000000 none false, uu, uu, uu, uu, uu, uu, uu, uu, uu, .c (.int .i64 i10), uu, uu, .c (.int .i64 k13), uu, uu, uu, uu, uu, uu, uu, uu, uu, uu, uu, uu, uu, uu, uu, uu, uu, uu, uu, uu, uu, uu, uu, uu, uu, uu, uu, uu, uu, uu, uu, uu, uu, uu, uu, uu, uu, uu, uu, uu, uu, uu, uu, uu, uu, uu, uu, uu, uu, uu, uu, uu, uu, uu, uu, uu, uu, uu, uu, uu, uu, uu, uu, uu, uu, uu, uu, uu, uu, uu, uu, uu, uu, uu, uu, uu, uu, uu, uu, uu, uu, uu, uu, uu, uu, uu, uu, uu, uu, uu, uu, uu, uu, uu, uu, uu, uu, uu, uu, uu, uu, uu, uu, uu, uu, uu, uu, uu, uu, uu, uu, uu, uu, uu, uu, uu, uu, uu, uu, uu, uu, uu, uu, uu, uu, uu, uu, uu, uu, uu, uu, uu, uu, uu, uu, uu, uu, uu, uu, uu, uu, uu, uu, uu, uu, uu, uu, uu, uu, uu, uu, uu, uu, uu, uu, uu, uu, uu, uu, uu, uu, uu, uu, uu, uu, uu, uu, uu, uu, uu, uu, uu, uu, uu, uu, uu, uu, uu, uu, uu, uu, uu, uu, uu, uu, uu, uu, uu, uu, uu, uu, uu, uu, uu, uu, uu, uu, uu, uu, uu, uu, uu, uu, uu, uu, uu], hp := (upd (upd emp 1000000001 (.box [.sl (.pair (.int .i64) (.int .i64)) u1 false])) 1000000000 (.arr (.int .i64) u0 false)) }
noncomputable def L96c86io10001_5 (n : Nat × Nat) (SS : List Int → Int → Int → Int → (List (Int × Int)) → Option R96c86io10001) (m : Nat) (i14 : Int) (k17 : Int) (u0 : List Int) (u1 : List (Int × Int)) : Option R96c86io10001 := loopN (F96c86io10001_36 n SS) m { tm := [.own 1000000000 none false, uu, uu, uu, uu, uu, uu, uu, uu, uu, uu, uu, uu, uu, .c (.int .i64 i14), uu, uu, .c (.int .i64 k17), uu, uu, uu, uu, uu, uu, uu, uu, uu, uu, uu, uu, uu, uu, uu, uu, uu, uu, uu, uu, uu, uu, uu, uu, uu, uu, uu, uu, uu, uu, uu, uu, uu, uu, uu, uu, uu, uu, uu, uu, uu, uu, uu, uu, uu, uu, uu, uu, uu, uu, uu, uu, uu, uu, uu, uu, uu, uu, uu, uu, uu, uu, uu, uu, uu, uu, uu, uu, uu, uu, uu, uu, uu, uu, uu, uu, uu, uu, uu, uu, uu, uu, uu, uu, uu, uu, uu, uu, uu, uu, uu, uu, uu, uu, uu, uu, uu, uu, uu, uu, uu, uu, uu, uu, uu, uu, uu, uu, uu, uu, uu, uu, uu, uu, uu, uu, uu, uu, uu, uu, uu, uu, uu, uu, uu, uu, uu, uu, uu, uu, uu, uu, uu, uu, uu, uu, uu, uu, uu, uu, uu, uu, uu, uu, uu, uu, uu, uu, uu, uu, uu, uu, uu, uu, uu, uu, uu, uu, uu, uu, uu, uu, uu, uu, uu, uu, uu, uu, uu, uu, uu, uu, uu, uu, uu, uu, uu, uu, uu, uu, uu, uu, uu, uu, uu, uu, uu, uu, uu, uu, uu, uu, uu, uu, uu, uu, uu, uu, uu, uu, uu, uu], hp := (upd (upd emp 1000000001 (.box [.sl (.pair (.int .i64) (.int .i64)) u1 false])) 1000000000 (.arr (.int .i64) u0 false)) }
theorem L96c86io10001_1_eq (n : Nat × Nat) (SS : List Int → Int → Int → Int → (List (Int × Int)) → Option R96c86io10001) (m1 : Nat) (a1 : Int) (i10 : Int) (j11 : Int) (u0 : List Int) (u1 : List (Int × Int)) : L96c86io10001_1 n SS (m1 + 1) a1 i10 j11 u0 u1 =
 (bif decide (i10 < j11) then (bif decide (1 < 0) then none
 else (bif inB (wr .i64 (Int.fdiv (wr .u64 (wr .i64 (i10 + j11))) (2 ^ (min (Int.toNat 1) (IntKind.bits .u64))))) u0.length then (idx u0 (wr .i64 (Int.fdiv (wr .u64 (wr .i64 (i10 + j11))) (2 ^ (min (Int.toNat 1) (IntKind.bits .u64)))))).bind fun x1' =>
 (bif inB a1 u0.length then (idx u0 a1).bind fun x2' =>
 (S86 n x1' x2' u1).bind fun r3' =>
 (bif decide (r3' < 0) then L96c86io10001_1 n SS m1 a1 (wr .i64 ((wr .i64 (Int.fdiv (wr .u64 (wr .i64 (i10 + j11))) (2 ^ (min (Int.toNat 1) (IntKind.bits .u64))))) + 1)) j11 u0 u1
 else L96c86io10001_1 n SS m1 a1 i10 (wr .i64 (Int.fdiv (wr .u64 (wr .i64 (i10 + j11))) (2 ^ (min (Int.toNat 1) (IntKind.bits .u64))))) u0 u1)
 else none)
 else none))
 else L96c86io10001_4 n SS n.1 i10 a1 u0 u1) := by kernel_rfl
theorem L96c86io10001_2_eq (n : Nat × Nat) (SS : List Int → Int → Int → Int → (List (Int × Int)) → Option R96c86io10001) (m1 : Nat) (m2 : Int) (i14 : Int) (j15 : Int) (u0 : List Int) (u1 : List (Int × Int)) : L96c86io10001_2 n SS (m1 + 1) m2 i14 j15 u0 u1 =
 (bif decide (i14 < j15) then (bif decide (1 < 0) then none
 else (bif inB m2 u0.length then (idx u0 m2).bind fun x4' =>
 (bif inB (wr .i64 (Int.fdiv (wr .u64 (wr .i64 (i14 + j15))) (2 ^ (min (Int.toNat 1) (IntKind.bits .u64))))) u0.length then (idx u0 (wr .i64 (Int.fdiv (wr .u64 (wr .i64 (i14 + j15))) (2 ^ (min (Int.toNat 1) (IntKind.bits .u64)))))).bind fun x5' =>
 (S86 n x4' x5' u1).bind fun r6' =>
 (bif (!(decide (r6' < 0))) then L96c86io10001_2 n SS m1 m2 (wr .i64 ((wr .i64 (Int.fdiv (wr .u64 (wr .i64 (i14 + j15))) (2 ^ (min (Int.toNat 1) (IntKind.bits .u64))))) + 1)) j15 u0 u1
 else L96c86io10001_2 n SS m1 m2 i14 (wr .i64 (Int.fdiv (wr .u64 (wr .i64 (i14 + j15))) (2 ^ (min (Int.toNat 1) (IntKind.bits .u64))))) u0 u1)
 else none)
 else none))
 else L96c86io10001_5 n SS n.1 i14 m2 u0 u1) := by kernel_rfl
theorem L96c86io10001_3_eq (n : Nat × Nat) (SS : List Int → Int → Int → Int → (List (Int × Int)) → Option R96c86io10001) (m1 : Nat) (a1 : Int) (m2 : Int) (b3 : Int) (mid18 : Int) (v19 : Int) (start20 : Int) (r21 : Int) (p22 : Int) (u0 : List Int) (u1 : List (Int × Int)) : L96c86io10001_3 n SS (m1 + 1) a1 m2 b3 mid18 v19 start20 r21 p22 u0 u1 =
 (bif decide (start20 < r21) then (bif decide (1 < 0) then none
 else (bif inB (wr .i64 (p22 - (wr .i64 (Int.fdiv (wr .u64 (wr .i64 (start20 + r21))) (2 ^ (min (Int.toNat 1) (IntKind.bits .u64))))))) u0.length then (idx u0 (wr .i64 (p22 - (wr .i64 (Int.fdiv (wr .u64 (wr .i64 (start20 + r21))) (2 ^ (min (Int.toNat 1) (IntKind.bits .u64)))))))).bind fun x7' =>
 (bif inB (wr .i64 (Int.fdiv (wr .u64 (wr .i64 (start20 + r21))) (2 ^ (min (Int.toNat 1) (IntKind.bits .u64))))) u0.length then (idx u0 (wr .i64 (Int.fdiv (wr .u64 (wr .i64 (start20 + r21))) (2 ^ (min (Int.toNat 1) (IntKind.bits .u64)))))).bind fun x8' =>
 (S86 n x7' x8' u1).bind fun r9' =>
 (bif (!(decide (r9' < 0))) then L96c86io10001_3 n SS m1 a1 m2 b3 mid18 v19 (wr .i64 ((wr .i64 (Int.fdiv (wr .u64 (wr .i64 (start20 + r21))) (2 ^ (min (Int.toNat 1) (IntKind.bits .u64))))) + 1)) r21 p22 u0 u1
 else L96c86io10001_3 n SS m1 a1 m2 b3 mid18 v19 start20 (wr .i64 (Int.fdiv (wr .u64 (wr .i64 (start20 + r21))) (2 ^ (min (Int.toNat 1) (IntKind.bits .u64))))) p22 u0 u1)
 else none)
 else none))
 else ((bif (decide (start20 < m2) == true) then some (decide (m2 < wr .i64 (v19 - start20)))
 else some false)).bind fun b10' =>
 (bif b10' then (S97c86io10001 n u0 start20 m2 (wr .i64 (v19 - start20)) u1).bind fun r11' =>
 (bif Nat.beq r11'.2.1.length u0.length then ((bif (decide (a1 < start20) == true) then some (decide (start20 < mid18))
 else some false)).bind fun b12' =>
 (bif b12' then (SS r11'.2.1 a1 start20 mid18 r11'.2.2.1).bind fun r13' =>
 (bif Nat.beq r13'.2.1.length r11'.2.1.length then ((bif (decide (mid18 < wr .i64 (v19 - start20)) == true) then some (decide (wr .i64 (v19 - start20) < b3))
 else some false)).bind fun b14' =>
 (bif b14' then (SS r13'.2.1 mid18 (wr .i64 (v19 - start20)) b3 r13'.2.2.1).bind fun r15' =>
 (bif Nat.beq r15'.2.1.length r13'.2.1.length then some ((), r15'.2.1, r15'.2.2.1, ())
 else none)
 else some ((), r13'.2.1, r13'.2.2.1, ()))
 else none)
 else ((bif (decide (mid18 < wr .i64 (v19 - start20)) == true) then some (decide (wr .i64 (v19 - start20) < b3))
 else some false)).bind fun b16' =>
 (bif b16' then (SS r11'.2.1 mid18 (wr .i64 (v19 - start20)) b3 r11'.2.2.1).bind fun r17' =>
 (bif Nat.beq r17'.2.1.length r11'.2.1.length then some ((), r17'.2.1, r17'.2.2.1, ())
 else none)
 else some ((), r11'.2.1, r11'.2.2.1, ())))
 else none)
 else ((bif (decide (a1 < start20) == true) then some (decide (start20 < mid18))
 else some false)).bind fun b18' =>
 (bif b18' then (SS u0 a1 start20 mid18 u1).bind fun r19' =>
 (bif Nat.beq r19'.2.1.length u0.length then ((bif (decide (mid18 < wr .i64 (v19 - start20)) == true) then some (decide (wr .i64 (v19 - start20) < b3))
 else some false)).bind fun b20' =>
 (bif b20' then (SS r19'.2.1 mid18 (wr .i64 (v19 - start20)) b3 r19'.2.2.1).bind fun r21' =>
 (bif Nat.beq r21'.2.1.length r19'.2.1.length then some ((), r21'.2.1, r21'.2.2.1, ())
 else none)
 else some ((), r19'.2.1, r19'.2.2.1, ()))
 else none)
 else ((bif (decide (mid18 < wr .i64 (v19 - start20)) == true) then some (decide (wr .i64 (v19 - start20) < b3))
 else some false)).bind fun b22' =>
 (bif b22' then (SS u0 mid18 (wr .i64 (v19 - start20)) b3 u1).bind fun r23' =>
 (bif Nat.beq r23'.2.1.length u0.length then some ((), r23'.2.1, r23'.2.2.1, ())
 else none)
 else some ((), u0, u1, ()))))) := by kernel_rfl
theorem L96c86io10001_4_eq (n : Nat × Nat) (SS : List Int → Int → Int → Int → (List (Int × Int)) → Option R96c86io10001) (m1 : Nat) (i10 : Int) (k13 : Int) (u0 : List Int) (u1 : List (Int × Int)) : L96c86io10001_4 n SS (m1 + 1) i10 k13 u0 u1 =
 (bif decide (k13 < wr .i64 (i10 - 1)) then (bif inB (wr .i64 (k13 + 1)) u0.length then (idx u0 (wr .i64 (k13 + 1))).bind fun x24' =>
 (bif inB k13 u0.length then (idx u0 k13).bind fun x25' =>
 (bif inB k13 u0.length then (idx u0 k13).bind fun x26' =>
 (bif inB (wr .i64 (k13 + 1)) (u0.set (Int.toNat k13) x24').length then (idx (u0.set (Int.toNat k13) x24') (wr .i64 (k13 + 1))).bind fun x27' =>
              L96c86io10001_4 n SS m1 i10 (wr .i64 (k13 + 1)) ((u0.set (Int.toNat k13) x24').set (Int.toNat (wr .i64 (k13 + 1))) x25') u1
 else none)
 else none)
 else none)
 else none)
 else some ((), u0, u1, ())) := by kernel_rfl
theorem L96c86io10001_5_eq (n : Nat × Nat) (SS : List Int → Int → Int → Int → (List (Int × Int)) → Option R96c86io10001) (m1 : Nat) (i14 : Int) (k17 : Int) (u0 : List Int) (u1 : List (Int × Int)) : L96c86io10001_5 n SS (m1 + 1) i14 k17 u0 u1 =
 (bif decide (k17 > i14) then (bif inB (wr .i64 (k17 - 1)) u0.length then (idx u0 (wr .i64 (k17 - 1))).bind fun x28' =>
 (bif inB k17 u0.length then (idx u0 k17).bind fun x29' =>
 (bif inB k17 u0.length then (idx u0 k17).bind fun x30' =>
 (bif inB (wr .i64 (k17 - 1)) (u0.set (Int.toNat k17) x28').length then (idx (u0.set (Int.toNat k17) x28') (wr .i64 (k17 - 1))).bind fun x31' =>
              L96c86io10001_5 n SS m1 i14 (wr .i64 (k17 - 1)) ((u0.set (Int.toNat k17) x28').set (Int.toNat (wr .i64 (k17 - 1))) x29') u1
 else none)
 else none)
 else none)
 else none)
 else some ((), u0, u1, ())) := by kernel_rfl
noncomputable def B96c86io10001 (n : Nat × Nat) (SS : List Int → Int → Int → Int → (List (Int × Int)) → Option R96c86io10001) (data0 : List Int) (a1 : Int) (m2 : Int) (b3 : Int) (cp_4_0 : List (Int × Int)) : Option R96c86io10001 := run (E96c86io10001 n SS) c96c86io10001 an96c86io10001 rt96c86io10001 (fun _ _ => none) rt96c86io10001 { tm := [.own 1000000000 none false, .c (.int .i64 a1), .c (.int .i64 m2), .c (.int .i64 b3), .fn 86 [.ptr 1000000001 0], uu, uu, uu, uu, uu, uu, uu, uu, uu, uu, uu, uu, uu, uu, uu, uu, uu, uu, uu, uu, uu, uu, uu, uu, uu, uu, uu, uu, uu, uu, uu, uu, uu, uu, uu, uu, uu, uu, uu, uu, uu, uu, uu, uu, uu, uu, uu, uu, uu, uu, uu, uu, uu, uu, uu, uu, uu, uu, uu, uu, uu, uu, uu, uu, uu, uu, uu, uu, uu, uu, uu, uu, uu, uu, uu, uu, uu, uu, uu, uu, uu, uu, uu, uu, uu, uu, uu, uu, uu, uu, uu, uu, uu, uu, uu, uu, uu, uu, uu, uu, uu, uu, uu, uu, uu, uu, uu, uu, uu, uu, uu, uu, uu, uu, uu, uu, uu, uu, uu, uu, uu, uu, uu, uu, uu, uu, uu, uu, uu, uu, uu, uu, uu, uu, uu, uu, uu, uu, uu, uu, uu, uu, uu, uu, uu, uu, uu, uu, uu, uu, uu, uu, uu, uu, uu, uu, uu, uu, uu, uu, uu, uu, uu, uu, uu, uu, uu, uu, uu, uu, uu, uu, uu, uu, uu, uu, uu, uu, uu, uu, uu, uu, uu, uu, uu, uu, uu, uu, uu, uu, uu, uu, uu, uu, uu, uu, uu, uu, uu, uu, uu, uu, uu, uu, uu, uu, uu, uu, uu, uu, uu, uu, uu, uu, uu], hp := (upd (upd emp 1000000001 (.box [.sl (.pair (.int .i64) (.int .i64)) cp_4_0 false])) 1000000000 (.arr (.int .i64) data0 false)) }
theorem B96c86io10001_eq (n : Nat × Nat) (SS : List Int → Int → Int → Int → (List (Int × Int)) → Option R96c86io10001) (data0 : List Int) (a1 : Int) (m2 : Int) (b3 : Int) (cp_4_0 : List (Int × Int)) : B96c86io10001 n SS data0 a1 m2 b3 cp_4_0 =
 (bif ((wr .i64 (m2 - a1)) == 1) then L96c86io10001_1 n SS n.1 a1 m2 b3 data0 cp_4_0
 else (bif ((wr .i64 (b3 - m2)) == 1) then L96c86io10001_2 n SS n.1 m2 a1 m2 data0 cp_4_0
 else (bif decide (1 < 0) then none
 else (bif decide (m2 > wr .i64 (Int.fdiv (wr .u64 (wr .i64 (a1 + b3))) (2 ^ (min (Int.toNat 1) (IntKind.bits .u64))))) then L96c86io10001_3 n SS n.1 a1 m2 b3 (wr .i64 (Int.fdiv (wr .u64 (wr .i64 (a1 + b3))) (2 ^ (min (Int.toNat 1) (IntKind.bits .u64))))) (wr .i64 ((wr .i64 (Int.fdiv (wr .u64 (wr .i64 (a1 + b3))) (2 ^ (min (Int.toNat 1) (IntKind.bits .u64))))) + m2)) (wr .i64 ((wr .i64 ((wr .i64 (Int.fdiv (wr .u64 (wr .i64 (a1 + b3))) (2 ^ (min (Int.toNat 1) (IntKind.bits .u64))))) + m2)) - b3)) (wr .i64 (Int.fdiv (wr .u64 (wr .i64 (a1 + b3))) (2 ^ (min (Int.toNat 1) (IntKind.bits .u64))))) (wr .i64 ((wr .i64 ((wr .i64 (Int.fdiv (wr .u64 (wr .i64 (a1 + b3))) (2 ^ (min (Int.toNat 1) (IntKind.bits .u64))))) + m2)) - 1)) data0 cp_4_0
 else L96c86io10001_3 n SS n.1 a1 m2 b3 (wr .i64 (Int.fdiv (wr .u64 (wr .i64 (a1 + b3))) (2 ^ (min (Int.toNat 1) (IntKind.bits .u64))))) (wr .i64 ((wr .i64 (Int.fdiv (wr .u64 (wr .i64 (a1 + b3))) (2 ^ (min (Int.toNat 1) (IntKind.bits .u64))))) + m2)) a1 m2 (wr .i64 ((wr .i64 ((wr .i64 (Int.fdiv (wr .u64 (wr .i64 (a1 + b3))) (2 ^ (min (Int.toNat 1) (IntKind.bits .u64))))) + m2)) - 1)) data0 cp_4_0)))) := by kernel_rfl
noncomputable def T96c86io10001 (n : Nat × Nat) : Nat → List Int → Int → Int → Int → (List (Int × Int)) → Option R96c86io10001
  | 0 => fun _ _ _ _ _ => none
  | d + 1 => B96c86io10001 n (T96c86io10001 n d)
theorem T96c86io10001_eq (n : Nat × Nat) (d : Nat) (data0 : List Int) (a1 : Int) (m2 : Int) (b3 : Int) (cp_4_0 : List (Int × Int)) : T96c86io10001 n (d + 1) data0 a1 m2 b3 cp_4_0 = B96c86io10001 n (T96c86io10001 n d) data0 a1 m2 b3 cp_4_0 := rfl
noncomputable def S96c86io10001 (n : Nat × Nat) (data0 : List Int) (a1 : Int) (m2 : Int) (b3 : Int) (cp_4_0 : List (Int × Int)) : Option R96c86io10001 := T96c86io10001 n n.1 data0 a1 m2 b3 cp_4_0
theorem B96c86io10001_run (n : Nat × Nat) (SS : List Int → Int → Int → Int → (List (Int × Int)) → Option R96c86io10001) (xs : qksDen pk96c86io10001) : B96c86io10001 n SS xs.1 xs.2.1 xs.2.2.1 xs.2.2.2.1 xs.2.2.2.2.1.1 = runG (E96c86io10001 n SS) noScope c96c86io10001 an96c86io10001 (rtIO rk96c86io10001 (pk96c86io10001.flatMap QK.ods)) (fun _ _ => none) (rtIO rk96c86io10001 (pk96c86io10001.flatMap QK.ods)) (st1 pk96c86io10001 xs Try.f96.ntmps) := by kernel_rfl
noncomputable def P96c86io10001 (n : Nat × Nat) := phioOf pk96c86io10001 rk96c86io10001 (pk96c86io10001.flatMap QK.ods) (fun xs => S96c86io10001 n xs.1 xs.2.1 xs.2.2.1 xs.2.2.2.1 xs.2.2.2.2.1.1)
theorem call96 : CallOK Try.prog 96 := callOK_of Try.func96 (by kernel_rfl) (by kernel_rfl)
theorem env96c86io10001 (n : Nat × Nat) (SS : List Int → Int → Int → Int → (List (Int × Int)) → Option R96c86io10001) (hSS : FCios Try.prog 96 (pk96c86io10001.map QK.flag) (phioOf pk96c86io10001 rk96c86io10001 (pk96c86io10001.flatMap QK.ods) (fun xs => SS xs.1 xs.2.1 xs.2.2.1 xs.2.2.2.1 xs.2.2.2.2.1.1))) : EnvOK Try.prog (E96c86io10001 n SS) := envOK (l := io96c86io10001 n SS) (consPhi_ok (FC86 n) call86 noPhi_ok) rfl rfl (by kernel_rfl) ⟨FC97c86io10001 n, call97, hSS, call96, trivial⟩
theorem par96c86io10001 (n : Nat × Nat) (SS : List Int → Int → Int → Int → (List (Int × Int)) → Option R96c86io10001) : EnvPar (E96c86io10001 n SS) := envPar (l := io96c86io10001 n SS) (consPhi_par phiOf_Par1 noPhi_par) rfl ⟨phioOf_Pario1, phioOf_Pario1, trivial⟩
theorem FCT96c86io10001 (n : Nat × Nat) : ∀ d : Nat, FCios Try.prog 96 (pk96c86io10001.map QK.flag) (phioOf pk96c86io10001 rk96c86io10001 (pk96c86io10001.flatMap QK.ods) (fun xs => T96c86io10001 n d xs.1 xs.2.1 xs.2.2.1 xs.2.2.2.1 xs.2.2.2.2.1.1))
  | 0 => phioOf_FCios fun xs r h => by cases h
  | d + 1 => phioOf_FCios fun xs r h vs hv => FCio.of_runG tabOK eqsOK (env96c86io10001 n (T96c86io10001 n d) (FCT96c86io10001 n d)) (par96c86io10001 n (T96c86io10001 n d)) mixed (fun _ p _ => noScope_ok p.1 p.2) Try.func96 (c := c96c86io10001) (an := an96c86io10001) (qks := pk96c86io10001) (rks := rk96c86io10001) (by kernel_rfl) (by kernel_rfl) hv ((B96c86io10001_run n (T96c86io10001 n d) xs).symm.trans h)
theorem FC96c86io10001 (n : Nat × Nat) : FCios Try.prog 96 (pk96c86io10001.map QK.flag) (P96c86io10001 n) := FCT96c86io10001 n n.1
/- slices.stableCmpFunc[int] -/
abbrev R94c86io101 := (Unit) × (List Int) × (List (Int × Int)) × Unit
noncomputable def c94c86io101 : Code := bodyOf Try.f94
noncomputable def an94c86io101 : Ann := (.s .l (.s .l (.s (.j [0, 1, 2, 6, 7, 1000000000, 1000000001] (.j [0, 1, 2, 6, 7, 8, 1000000000, 1000000001] (.s (.s .l (.j [0, 1, 2, 6, 7, 8, 1000000000, 1000000001] .l .l)) (.j [0, 1, 2, 6, 7, 8, 1000000000, 1000000001] .l .l)) .l) .l) (.s .l (.j [1000000000, 1000000001] (.j [0, 1, 2, 6, 1000000000, 1000000001] (.s (.s .l (.j [0, 1, 2, 6, 1000000000, 1000000001] .l .l)) (.j [0, 1, 2, 6, 1000000000, 1000000001] (.s .l (.s (.j [0, 1, 2, 6, 7, 1000000000, 1000000001] (.j [0, 1, 2, 6, 7, 8, 1000000000, 1000000001] (.s (.s .l (.j [0, 1, 2, 6, 7, 8, 1000000000, 1000000001] .l .l)) (.j [0, 1, 2, 6, 7, 8, 1000000000, 1000000001] .l .l)) .l) .l) (.s (.s .l (.s .l (.j [0, 1, 2, 6, 1000000000, 1000000001] .l .l))) .l))) .l)) .l) .l)))))
def pk94c86io101 : List QK := [.oa (.int .i64), .pl (.c (.int .i64)), .of 86 [(.sl (.pair (.int .i64) (.int .i64)))]]
def rk94c86io101 : List RK := []
noncomputable def rt94c86io101 (st : St) : Option R94c86io101 := rtIO rk94c86io101 (pk94c86io101.flatMap QK.ods) st
noncomputable def io94c86io101 (n : Nat × Nat) : List IoE := [⟨95, (isFns [none, none, none, some 86]), pk95c86io1001.map QK.flag, P95c86io1001 n⟩, ⟨96, (isFns [none, none, none, none, some 86]), pk96c86io10001.map QK.flag, P96c86io10001 n⟩]
noncomputable def E94c86io101 (n : Nat × Nat) : Env := { T := tab, phi := noPhi, eff := fun _ => false, fuel := n.1, hold := n.2, phio := phioL (io94c86io101 n), iop := iopL (io94c86io101 n) }
noncomputable def kq94c86io101_1 (n : Nat × Nat) : St → Option R94c86io101 := run (E94c86io101 n) (cB (cB (cB c94c86io101))) (Ann.snd (Ann.snd (Ann.snd an94c86io101))) rt94c86io101 (fun _ _ => none) rt94c86io101
noncomputable def xb94c86io101_3 (n : Nat × Nat) : Nat → St → Option R94c86io101 := fun j s => bif Nat.beq j 0 then normC [0, 1, 2, 6, 7, 1000000000, 1000000001] s (kq94c86io101_1 n) else (fun _ _ => none) j s
noncomputable def F94c86io101_4 (n : Nat × Nat) : (St → Option R94c86io101) → St → Option R94c86io101 := fun K s => run (E94c86io101 n) (cA (cA (cA (cB (cB c94c86io101))))) (Ann.fst (Ann.fst (Ann.fst (Ann.snd (Ann.snd an94c86io101))))) (fun s => normC [0, 1, 2, 6, 7, 8, 1000000000, 1000000001] s K) (xb94c86io101_3 n) rt94c86io101 s
noncomputable def xb94c86io101_10 (n : Nat × Nat) : Nat → St → Option R94c86io101 := fun j s => bif Nat.beq j 2 then normC [1000000000, 1000000001] s rt94c86io101 else (fun _ _ => none) j s
noncomputable def F94c86io101_11 (n : Nat × Nat) : (St → Option R94c86io101) → St → Option R94c86io101 := fun K s => run (E94c86io101 n) (cA (cA (cB (cB (cB (cB c94c86io101)))))) (Ann.fst (Ann.fst (Ann.snd (Ann.snd (Ann.snd (Ann.snd an94c86io101)))))) (fun s => normC [0, 1, 2, 6, 1000000000, 1000000001] s K) (xb94c86io101_10 n) rt94c86io101 s
noncomputable def kc94c86io101_14 (n : Nat × Nat) (m1 : Nat) : St → Option R94c86io101 := fun s => normC [0, 1, 2, 6, 1000000000, 1000000001] s (fun s => normC [0, 1, 2, 6, 1000000000, 1000000001] s (loopN (F94c86io101_11 n) m1))
noncomputable def xb94c86io101_15 (n : Nat × Nat) (m1 : Nat) : Nat → St → Option R94c86io101 := fun j s => bif Nat.beq j 3 then normC [0, 1, 2, 6, 1000000000, 1000000001] s (fun s => normC [0, 1, 2, 6, 1000000000, 1000000001] s (loopN (F94c86io101_11 n) m1)) else (xb94c86io101_10 n) j s
noncomputable def kq94c86io101_16 (n : Nat × Nat) (m1 : Nat) : St → Option R94c86io101 := run (E94c86io101 n) (cB (cB (cA (cB (cA (cA (cB (cB (cB (cB c94c86io101)))))))))) (Ann.snd (Ann.snd (Ann.fst (Ann.snd (Ann.fst (Ann.fst (Ann.snd (Ann.snd (Ann.snd (Ann.snd an94c86io101)))))))))) (kc94c86io101_14 n m1) (xb94c86io101_15 n m1) rt94c86io101
noncomputable def xb94c86io101_18 (n : Nat × Nat) (m1 : Nat) : Nat → St → Option R94c86io101 := fun j s => bif Nat.beq j 4 then normC [0, 1, 2, 6, 7, 1000000000, 1000000001] s (kq94c86io101_16 n m1) else (xb94c86io101_15 n m1) j s
noncomputable def F94c86io101_19 (n : Nat × Nat) (m1 : Nat) : (St → Option R94c86io101) → St → Option R94c86io101 := fun K s => run (E94c86io101 n) (cA (cA (cA (cB (cA (cB (cA (cA (cB (cB (cB (cB c94c86io101)))))))))))) (Ann.fst (Ann.fst (Ann.fst (Ann.snd (Ann.fst (Ann.snd (Ann.fst (Ann.fst (Ann.snd (Ann.snd (Ann.snd (Ann.snd an94c86io101)))))))))))) (fun s => normC [0, 1, 2, 6, 7, 8, 1000000000, 1000000001] s K) (xb94c86io101_18 n m1) rt94c86io101 s
noncomputable def L94c86io101_1 (n : Nat × Nat) (m : Nat) (v1 : Int) (blockSize6 : Int) (a7 : Int) (b8 : Int) (u0 : List Int) (u1 : List (Int × Int)) : Option R94c86io101 := loopN (F94c86io101_4 n) m { tm := [.own 1000000000 none false, .c (.int .i64 v1), .fn 86 [.ptr 1000000001 0], uu, uu, uu, .c (.int .i64 blockSize6), .c (.int .i64 a7), .c (.int .i64 b8), uu, uu, uu, uu, uu, uu, uu, uu, uu, uu, uu, uu, uu, uu, uu, uu, uu, uu, uu, uu, uu, uu, uu, uu, uu, uu, uu, uu, uu, uu, uu, uu, uu, uu, uu, uu, uu, uu, uu, uu, uu, uu, uu, uu, uu, uu, uu, uu, uu, uu, uu, uu, uu, uu], hp := (upd (upd emp 1000000001 (.box [.sl (.pair (.int .i64) (.int .i64)) u1 false])) 1000000000 (.arr (.int .i64) u0 false)) }
noncomputable def L94c86io101_2 (n : Nat × Nat) (m : Nat) (v1 : Int) (blockSize6 : Int) (u0 : List Int) (u1 : List (Int × Int)) : Option R94c86io101 := loopN (F94c86io101_11 n) m { tm := [.own 1000000000 none false, .c (.int .i64 v1), .fn 86 [.ptr 1000000001 0], uu, uu, uu, .c (.int .i64 blockSize6), uu, uu, uu, uu, uu, uu, uu, uu, uu, uu, uu, uu, uu, uu, uu, uu, uu, uu, uu, uu, uu, uu, uu, uu, uu, uu, uu, uu, uu, uu, uu, uu, uu, uu, uu, uu, uu, uu, uu, uu, uu, uu, uu, uu, uu, uu, uu, uu, uu, uu, uu, uu, uu, uu, uu, uu], hp := (upd (upd emp 1000000001 (.box [.sl (.pair (.int .i64) (.int .i64)) u1 false])) 1000000000 (.arr (.int .i64) u0 false)) }
noncomputable def L94c86io101_3 (n : Nat × Nat) (m1 : Nat) (m : Nat) (v1 : Int) (blockSize6 : Int) (a7 : Int) (b8 : Int) (u0 : List Int) (u1 : List (Int × Int)) : Option R94c86io101 := loopN (F94c86io101_19 n m1) m { tm := [.own 1000000000 none false, .c (.int .i64 v1), .fn 86 [.ptr 1000000001 0], uu, uu, uu, .c (.int .i64 blockSize6), .c (.int .i64 a7), .c (.int .i64 b8), uu, uu, uu, uu, uu, uu, uu, uu, uu, uu, uu, uu, uu, uu, uu, uu, uu, uu, uu, uu, uu, uu, uu, uu, uu, uu, uu, uu, uu, uu, uu, uu, uu, uu, uu, uu, uu, uu, uu, uu, uu, uu, uu, uu, uu, uu, uu, uu, uu, uu, uu, uu, uu, uu], hp := (upd (upd emp 1000000001 (.box [.sl (.pair (.int .i64) (.int .i64)) u1 false])) 1000000000 (.arr (.int .i64) u0 false)) }
theorem L94c86io101_1_eq (n : Nat × Nat) (m1 : Nat) (v1 : Int) (blockSize6 : Int) (a7 : Int) (b8 : Int) (u0 : List Int) (u1 : List (Int × Int)) : L94c86io101_1 n (m1 + 1) v1 blockSize6 a7 b8 u0 u1 =
 (bif decide (b8 ≤ v1) then (S95c86io1001 n u0 a7 b8 u1).bind fun r1' =>
 (bif Nat.beq r1'.2.1.length u0.length then L94c86io101_1 n m1 v1 blockSize6 b8 (wr .i64 (b8 + blockSize6)) r1'.2.1 r1'.2.2.1
 else none)
 else (S95c86io1001 n u0 a7 v1 u1).bind fun r2' =>
 (bif Nat.beq r2'.2.1.length u0.length then L94c86io101_2 n n.1 v1 blockSize6 r2'.2.1 r2'.2.2.1
 else none)) := by kernel_rfl
theorem L94c86io101_2_eq (n : Nat × Nat) (m1 : Nat) (v1 : Int) (blockSize6 : Int) (u0 : List Int) (u1 : List (Int × Int)) : L94c86io101_2 n (m1 + 1) v1 blockSize6 u0 u1 =
 (bif decide (blockSize6 < v1) then L94c86io101_3 n m1 n.1 v1 blockSize6 0 (wr .i64 (2 * blockSize6)) u0 u1
 else some ((), u0, u1, ())) := by kernel_rfl
theorem L94c86io101_3_eq (n : Nat × Nat) (m1 m2 : Nat) (v1 : Int) (blockSize6 : Int) (a7 : Int) (b8 : Int) (u0 : List Int) (u1 : List (Int × Int)) : L94c86io101_3 n m1 (m2 + 1) v1 blockSize6 a7 b8 u0 u1 =
 (bif decide (b8 ≤ v1) then (S96c86io10001 n u0 a7 (wr .i64 (a7 + blockSize6)) b8 u1).bind fun r3' =>
 (bif Nat.beq r3'.2.1.length u0.length then L94c86io101_3 n m1 m2 v1 blockSize6 b8 (wr .i64 (b8 + (wr .i64 (2 * blockSize6)))) r3'.2.1 r3'.2.2.1
 else none)
 else (bif decide (wr .i64 (a7 + blockSize6) < v1) then (S96c86io10001 n u0 a7 (wr .i64 (a7 + blockSize6)) v1 u1).bind fun r4' =>
 (bif Nat.beq r4'.2.1.length u0.length then L94c86io101_2 n m1 v1 (wr .i64 (blockSize6 * 2)) r4'.2.1 r4'.2.2.1
 else none)
 else L94c86io101_2 n m1 v1 (wr .i64 (blockSize6 * 2)) u0 u1)) := by kernel_rfl
noncomputable def S94c86io101 (n : Nat × Nat) (data0 : List Int) (v1 : Int) (cp_2_0 : List (Int × Int)) : Option R94c86io101 := run (E94c86io101 n) c94c86io101 an94c86io101 rt94c86io101 (fun _ _ => none) rt94c86io101 { tm := [.own 1000000000 none false, .c (.int .i64 v1), .fn 86 [.ptr 1000000001 0], uu, uu, uu, uu, uu, uu, uu, uu, uu, uu, uu, uu, uu, uu, uu, uu, uu, uu, uu, uu, uu, uu, uu, uu, uu, uu, uu, uu, uu, uu, uu, uu, uu, uu, uu, uu, uu, uu, uu, uu, uu, uu, uu, uu, uu, uu, uu, uu, uu, uu, uu, uu, uu, uu, uu, uu, uu, uu, uu, uu], hp := (upd (upd emp 1000000001 (.box [.sl (.pair (.int .i64) (.int .i64)) cp_2_0 false])) 1000000000 (.arr (.int .i64) data0 false)) }
theorem S94c86io101_eq (n : Nat × Nat) (data0 : List Int) (v1 : Int) (cp_2_0 : List (Int × Int)) : S94c86io101 n data0 v1 cp_2_0 =
    L94c86io101_1 n n.1 v1 20 0 20 data0 cp_2_0 := by kernel_rfl
theorem S94c86io101_run (n : Nat × Nat) (xs : qksDen pk94c86io101) : S94c86io101 n xs.1 xs.2.1 xs.2.2.1.1 = runG (E94c86io101 n) noScope c94c86io101 an94c86io101 (rtIO rk94c86io101 (pk94c86io101.flatMap QK.ods)) (fun _ _ => none) (rtIO rk94c86io101 (pk94c86io101.flatMap QK.ods)) (st1 pk94c86io101 xs Try.f94.ntmps) := by kernel_rfl
noncomputable def P94c86io101 (n : Nat × Nat) := phioOf pk94c86io101 rk94c86io101 (pk94c86io101.flatMap QK.ods) (fun xs => S94c86io101 n xs.1 xs.2.1 xs.2.2.1.1)
theorem call94 : CallOK Try.prog 94 := callOK_of Try.func94 (by kernel_rfl) (by kernel_rfl)
theorem env94c86io101 (n : Nat × Nat) : EnvOK Try.prog (E94c86io101 n) := envOK (l := io94c86io101 n) noPhi_ok rfl rfl (by kernel_rfl) ⟨FC95c86io1001 n, call95, FC96c86io10001 n, call96, trivial⟩
theorem par94c86io101 (n : Nat × Nat) : EnvPar (E94c86io101 n) := envPar (l := io94c86io101 n) noPhi_par rfl ⟨phioOf_Pario1, phioOf_Pario1, trivial⟩
theorem FC94c86io101 (n : Nat × Nat) : FCios Try.prog 94 (pk94c86io101.map QK.flag) (P94c86io101 n) := phioOf_FCios fun xs r h vs hv => FCio.of_runG tabOK eqsOK (env94c86io101 n) (par94c86io101 n) mixed (fun _ p _ => noScope_ok p.1 p.2) Try.func94 (c := c94c86io101) (an := an94c86io101) (qks := pk94c86io101) (rks := rk94c86io101) (by kernel_rfl) (by kernel_rfl) hv ((S94c86io101_run n xs).symm.trans h)
/- slices.SortStableFunc[[]int,int] -/
abbrev R85c86io11 := (Unit) × (List Int) × (List (Int × Int)) × Unit
noncomputable def c85c86io11 : Code := bodyOf Try.f85
noncomputable def an85c86io11 : Ann := .l
def pk85c86io11 : List QK := [.oa (.int .i64), .of 86 [(.sl (.pair (.int .i64) (.int .i64)))]]
def rk85c86io11 : List RK := []
noncomputable def rt85c86io11 (st : St) : Option R85c86io11 := rtIO rk85c86io11 (pk85c86io11.flatMap QK.ods) st
noncomputable def io85c86io11 (n : Nat × Nat) : List IoE := [⟨94, (isFns [none, none, some 86]), pk94c86io101.map QK.flag, P94c86io101 n⟩]
noncomputable def E85c86io11 (n : Nat × Nat) : Env := { T := tab, phi := noPhi, eff := fun _ => false, fuel := n.1, hold := n.2, phio := phioL (io85c86io11 n), iop := iopL (io85c86io11 n) }
noncomputable def S85c86io11 (n : Nat × Nat) (x0 : List Int) (cp_1_0 : List (Int × Int)) : Option R85c86io11 := run (E85c86io11 n) c85c86io11 an85c86io11 rt85c86io11 (fun _ _ => none) rt85c86io11 { tm := [.own 1000000000 none false, .fn 86 [.ptr 1000000001 0], uu, uu, uu, uu, uu, uu, uu], hp := (upd (upd emp 1000000001 (.box [.sl (.pair (.int .i64) (.int .i64)) cp_1_0 false])) 1000000000 (.arr (.int .i64) x0 false)) }
theorem S85c86io11_eq (n : Nat × Nat) (x0 : List Int) (cp_1_0 : List (Int × Int)) : S85c86io11 n x0 cp_1_0 =
 (S94c86io101 n x0 (x0.length : Int) cp_1_0).bind fun r1' =>
 (bif Nat.beq r1'.2.1.length x0.length then some ((), r1'.2.1, r1'.2.2.1, ())
 else none) := by kernel_rfl
theorem S85c86io11_run (n : Nat × Nat) (xs : qksDen pk85c86io11) : S85c86io11 n xs.1 xs.2.1.1 = runG (E85c86io11 n) noScope c85c86io11 an85c86io11 (rtIO rk85c86io11 (pk85c86io11.flatMap QK.ods)) (fun _ _ => none) (rtIO rk85c86io11 (pk85c86io11.flatMap QK.ods)) (st1 pk85c86io11 xs Try.f85.ntmps) := by kernel_rfl
noncomputable def P85c86io11 (n : Nat × Nat) := phioOf pk85c86io11 rk85c86io11 (pk85c86io11.flatMap QK.ods) (fun xs => S85c86io11 n xs.1 xs.2.1.1)
theorem call85 : CallOK Try.prog 85 := callOK_of Try.func85 (by kernel_rfl) (by kernel_rfl)
theorem env85c86io11 (n : Nat × Nat) : EnvOK Try.prog (E85c86io11 n) := envOK (l := io85c86io11 n) noPhi_ok rfl rfl (by kernel_rfl) ⟨FC94c86io101 n, call94, trivial⟩
theorem par85c86io11 (n : Nat × Nat) : EnvPar (E85c86io11 n) := envPar (l := io85c86io11 n) noPhi_par rfl ⟨phioOf_Pario1, trivial⟩
theorem FC85c86io11 (n : Nat × Nat) : FCios Try.prog 85 (pk85c86io11.map QK.flag) (P85c86io11 n) := phioOf_FCios fun xs r h vs hv => FCio.of_runG tabOK eqsOK (env85c86io11 n) (par85c86io11 n) mixed (fun _ p _ => noScope_ok p.1 p.2) Try.func85 (c := c85c86io11) (an := an85c86io11) (qks := pk85c86io11) (rks := rk85c86io11) (by kernel_rfl) (by kernel_rfl) hv ((S85c86io11_run n xs).symm.trans h)
abbrev R87 := Int
noncomputable def c87 : Code := bodyOf Try.f87
noncomputable def an87 : Ann := .l
def pk87 : List PK := [.c (.int .i64), .c (.int .i64), .p (.sl (.pair (.int .i64) (.int .i64)))]
def rk87 : List RK := [.c (.int .i64) 5]
noncomputable def rt87 (st : St) : Option R87 := rtG rk87 st
noncomputable def E87 (n : Nat × Nat) : Env := { T := tab, phi := noPhi, eff := fun _ => false, fuel := n.1, hold := n.2 }
noncomputable def S87 (n : Nat × Nat) (i0 : Int) (j1 : Int) (v2 : List (Int × Int)) : Option R87 := run (E87 n) c87 an87 rt87 (fun _ _ => none) rt87 { tm := [.c (.int .i64 i0), .c (.int .i64 j1), .iptr [.sl (.pair (.int .i64) (.int .i64)) v2 false], uu, uu, uu, uu, uu, uu, uu, uu, uu, uu, uu, uu, uu, uu], hp := emp }
theorem S87_eq (n : Nat × Nat) (i0 : Int) (j1 : Int) (v2 : List (Int × Int)) : S87 n i0 j1 v2 =
 (idx v2 j1).bind fun x1' =>
 (idx v2 i0).bind fun x2' =>
 some (wr .i64 (x1'.2 - x2'.2)) := by kernel_rfl
theorem S87_run (n : Nat × Nat) (xs : pksDen pk87) : S87 n xs.1 xs.2.1 xs.2.2.1 = runG (E87 n) noScope c87 an87 (rtG rk87) (fun _ _ => none) (rtG rk87) (st0 pk87 xs Try.f87.ntmps) := by kernel_rfl
noncomputable def P87 (n : Nat × Nat) := phiOf pk87 rk87 (fun xs => S87 n xs.1 xs.2.1 xs.2.2.1)
theorem call87 : CallOK Try.prog 87 := callOK_of Try.func87 (by kernel_rfl) (by kernel_rfl)
theorem env87 (n : Nat × Nat) : EnvOK Try.prog (E87 n) := envOK0 noPhi_ok rfl rfl
theorem par87 (n : Nat × Nat) : EnvPar (E87 n) := envPar0 noPhi_par rfl
theorem FC87 (n : Nat × Nat) : FCs Try.prog 87 (P87 n) := phiOf_FCs fun xs r h vs hv => FC.of_runG tabOK eqsOK (env87 n) (par87 n) mixed (fun _ p _ => noScope_ok p.1 p.2) Try.func87 (c := c87) (an := an87) (pks := pk87) (rks := rk87) (by kernel_rfl) (by kernel_rfl) hv ((S87_run n xs).symm.trans h)
/- slices.insertionSortCmpFunc[int] -/
abbrev R95c87io1001 := (Unit) × (List Int) × (List (Int × Int)) × Unit
noncomputable def c95c87io1001 : Code := bodyOf Try.f95
noncomputable def an95c87io1001 : Ann := (.s .l (.j [1000000000, 1000000001] (.j [0, 1, 2, 3, 8, 22, 23, 24, 25, 26, 27, 28, 29, 30, 31, 32, 33, 1000000000, 1000000001] (.s (.s .l (.j [0, 1, 2, 3, 8, 22, 23, 24, 25, 26, 27, 28, 29, 30, 31, 32, 33, 1000000000, 1000000001] .l .l)) (.s (.j [0, 1, 2, 3, 8, 22, 23, 24, 25, 26, 27, 28, 29, 30, 31, 32, 33, 1000000000, 1000000001] (.s .l (.j [0, 1, 2, 3, 8, 22, 23, 24, 25, 26, 27, 28, 29, 30, 31, 32, 33, 1000000000, 1000000001] (.j [0, 1, 2, 3, 8, 9, 22, 23, 24, 25, 26, 27, 28, 29, 30, 31, 32, 33, 1000000000, 1000000001] (.s (.s .l (.j [0, 1, 2, 3, 8, 9, 22, 23, 24, 25, 26, 27, 28, 29, 30, 31, 32, 33, 1000000000, 1000000001] .l .l)) (.s (.j [0, 1, 2, 3, 8, 9, 22, 23, 24, 25, 26, 27, 28, 29, 30, 31, 32, 33, 1000000000, 1000000001] .l .l) .l)) .l) .l)) .l) .l)) .l) .l))
def pk95c87io1001 : List QK := [.oa (.int .i64), .pl (.c (.int .i64)), .pl (.c (.int .i64)), .of 87 [(.sl (.pair (.int .i64) (.int .i64)))]]
def rk95c87io1001 : List RK := []
noncomputable def rt95c87io1001 (st : St) : Option R95c87io1001 := rtIO rk95c87io1001 (pk95c87io1001.flatMap QK.ods) st
noncomputable def E95c87io1001 (n : Nat × Nat) : Env := { T := tab, phi := (consPhi 87 (fun _ => true) (P87 n) noPhi), eff := fun _ => false, fuel := n.1, hold := n.2, pcl := [22] }
noncomputable def xb95c87io1001_2 (n : Nat × Nat) : Nat → St → Option R95c87io1001 := fun j s => bif Nat.beq j 0 then normC [1000000000, 1000000001] s rt95c87io1001 else (fun _ _ => none) j s
noncomputable def F95c87io1001_3 (n : Nat × Nat) : (St → Option R95c87io1001) → St → Option R95c87io1001 := fun K s => run (E95c87io1001 n) (cA (cA (cB c95c87io1001))) (Ann.fst (Ann.fst (Ann.snd an95c87io1001))) (fun s => normC [0, 1, 2, 3, 8, 22, 23, 24, 25, 26, 27, 28, 29, 30, 31, 32, 33, 1000000000, 1000000001] s K) (xb95c87io1001_2 n) rt95c87io1001 s
noncomputable def kq95c87io1001_6 (n : Nat × Nat) (m1 : Nat) : St → Option R95c87io1001 := run (E95c87io1001 n) (cB (cB (cA (cA (cB c95c87io1001))))) (Ann.snd (Ann.snd (Ann.fst (Ann.fst (Ann.snd an95c87io1001))))) (fun s => normC [0, 1, 2, 3, 8, 22, 23, 24, 25, 26, 27, 28, 29, 30, 31, 32, 33, 1000000000, 1000000001] s (loopN (F95c87io1001_3 n) m1)) (xb95c87io1001_2 n) rt95c87io1001
noncomputable def kc95c87io1001_7 (n : Nat × Nat) (m1 : Nat) : St → Option R95c87io1001 := fun s => normC [0, 1, 2, 3, 8, 22, 23, 24, 25, 26, 27, 28, 29, 30, 31, 32, 33, 1000000000, 1000000001] s (kq95c87io1001_6 n m1)
noncomputable def xb95c87io1001_8 (n : Nat × Nat) (m1 : Nat) : Nat → St → Option R95c87io1001 := fun j s => bif Nat.beq j 1 then normC [0, 1, 2, 3, 8, 22, 23, 24, 25, 26, 27, 28, 29, 30, 31, 32, 33, 1000000000, 1000000001] s (kq95c87io1001_6 n m1) else (xb95c87io1001_2 n) j s
noncomputable def xb95c87io1001_10 (n : Nat × Nat) (m1 : Nat) : Nat → St → Option R95c87io1001 := fun j s => bif Nat.beq j 2 then normC [0, 1, 2, 3, 8, 22, 23, 24, 25, 26, 27, 28, 29, 30, 31, 32, 33, 1000000000, 1000000001] s (kc95c87io1001_7 n m1) else (xb95c87io1001_8 n m1) j s
noncomputable def F95c87io1001_11 (n : Nat × Nat) (m1 : Nat) : (St → Option R95c87io1001) → St → Option R95c87io1001 := fun K s => run (E95c87io1001 n) (cA (cA (cB (cA (cA (cB (cA (cA (cB c95c87io1001))))))))) (Ann.fst (Ann.fst (Ann.snd (Ann.fst (Ann.fst (Ann.snd (Ann.fst (Ann.fst (Ann.snd an95c87io1001))))))))) (fun s => normC [0, 1, 2, 3, 8, 9, 22, 23, 24, 25, 26, 27, 28, 29, 30, 31, 32, 33, 1000000000, 1000000001] s K) (xb95c87io1001_10 n m1) rt95c87io1001 s
noncomputable def L95c87io1001_1 (n : Nat × Nat) (m : Nat) (a1 : Int) (b2 : Int) (i8 : Int) (u0 : List Int) (u1 : List (Int × Int)) : Option R95c87io1001 := loopN (F95c87io1001_3 n) m { tm := [.own 1000000000 none false, .c (.int .i64 a1), .c (.int .i64 b2), .fn 87 [.ptr 1000000001 0], uu, uu, uu, uu, .c (.int .i64 i8), uu, uu, uu, uu, uu, uu, uu, uu, uu, uu, uu, uu, uu, uu, uu, uu, uu, uu, uu, uu, uu, uu, uu, uu, uu, uu, uu, uu, uu, uu, uu, uu, uu, uu, uu, uu, uu, uu, uu, uu, uu, uu, uu, uu], hp := (upd (upd emp 1000000001 (.box [.sl (.pair (.int .i64) (.int .i64)) u1 false])) 1000000000 (.arr (.int .i64) u0 false)) }
noncomputable def L95c87io1001_2 (n : Nat × Nat) (m1 : Nat) (m : Nat) (a1 : Int) (b2 : Int) (i8 : Int) (j9 : Int) (u0 : List Int) (u1 : List (Int × Int)) : Option R95c87io1001 := loopN (F95c87io1001_11 n m1) m { tm := [.own 1000000000 none false, .c (.int .i64 a1), .c (.int .i64 b2), .fn 87 [.ptr 1000000001 0], uu, uu, uu, uu, .c (.int .i64 i8), .c (.int .i64 j9), uu, uu, uu, uu, uu, uu, uu, uu, uu, uu, uu, uu, uu, uu, uu, uu, uu, uu, uu, uu, uu, uu, uu, uu, uu, uu, uu, uu, uu, uu, uu, uu, uu, uu, uu, uu, uu, uu, uu, uu, uu, uu, uu], hp := (upd (upd emp 1000000001 (.box [.sl (.pair (.int .i64) (.int .i64)) u1 false])) 1000000000 (.arr (.int .i64) u0 false)) }
theorem L95c87io1001_1_eq (n : Nat × Nat) (m1 : Nat) (a1 : Int) (b2 : Int) (i8 : Int) (u0 : List Int) (u1 : List (Int × Int)) : L95c87io1001_1 n (m1 + 1) a1 b2 i8 u0 u1 =
 (bif decide (i8 < b2) then L95c87io1001_2 n m1 n.1 a1 b2 i8 i8 u0 u1
 else some ((), u0, u1, ())) := by kernel_rfl
theorem L95c87io1001_2_eq (n : Nat × Nat) (m1 m2 : Nat) (a1 : Int) (b2 : Int) (i8 : Int) (j9 : Int) (u0 : List Int) (u1 : List (Int × Int)) : L95c87io1001_2 n m1 (m2 + 1) a1 b2 i8 j9 u0 u1 =
 ((bif (decide (j9 > a1) == true) then (bif inB j9 u0.length then (idx u0 j9).bind fun x1' =>
 (bif inB (wr .i64 (j9 - 1)) u0.length then (idx u0 (wr .i64 (j9 - 1))).bind fun x2' =>
 (S87 n x1' x2' u1).bind fun r3' =>
 some (decide (r3' < 0))
 else none)
 else none)
 else some false)).bind fun b4' =>
 (bif b4' then (bif inB (wr .i64 (j9 - 1)) u0.length then (idx u0 (wr .i64 (j9 - 1))).bind fun x5' =>
 (bif inB j9 u0.length then (idx u0 j9).bind fun x6' =>
 (bif inB j9 u0.length then (idx u0 j9).bind fun x7' =>
 (bif inB (wr .i64 (j9 - 1)) (u0.set (Int.toNat j9) x5').length then (idx (u0.set (Int.toNat j9) x5') (wr .i64 (j9 - 1))).bind fun x8' =>
              L95c87io1001_2 n m1 m2 a1 b2 i8 (wr .i64 (j9 - 1)) ((u0.set (Int.toNat j9) x5').set (Int.toNat (wr .i64 (j9 - 1))) x6') u1
 else none)
 else none)
 else none)
 else none)
 else L95c87io1001_1 n m1 a1 b2 (wr .i64 (i8 + 1)) u0 u1) := by kernel_rfl
noncomputable def S95c87io1001 (n : Nat × Nat) (data0 : List Int) (a1 : Int) (b2 : Int) (cp_3_0 : List (Int × Int)) : Option R95c87io1001 := run (E95c87io1001 n) c95c87io1001 an95c87io1001 rt95c87io1001 (fun _ _ => none) rt95c87io1001 { tm := [.own 1000000000 none false, .c (.int .i64 a1), .c (.int .i64 b2), .fn 87 [.ptr 1000000001 0], uu, uu, uu, uu, uu, uu, uu, uu, uu, uu, uu, uu, uu, uu, uu, uu, uu, uu, uu, uu, uu, uu, uu, uu, uu, uu, uu, uu, uu, uu, uu, uu, uu, uu, uu, uu, uu, uu, uu, uu, uu, uu, uu, uu, uu, uu, uu, uu, uu], hp := (upd (upd emp 1000000001 (.box [.sl (.pair (.int .i64) (.int .i64)) cp_3_0 false])) 1000000000 (.arr (.int .i64) data0 false)) }
theorem S95c87io1001_eq (n : Nat × Nat) (data0 : List Int) (a1 : Int) (b2 : Int) (cp_3_0 : List (Int × Int)) : S95c87io1001 n data0 a1 b2 cp_3_0 =
    L95c87io1001_1 n n.1 a1 b2 (wr .i64 (a1 + 1)) data0 cp_3_0 := by kernel_rfl
theorem S95c87io1001_run (n : Nat × Nat) (xs : qksDen pk95c87io1001) : S95c87io1001 n xs.1 xs.2.1 xs.2.2.1 xs.2.2.2.1.1 = runG (E95c87io1001 n) noScope c95c87io1001 an95c87io1001 (rtIO rk95c87io1001 (pk95c87io1001.flatMap QK.ods)) (fun _ _ => none) (rtIO rk95c87io1001 (pk95c87io1001.flatMap QK.ods)) (st1 pk95c87io1001 xs Try.f95.ntmps) := by kernel_rfl
noncomputable def P95c87io1001 (n : Nat × Nat) := phioOf pk95c87io1001 rk95c87io1001 (pk95c87io1001.flatMap QK.ods) (fun xs => S95c87io1001 n xs.1 xs.2.1 xs.2.2.1 xs.2.2.2.1.1)
theorem env95c87io1001 (n : Nat × Nat) : EnvOK Try.prog (E95c87io1001 n) := envOK0 (consPhi_ok (FC87 n) call87 noPhi_ok) rfl rfl
theorem par95c87io1001 (n : Nat × Nat) : EnvPar (E95c87io1001 n) := envPar0 (consPhi_par phiOf_Par1 noPhi_par) rfl
theorem FC95c87io1001 (n : Nat × Nat) : FCios Try.prog 95 (pk95c87io1001.map QK.flag) (P95c87io1001 n) := phioOf_FCios fun xs r h vs hv => FCio.of_runG tabOK eqsOK (env95c87io1001 n) (par95c87io1001 n) mixed (fun _ p _ => noScope_ok p.1 p.2) Try.func95 (c := c95c87io1001) (an := an95c87io1001) (qks := pk95c87io1001) (rks := rk95c87io1001) (by kernel_rfl) (by kernel_rfl) hv ((S95c87io1001_run n xs).symm.trans h)
/- slices.swapRangeCmpFunc[int] -/
abbrev R98c87io10001 := (Unit) × (List Int) × (List (Int × Int)) × Unit
noncomputable def c98c87io10001 : Code := bodyOf Try.f98
noncomputable def an98c87io10001 : Ann := (.s .l (.j [1000000000, 1000000001] (.j [0, 1, 2, 3, 10, 1000000000, 1000000001] (.s (.s .l (.j [0, 1, 2, 3, 10, 1000000000, 1000000001] .l .l)) (.s (.j [0, 1, 2, 3, 10, 1000000000, 1000000001] .l .l) .l)) .l) .l))
def pk98c87io10001 : List QK := [.oa (.int .i64), .pl (.c (.int .i64)), .pl (.c (.int .i64)), .pl (.c (.int .i64)), .of 87 [(.sl (.pair (.int .i64) (.int .i64)))]]
def rk98c87io10001 : List RK := []
noncomputable def rt98c87io10001 (st : St) : Option R98c87io10001 := rtIO rk98c87io10001 (pk98c87io10001.flatMap QK.ods) st
noncomputable def E98c87io10001 (n : Nat × Nat) : Env := { T := tab, phi := noPhi, eff := fun _ => false, fuel := n.1, hold := n.2 }
noncomputable def xb98c87io10001_2 (n : Nat × Nat) : Nat → St → Option R98c87io10001 := fun j s => bif Nat.beq j 0 then normC [1000000000, 1000000001] s rt98c87io10001 else (fun _ _ => none) j s
noncomputable def F98c87io10001_3 (n : Nat × Nat) : (St → Option R98c87io10001) → St → Option R98c87io10001 := fun K s => run (E98c87io10001 n) (cA (cA (cB c98c87io10001))) (Ann.fst (Ann.fst (Ann.snd an98c87io10001))) (fun s => normC [0, 1, 2, 3, 10, 1000000000, 1000000001] s K) (xb98c87io10001_2 n) rt98c87io10001 s
noncomputable def L98c87io10001_1 (n : Nat × Nat) (m : Nat) (a1 : Int) (b2 : Int) (v3 : Int) (i10 : Int) (u0 : List Int) (u1 : List (Int × Int)) : Option R98c87io10001 := loopN (F98c87io10001_3 n) m { tm := [.own 1000000000 none false, .c (.int .i64 a1), .c (.int .i64 b2), .c (.int .i64 v3), uu, uu, uu, uu, uu, uu, .c (.int .i64 i10), uu, uu, uu, uu, uu, uu, uu, uu, uu, uu, uu, uu, uu, uu, uu, uu, uu, uu, uu, uu, uu, uu, uu, uu, uu, uu, uu], hp := (upd (upd emp 1000000001 (.box [.sl (.pair (.int .i64) (.int .i64)) u1 false])) 1000000000 (.arr (.int .i64) u0 false)) }
theorem L98c87io10001_1_eq (n : Nat × Nat) (m1 : Nat) (a1 : Int) (b2 : Int) (v3 : Int) (i10 : Int) (u0 : List Int) (u1 : List (Int × Int)) : L98c87io10001_1 n (m1 + 1) a1 b2 v3 i10 u0 u1 =
 (bif decide (i10 < v3) then (bif inB (wr .i64 (b2 + i10)) u0.length then (idx u0 (wr .i64 (b2 + i10))).bind fun x1' =>
 (bif inB (wr .i64 (a1 + i10)) u0.length then (idx u0 (wr .i64 (a1 + i10))).bind fun x2' =>
 (bif inB (wr .i64 (a1 + i10)) u0.length then (idx u0 (wr .i64 (a1 + i10))).bind fun x3' =>
 (bif inB (wr .i64 (b2 + i10)) (u0.set (Int.toNat (wr .i64 (a1 + i10))) x1').length then (idx (u0.set (Int.toNat (wr .i64 (a1 + i10))) x1') (wr .i64 (b2 + i10))).bind fun x4' =>
              L98c87io10001_1 n m1 a1 b2 v3 (wr .i64 (i10 + 1)) ((u0.set (Int.toNat (wr .i64 (a1 + i10))) x1').set (Int.toNat (wr .i64 (b2 + i10))) x2') u1
 else none)
 else none)
 else none)
 else none)
 else some ((), u0, u1, ())) := by kernel_rfl
noncomputable def S98c87io10001 (n : Nat × Nat) (data0 : List Int) (a1 : Int) (b2 : Int) (v3 : Int) (cp_4_0 : List (Int × Int)) : Option R98c87io10001 := run (E98c87io10001 n) c98c87io10001 an98c87io10001 rt98c87io10001 (fun _ _ => none) rt98c87io10001 { tm := [.own 1000000000 none false, .c (.int .i64 a1), .c (.int .i64 b2), .c (.int .i64 v3), .fn 87 [.ptr 1000000001 0], uu, uu, uu, uu, uu, uu, uu, uu, uu, uu, uu, uu, uu, uu, uu, uu, uu, uu, uu, uu, uu, uu, uu, uu, uu, uu, uu, uu, uu, uu, uu, uu, uu], hp := (upd (upd emp 1000000001 (.box [.sl (.pair (.int .i64) (.int .i64)) cp_4_0 false])) 1000000000 (.arr (.int .i64) data0 false)) }
theorem S98c87io10001_eq (n : Nat × Nat) (data0 : List Int) (a1 : Int) (b2 : Int) (v3 : Int) (cp_4_0 : List (Int × Int)) : S98c87io10001 n data0 a1 b2 v3 cp_4_0 =
    L98c87io10001_1 n n.1 a1 b2 v3 0 data0 cp_4_0 := by kernel_rfl
theorem S98c87io10001_run (n : Nat × Nat) (xs : qksDen pk98c87io10001) : S98c87io10001 n xs.1 xs.2.1 xs.2.2.1 xs.2.2.2.1 xs.2.2.2.2.1.1 = runG (E98c87io10001 n) noScope c98c87io10001 an98c87io10001 (rtIO rk98c87io10001 (pk98c87io10001.flatMap QK.ods)) (fun _ _ => none) (rtIO rk98c87io10001 (pk98c87io10001.flatMap QK.ods)) (st1 pk98c87io10001 xs Try.f98.ntmps) := by kernel_rfl
noncomputable def P98c87io10001 (n : Nat × Nat) := phioOf pk98c87io10001 rk98c87io10001 (pk98c87io10001.flatMap QK.ods) (fun xs => S98c87io10001 n xs.1 xs.2.1 xs.2.2.1 xs.2.2.2.1 xs.2.2.2.2.1.1)
theorem env98c87io10001 (n : Nat × Nat) : EnvOK Try.prog (E98c87io10001 n) := envOK0 noPhi_ok rfl rfl
theorem par98c87io10001 (n : Nat × Nat) : EnvPar (E98c87io10001 n) := envPar0 noPhi_par rfl
theorem FC98c87io10001 (n : Nat × Nat) : FCios Try.prog 98 (pk98c87io10001.map QK.flag) (P98c87io10001 n) := phioOf_FCios fun xs r h vs hv => FCio.of_runG tabOK eqsOK (env98c87io10001 n) (par98c87io10001 n) mixed (fun _ p _ => noScope_ok p.1 p.2) Try.func98 (c := c98c87io10001) (an := an98c87io10001) (qks := pk98c87io10001) (rks := rk98c87io10001) (by kernel_rfl) (by kernel_rfl) hv ((S98c87io10001_run n xs).symm.trans h)
/- slices.rotateCmpFunc[int] -/
abbrev R97c87io10001 := (Unit) × (List Int) × (List (Int × Int)) × Unit
noncomputable def c97c87io10001 : Code := bodyOf Try.f97
noncomputable def an97c87io10001 : Ann := (.s .l (.s .l (.s (.j [0, 2, 4, 10, 1000000000, 1000000001] (.j [0, 2, 4, 10, 11, 1000000000, 1000000001] (.s (.s .l (.j [0, 2, 4, 10, 11, 1000000000, 1000000001] .l .l)) (.j [0, 2, 4, 10, 11, 1000000000, 1000000001] (.s .l (.j [0, 2, 4, 10, 11, 1000000000, 1000000001] .l .l)) .l)) .l) .l) .l)))
def pk97c87io10001 : List QK := [.oa (.int .i64), .pl (.c (.int .i64)), .pl (.c (.int .i64)), .pl (.c (.int .i64)), .of 87 [(.sl (.pair (.int .i64) (.int .i64)))]]
def rk97c87io10001 : List RK := []
noncomputable def rt97c87io10001 (st : St) : Option R97c87io10001 := rtIO rk97c87io10001 (pk97c87io10001.flatMap QK.ods) st
noncomputable def io97c87io10001 (n : Nat × Nat) : List IoE := [⟨98, (isFns [none, none, none, none, some 87]), pk98c87io10001.map QK.flag, P98c87io10001 n⟩]
noncomputable def E97c87io10001 (n : Nat × Nat) : Env := { T := tab, phi := noPhi, eff := fun _ => false, fuel := n.1, hold := n.2, phio := phioL (io97c87io10001 n), iop := iopL (io97c87io10001 n) }
noncomputable def kq97c87io10001_1 (n : Nat × Nat) : St → Option R97c87io10001 := run (E97c87io10001 n) (cB (cB (cB c97c87io10001))) (Ann.snd (Ann.snd (Ann.snd an97c87io10001))) rt97c87io10001 (fun _ _ => none) rt97c87io10001
noncomputable def xb97c87io10001_3 (n : Nat × Nat) : Nat → St → Option R97c87io10001 := fun j s => bif Nat.beq j 0 then normC [0, 2, 4, 10, 1000000000, 1000000001] s (kq97c87io10001_1 n) else (fun _ _ => none) j s
noncomputable def F97c87io10001_4 (n : Nat × Nat) : (St → Option R97c87io10001) → St → Option R97c87io10001 := fun K s => run (E97c87io10001 n) (cA (cA (cA (cB (cB c97c87io10001))))) (Ann.fst (Ann.fst (Ann.fst (Ann.snd (Ann.snd an97c87io10001))))) (fun s => normC [0, 2, 4, 10, 11, 1000000000, 1000000001] s K) (xb97c87io10001_3 n) rt97c87io10001 s
noncomputable def L97c87io10001_1 (n : Nat × Nat) (m : Nat) (m2 : Int) (i10 : Int) (j11 : Int) (u0 : List Int) (u1 : List (Int × Int)) : Option R97c87io10001 := loopN (F97c87io10001_4 n) m { tm := [.own 1000000000 none false, uu, .c (.int .i64 m2), uu, .fn 87 [.ptr 1000000001 0], uu, uu, uu, uu, uu, .c (.int .i64 i10), .c (.int .i64 j11), uu, uu, uu, uu, uu, uu, uu, uu, uu, uu, uu, uu, uu, uu, uu, uu, uu, uu, uu, uu, uu, uu, uu, uu, uu, uu, uu, uu, uu, uu, uu, uu, uu, uu, uu, uu, uu, uu, uu, uu, uu, uu, uu, uu, uu, uu], hp := (upd (upd emp 1000000001 (.box [.sl (.pair (.int .i64) (.int .i64)) u1 false])) 1000000000 (.arr (.int .i64) u0 false)) }
theorem L97c87io10001_1_eq (n : Nat × Nat) (m1 : Nat) (m2 : Int) (i10 : Int) (j11 : Int) (u0 : List Int) (u1 : List (Int × Int)) : L97c87io10001_1 n (m1 + 1) m2 i10 j11 u0 u1 =
 (bif (i10 != j11) then (bif decide (i10 > j11) then (S98c87io10001 n u0 (wr .i64 (m2 - i10)) m2 j11 u1).bind fun r1' =>
 (bif Nat.beq r1'.2.1.length u0.length then L97c87io10001_1 n m1 m2 (wr .i64 (i10 - j11)) j11 r1'.2.1 r1'.2.2.1
 else none)
 else (S98c87io10001 n u0 (wr .i64 (m2 - i10)) (wr .i64 ((wr .i64 (m2 + j11)) - i10)) i10 u1).bind fun r2' =>
 (bif Nat.beq r2'.2.1.length u0.length then L97c87io10001_1 n m1 m2 i10 (wr .i64 (j11 - i10)) r2'.2.1 r2'.2.2.1
 else none))
 else (S98c87io10001 n u0 (wr .i64 (m2 - i10)) m2 i10 u1).bind fun r3' =>
 (bif Nat.beq r3'.2.1.length u0.length then some ((), r3'.2.1, r3'.2.2.1, ())
 else none)) := by kernel_rfl
noncomputable def S97c87io10001 (n : Nat × Nat) (data0 : List Int) (a1 : Int) (m2 : Int) (b3 : Int) (cp_4_0 : List (Int × Int)) : Option R97c87io10001 := run (E97c87io10001 n) c97c87io10001 an97c87io10001 rt97c87io10001 (fun _ _ => none) rt97c87io10001 { tm := [.own 1000000000 none false, .c (.int .i64 a1), .c (.int .i64 m2), .c (.int .i64 b3), .fn 87 [.ptr 1000000001 0], uu, uu, uu, uu, uu, uu, uu, uu, uu, uu, uu, uu, uu, uu, uu, uu, uu, uu, uu, uu, uu, uu, uu, uu, uu, uu, uu, uu, uu, uu, uu, uu, uu, uu, uu, uu, uu, uu, uu, uu, uu, uu, uu, uu, uu, uu, uu, uu, uu, uu, uu, uu, uu], hp := (upd (upd emp 1000000001 (.box [.sl (.pair (.int .i64) (.int .i64)) cp_4_0 false])) 1000000000 (.arr (.int .i64) data0 false)) }
theorem S97c87io10001_eq (n : Nat × Nat) (data0 : List Int) (a1 : Int) (m2 : Int) (b3 : Int) (cp_4_0 : List (Int × Int)) : S97c87io10001 n data0 a1 m2 b3 cp_4_0 =
    L97c87io10001_1 n n.1 m2 (wr .i64 (m2 - a1)) (wr .i64 (b3 - m2)) data0 cp_4_0 := by kernel_rfl
theorem S97c87io10001_run (n : Nat × Nat) (xs : qksDen pk97c87io10001) : S97c87io10001 n xs.1 xs.2.1 xs.2.2.1 xs.2.2.2.1 xs.2.2.2.2.1.1 = runG (E97c87io10001 n) noScope c97c87io10001 an97c87io10001 (rtIO rk97c87io10001 (pk97c87io10001.flatMap QK.ods)) (fun _ _ => none) (rtIO rk97c87io10001 (pk97c87io10001.flatMap QK.ods)) (st1 pk97c87io10001 xs Try.f97.ntmps) := by kernel_rfl
noncomputable def P97c87io10001 (n : Nat × Nat) := phioOf pk97c87io10001 rk97c87io10001 (pk97c87io10001.flatMap QK.ods) (fun xs => S97c87io10001 n xs.1 xs.2.1 xs.2.2.1 xs.2.2.2.1 xs.2.2.2.2.1.1)
theorem env97c87io10001 (n : Nat × Nat) : EnvOK Try.prog (E97c87io10001 n) := envOK (l := io97c87io10001 n) noPhi_ok rfl rfl (by kernel_rfl) ⟨FC98c87io10001 n, call98, trivial⟩
theorem par97c87io10001 (n : Nat × Nat) : EnvPar (E97c87io10001 n) := envPar (l := io97c87io10001 n) noPhi_par rfl ⟨phioOf_Pario1, trivial⟩
theorem FC97c87io10001 (n : Nat × Nat) : FCios Try.prog 97 (pk97c87io10001.map QK.flag) (P97c87io10001 n) := phioOf_FCios fun xs r h vs hv => FCio.of_runG tabOK eqsOK (env97c87io10001 n) (par97c87io10001 n) mixed (fun _ p _ => noScope_ok p.1 p.2) Try.func97 (c := c97c87io10001) (an := an97c87io10001) (qks := pk97c87io10001) (rks := rk97c87io10001) (by kernel_rfl) (by kernel_rfl) hv ((S97c87io10001_run n xs).symm.trans h)
/- slices.symMergeCmpFunc[int] -/
abbrev R96c87io10001 := (Unit) × (List Int) × (List (Int × Int)) × Unit
noncomputable def c96c87io10001 : Code := bodyOf Try.f96
noncomputable def an96c87io10001 : Ann := (.s (.s .l (.j [0, 1, 2, 3, 4, 182, 183, 184, 196, 197, 198, 210, 211, 212, 1000000000, 1000000001] (.s .l (.s .l (.s (.j [0, 1, 10, 1000000000, 1000000001] (.j [0, 1, 4, 10, 11, 1000000000, 1000000001] (.s (.s .l (.j [0, 1, 4, 10, 11, 1000000000, 1000000001] .l .l)) (.j [0, 1, 4, 10, 11, 1000000000, 1000000001] (.s .l (.s .l (.j [0, 1, 4, 10, 11, 1000000000, 1000000001] .l .l))) .l)) .l) .l) (.s (.s .l (.j [1000000000, 1000000001] (.j [0, 10, 13, 1000000000, 1000000001] (.s (.s .l (.j [0, 10, 13, 1000000000, 1000000001] .l .l)) (.s (.j [0, 10, 13, 1000000000, 1000000001] .l .l) .l)) .l) .l)) .l)))) .l)) (.s (.s .l (.j [0, 1, 2, 3, 4, 182, 183, 184, 196, 197, 198, 210, 211, 212, 1000000000, 1000000001] (.s .l (.s .l (.s (.j [0, 2, 14, 1000000000, 1000000001] (.j [0, 2, 4, 14, 15, 1000000000, 1000000001] (.s (.s .l (.j [0, 2, 4, 14, 15, 1000000000, 1000000001] .l .l)) (.j [0, 2, 4, 14, 15, 1000000000, 1000000001] (.s .l (.s .l (.j [0, 2, 4, 14, 15, 1000000000, 1000000001] .l .l))) .l)) .l) .l) (.s (.s .l (.j [1000000000, 1000000001] (.j [0, 14, 17, 1000000000, 1000000001] (.s (.s .l (.j [0, 14, 17, 1000000000, 1000000001] .l .l)) (.s (.j [0, 14, 17, 1000000000, 1000000001] .l .l) .l)) .l) .l)) .l)))) .l)) (.s .l (.s .l (.s .l (.s (.s .l (.j [0, 1, 2, 3, 4, 18, 19, 20, 21, 182, 183, 184, 196, 197, 198, 210, 211, 212, 1000000000, 1000000001] .l .l)) (.s .l (.s (.j [0, 1, 2, 3, 4, 18, 19, 20, 182, 183, 184, 196, 197, 198, 210, 211, 212, 1000000000, 1000000001] (.j [0, 1, 2, 3, 4, 18, 19, 20, 21, 22, 182, 183, 184, 196, 197, 198, 210, 211, 212, 1000000000, 1000000001] (.s (.s .l (.j [0, 1, 2, 3, 4, 18, 19, 20, 21, 22, 182, 183, 184, 196, 197, 198, 210, 211, 212, 1000000000, 1000000001] .l .l)) (.j [0, 1, 2, 3, 4, 18, 19, 20, 21, 22, 182, 183, 184, 196, 197, 198, 210, 211, 212, 1000000000, 1000000001] (.s .l (.s .l (.j [0, 1, 2, 3, 4, 18, 19, 20, 21, 22, 182, 183, 184, 196, 197, 198, 210, 211, 212, 1000000000, 1000000001] .l .l))) .l)) .l) .l) (.s .l (.s (.s .l (.j [0, 1, 3, 4, 18, 20, 24, 196, 197, 198, 210, 211, 212, 1000000000, 1000000001] .l .l)) (.s (.s .l (.j [0, 3, 4, 18, 24, 210, 211, 212, 1000000000, 1000000001] .l .l)) (.s .l (.j [1000000000, 1000000001] .l .l)))))))))))))
def pk96c87io10001 : List QK := [.oa (.int .i64), .pl (.c (.int .i64)), .pl (.c (.int .i64)), .pl (.c (.int .i64)), .of 87 [(.sl (.pair (.int .i64) (.int .i64)))]]
def rk96c87io10001 : List RK := []
noncomputable def rt96c87io10001 (st : St) : Option R96c87io10001 := rtIO rk96c87io10001 (pk96c87io10001.flatMap QK.ods) st
noncomputable def io96c87io10001 (n : Nat × Nat) (SS : List Int → Int → Int → Int → (List (Int × Int)) → Option R96c87io10001) : List IoE := [⟨97, (isFns [none, none, none, none, some 87]), pk97c87io10001.map QK.flag, P97c87io10001 n⟩, ⟨96, (fun _ => true), pk96c87io10001.map QK.flag, (phioOf pk96c87io10001 rk96c87io10001 (pk96c87io10001.flatMap QK.ods) (fun xs => SS xs.1 xs.2.1 xs.2.2.1 xs.2.2.2.1 xs.2.2.2.2.1.1))⟩]
noncomputable def E96c87io10001 (n : Nat × Nat) (SS : List Int → Int → Int → Int → (List (Int × Int)) → Option R96c87io10001) : Env := { T := tab, phi := (consPhi 87 (fun _ => true) (P87 n) noPhi), eff := fun _ => false, fuel := n.1, hold := n.2, phio := phioL (io96c87io10001 n SS), iop := iopL (io96c87io10001 n SS), pcl := [40, 92, 158] }
noncomputable def kq96c87io10001_1 (n : Nat × Nat) (SS : List Int → Int → Int → Int → (List (Int × Int)) → Option R96c87io10001) : St → Option R96c87io10001 := run (E96c87io10001 n SS) (cB c96c87io10001) (Ann.snd an96c87io10001) rt96c87io10001 (fun _ _ => none) rt96c87io10001
noncomputable def kc96c87io10001_2 (n : Nat × Nat) (SS : List Int → Int → Int → Int → (List (Int × Int)) → Option R96c87io10001) : St → Option R96c87io10001 := fun s => normC [0, 1, 2, 3, 4, 182, 183, 184, 196, 197, 198, 210, 211, 212, 1000000000, 1000000001] s (kq96c87io10001_1 n SS)
noncomputable def kq96c87io10001_3 (n : Nat × Nat) (SS : List Int → Int → Int → Int → (List (Int × Int)) → Option R96c87io10001) : St → Option R96c87io10001 := run (E96c87io10001 n SS) (cB (cB (cB (cA (cB (cA c96c87io10001)))))) (Ann.snd (Ann.snd (Ann.snd (Ann.fst (Ann.snd (Ann.fst an96c87io10001)))))) (kc96c87io10001_2 n SS) (fun _ _ => none) rt96c87io10001
noncomputable def xb96c87io10001_5 (n : Nat × Nat) (SS : List Int → Int → Int → Int → (List (Int × Int)) → Option R96c87io10001) : Nat → St → Option R96c87io10001 := fun j s => bif Nat.beq j 0 then normC [0, 1, 10, 1000000000, 1000000001] s (kq96c87io10001_3 n SS) else (fun _ _ => none) j s
noncomputable def F96c87io10001_6 (n : Nat × Nat) (SS : List Int → Int → Int → Int → (List (Int × Int)) → Option R96c87io10001) : (St → Option R96c87io10001) → St → Option R96c87io10001 := fun K s => run (E96c87io10001 n SS) (cA (cA (cA (cB (cB (cA (cB (cA c96c87io10001)))))))) (Ann.fst (Ann.fst (Ann.fst (Ann.snd (Ann.snd (Ann.fst (Ann.snd (Ann.fst an96c87io10001)))))))) (fun s => normC [0, 1, 4, 10, 11, 1000000000, 1000000001] s K) (xb96c87io10001_5 n SS) rt96c87io10001 s
noncomputable def kq96c87io10001_7 (n : Nat × Nat) (SS : List Int → Int → Int → Int → (List (Int × Int)) → Option R96c87io10001) : St → Option R96c87io10001 := run (E96c87io10001 n SS) (cB (cB c96c87io10001)) (Ann.snd (Ann.snd an96c87io10001)) rt96c87io10001 (fun _ _ => none) rt96c87io10001
noncomputable def kc96c87io10001_8 (n : Nat × Nat) (SS : List Int → Int → Int → Int → (List (Int × Int)) → Option R96c87io10001) : St → Option R96c87io10001 := fun s => normC [0, 1, 2, 3, 4, 182, 183, 184, 196, 197, 198, 210, 211, 212, 1000000000, 1000000001] s (kq96c87io10001_7 n SS)
noncomputable def kq96c87io10001_9 (n : Nat × Nat) (SS : List Int → Int → Int → Int → (List (Int × Int)) → Option R96c87io10001) : St → Option R96c87io10001 := run (E96c87io10001 n SS) (cB (cB (cB (cA (cB (cA (cB c96c87io10001))))))) (Ann.snd (Ann.snd (Ann.snd (Ann.fst (Ann.snd (Ann.fst (Ann.snd an96c87io10001))))))) (kc96c87io10001_8 n SS) (fun _ _ => none) rt96c87io10001
noncomputable def xb96c87io10001_11 (n : Nat × Nat) (SS : List Int → Int → Int → Int → (List (Int × Int)) → Option R96c87io10001) : Nat → St → Option R96c87io10001 := fun j s => bif Nat.beq j 4 then normC [0, 2, 14, 1000000000, 1000000001] s (kq96c87io10001_9 n SS) else (fun _ _ => none) j s
noncomputable def F96c87io10001_12 (n : Nat × Nat) (SS : List Int → Int → Int → Int → (List (Int × Int)) → Option R96c87io10001) : (St → Option R96c87io10001) → St → Option R96c87io10001 := fun K s => run (E96c87io10001 n SS) (cA (cA (cA (cB (cB (cA (cB (cA (cB c96c87io10001))))))))) (Ann.fst (Ann.fst (Ann.fst (Ann.snd (Ann.snd (Ann.fst (Ann.snd (Ann.fst (Ann.snd an96c87io10001))))))))) (fun s => normC [0, 2, 4, 14, 15, 1000000000, 1000000001] s K) (xb96c87io10001_11 n SS) rt96c87io10001 s
noncomputable def kq96c87io10001_15 (n : Nat × Nat) (SS : List Int → Int → Int → Int → (List (Int × Int)) → Option R96c87io10001) : St → Option R96c87io10001 := run (E96c87io10001 n SS) (cB (cB (cB (cB (cB (cB (cB (cB c96c87io10001)))))))) (Ann.snd (Ann.snd (Ann.snd (Ann.snd (Ann.snd (Ann.snd (Ann.snd (Ann.snd an96c87io10001)))))))) rt96c87io10001 (fun _ _ => none) rt96c87io10001
noncomputable def xb96c87io10001_17 (n : Nat × Nat) (SS : List Int → Int → Int → Int → (List (Int × Int)) → Option R96c87io10001) : Nat → St → Option R96c87io10001 := fun j s => bif Nat.beq j 8 then normC [0, 1, 2, 3, 4, 18, 19, 20, 182, 183, 184, 196, 197, 198, 210, 211, 212, 1000000000, 1000000001] s (kq96c87io10001_15 n SS) else (fun _ _ => none) j s
noncomputable def F96c87io10001_18 (n : Nat × Nat) (SS : List Int → Int → Int → Int → (List (Int × Int)) → Option R96c87io10001) : (St → Option R96c87io10001) → St → Option R96c87io10001 := fun K s => run (E96c87io10001 n SS) (cA (cA (cA (cB (cB (cB (cB (cB (cB (cB c96c87io10001)))))))))) (Ann.fst (Ann.fst (Ann.fst (Ann.snd (Ann.snd (Ann.snd (Ann.snd (Ann.snd (Ann.snd (Ann.snd an96c87io10001)))))))))) (fun s => normC [0, 1, 2, 3, 4, 18, 19, 20, 21, 22, 182, 183, 184, 196, 197, 198, 210, 211, 212, 1000000000, 1000000001] s K) (xb96c87io10001_17 n SS) rt96c87io10001 s
noncomputable def kq96c87io10001_24 (n : Nat × Nat) (SS : List Int → Int → Int → Int → (List (Int × Int)) → Option R96c87io10001) : St → Option R96c87io10001 := run (E96c87io10001 n SS) (cB (cB (cB (cB (cA (cB (cA c96c87io10001))))))) (Ann.snd (Ann.snd (Ann.snd (Ann.snd (Ann.fst (Ann.snd (Ann.fst an96c87io10001))))))) (kc96c87io10001_2 n SS) (fun _ _ => none) rt96c87io10001
noncomputable def xb96c87io10001_26 (n : Nat × Nat) (SS : List Int → Int → Int → Int → (List (Int × Int)) → Option R96c87io10001) : Nat → St → Option R96c87io10001 := fun j s => bif Nat.beq j 2 then normC [1000000000, 1000000001] s (kq96c87io10001_24 n SS) else (fun _ _ => none) j s
noncomputable def F96c87io10001_27 (n : Nat × Nat) (SS : List Int → Int → Int → Int → (List (Int × Int)) → Option R96c87io10001) : (St → Option R96c87io10001) → St → Option R96c87io10001 := fun K s => run (E96c87io10001 n SS) (cA (cA (cB (cA (cB (cB (cB (cA (cB (cA c96c87io10001)))))))))) (Ann.fst (Ann.fst (Ann.snd (Ann.fst (Ann.snd (Ann.snd (Ann.snd (Ann.fst (Ann.snd (Ann.fst an96c87io10001)))))))))) (fun s => normC [0, 10, 13, 1000000000, 1000000001] s K) (xb96c87io10001_26 n SS) rt96c87io10001 s
noncomputable def kq96c87io10001_33 (n : Nat × Nat) (SS : List Int → Int → Int → Int → (List (Int × Int)) → Option R96c87io10001) : St → Option R96c87io10001 := run (E96c87io10001 n SS) (cB (cB (cB (cB (cA (cB (cA (cB c96c87io10001)))))))) (Ann.snd (Ann.snd (Ann.snd (Ann.snd (Ann.fst (Ann.snd (Ann.fst (Ann.snd an96c87io10001)))))))) (kc96c87io10001_8 n SS) (fun _ _ => none) rt96c87io10001
noncomputable def xb96c87io10001_35 (n : Nat × Nat) (SS : List Int → Int → Int → Int → (List (Int × Int)) → Option R96c87io10001) : Nat → St → Option R96c87io10001 := fun j s => bif Nat.beq j 6 then normC [1000000000, 1000000001] s (kq96c87io10001_33 n SS) else (fun _ _ => none) j s
noncomputable def F96c87io10001_36 (n : Nat × Nat) (SS : List Int → Int → Int → Int → (List (Int × Int)) → Option R96c87io10001) : (St → Option R96c87io10001) → St → Option R96c87io10001 := fun K s => run (E96c87io10001 n SS) (cA (cA (cB (cA (cB (cB (cB (cA (cB (cA (cB c96c87io10001))))))))))) (Ann.fst (Ann.fst (Ann.snd (Ann.fst (Ann.snd (Ann.snd (Ann.snd (Ann.fst (Ann.snd (Ann.fst (Ann.snd an96c87io10001))))))))))) (fun s => normC [0, 14, 17, 1000000000, 1000000001] s K) (xb96c87io10001_35 n SS) rt96c87io10001 s
noncomputable def L96c87io10001_1 (n : Nat × Nat) (SS : List Int → Int → Int → Int → (List (Int × Int)) → Option R96c87io10001) (m : Nat) (a1 : Int) (i10 : Int) (j11 : Int) (u0 : List Int) (u1 : List (Int × Int)) : Option R96c87io10001 := loopN (F96c87io10001_6 n SS) m { tm := [.own 1000000000 none false, .c (.int .i64 a1), uu, uu, .fn 87 [.ptr 1000000001 0], uu, uu, uu, uu, uu, .c (.int .i64 i10), .c (.int .i64 j11), uu, uu, uu, uu, uu, uu, uu, uu, uu, uu, uu, uu, uu, uu, uu, uu, uu, uu, uu, uu, uu, uu, uu, uu, uu, uu, uu, uu, uu, uu, uu, uu, uu, uu, uu, uu, uu, uu, uu, uu, uu, uu, uu, uu, uu, uu, uu, uu, uu, uu, uu, uu, uu, uu, uu, uu, uu, uu, uu, uu, uu, uu, uu, uu, uu, uu, uu, uu, uu, uu, uu, uu, uu, uu, uu, uu, uu, uu, uu, uu, uu, uu, uu, uu, uu, uu, uu, uu, uu, uu, uu, uu, uu, uu, uu, uu, uu, uu, uu, uu, uu, uu, uu, uu, uu, uu, uu, uu, uu, uu, uu, uu, uu, uu, uu, uu, uu, uu, uu, uu, uu, uu, uu, uu, uu, uu, uu, uu, uu, uu, uu, uu, uu, uu, uu, uu, uu, uu, uu, uu, uu, uu, uu, uu, uu, uu, uu, uu, uu, uu, uu, uu, uu, uu, uu, uu, uu, uu, uu, uu, uu, uu, uu, uu, uu, uu, uu, uu, uu, uu, uu, uu, uu, uu, uu, uu, uu, uu, uu, uu, uu, uu, uu, uu, uu, uu, uu, uu, uu, uu, uu, uu, uu, uu, uu, uu, uu, uu, uu, uu, uu, uu, uu, uu, uu, uu, uu, uu], hp := (upd (upd emp 1000000001 (.box [.sl (.pair (.int .i64) (.int .i64)) u1 false])) 1000000000 (.arr (.int .i64) u0 false)) }
noncomputable def L96c87io10001_2 (n : Nat × Nat) (SS : List Int → Int → Int → Int → (List (Int × Int)) → Option R96c87io10001) (m : Nat) (m2 : Int) (i14 : Int) (j15 : Int) (u0 : List Int) (u1 : List (Int × Int)) : Option R96c87io10001 := loopN (F96c87io10001_12 n SS) m { tm := [.own 1000000000 none false, uu, .c (.int .i64 m2), uu, .fn 87 [.ptr 1000000001 0], uu, uu, uu, uu, uu, uu, uu, uu, uu, .c (.int .i64 i14), .c (.int .i64 j15), uu, uu, uu, uu, uu, uu, uu, uu, uu, uu, uu, uu, uu, uu, uu, uu, uu, uu, uu, uu, uu, uu, uu, uu, uu, uu, uu, uu, uu, uu, uu, uu, uu, uu, uu, uu, uu, uu, uu, uu, uu, uu, uu, uu, uu, uu, uu, uu, uu, uu, uu, uu, uu, uu, uu, uu, uu, uu, uu, uu, uu, uu, uu, uu, uu, uu, uu, uu, uu, uu, uu, uu, uu, uu, uu, uu, uu, uu, uu, uu, uu, uu, uu, uu, uu, uu, uu, uu, uu, uu, uu, uu, uu, uu, uu, uu, uu, uu, uu, uu, uu, uu, uu, uu, uu, uu, uu, uu, uu, uu, uu, uu, uu, uu, uu, uu, uu, uu, uu, uu, uu, uu, uu, uu, uu, uu, uu, uu, uu, uu, uu, uu, uu, uu, uu, uu, uu, uu, uu, uu, uu, uu, uu, uu, uu, uu, uu, uu, uu, uu, uu, uu, uu, uu, uu, uu, uu, uu, uu, uu, uu, uu, uu, uu, uu, uu, uu, uu, uu, uu, uu, uu, uu, uu, uu, uu, uu, uu, uu, uu, uu, uu, uu, uu, uu, uu, uu, uu, uu, uu, uu, uu, uu, uu, uu, uu, uu, uu, uu, uu, uu, uu, uu, uu], hp := (upd (upd emp 1000000001 (.box [.sl (.pair (.int .i64) (.int .i64)) u1 false])) 1000000000 (.arr (.int .i64) u0 false)) }
noncomputable def L96c87io10001_3 (n : Nat × Nat) (SS : List Int → Int → Int → Int → (List (Int × Int)) → Option R96c87io10001) (m : Nat) (a1 : Int) (m2 : Int) (b3 : Int) (mid18 : Int) (v19 : Int) (start20 : Int) (r21 : Int) (p22 : Int) (u0 : List Int) (u1 : List (Int × Int)) : Option R96c87io10001 := loopN (F96c87io10001_18 n SS) m { tm := [.own 1000000000 none false, .c (.int .i64 a1), .c (.int .i64 m2), .c (.int .i64 b3), .fn 87 [.ptr 1000000001 0], uu, uu, uu, uu, uu, uu, uu, uu, uu, uu, uu, uu, uu, .c (.int .i64 mid18), .c (.int .i64 v19), .c (.int .i64 start20), .c (.int .i64 r21), .c (.int .i64 p22), uu, uu, uu, uu, uu, uu, uu, uu, uu, uu, uu, uu, uu, uu, uu, uu, uu, uu, uu, uu, uu, uu, uu, uu, uu, uu, uu, uu, uu, uu, uu, uu, uu, uu, uu, uu, uu, uu, uu, uu, uu, uu, uu, uu, uu, uu, uu, uu, uu, uu, uu, uu, uu, uu, uu, uu, uu, uu, uu, uu, uu, uu, uu, uu, uu, uu, uu, uu, uu, uu, uu, uu, uu, uu, uu, uu, uu, uu, uu, uu, uu, uu, uu, uu, uu, uu, uu, uu, uu, uu, uu, uu, uu, uu, uu, uu, uu, uu, uu, uu, uu, uu, uu, uu, uu, uu, uu, uu, uu, uu, uu, uu, uu, uu, uu, uu, uu, uu, uu, uu, uu, uu, uu, uu, uu, uu, uu, uu, uu, uu, uu, uu, uu, uu, uu, uu, uu, uu, uu, uu, uu, uu, uu, uu, uu, uu, uu, uu, uu, uu, uu, uu, uu, uu, uu, uu, uu, uu, uu, uu, uu, uu, uu, uu, uu, uu, uu, uu, uu, uu, uu, uu, uu, uu, uu, uu, uu, uu, uu, uu, uu, uu, uu, uu, uu, uu, uu, uu, uu, uu, uu, uu, uu, uu, uu, uu, uu], hp := (upd (upd emp 1000000001 (.box [.sl (.pair (.int .i64) (.int .i64)) u1 false])) 1000000000 (.arr (.int .i64) u0 false)) }
noncomputable def L96c87io10001_4 (n : Nat × Nat) (SS : List Int → Int → Int → Int → (List (Int × Int)) → Option R96c87io10001) (m : Nat) (i10 : Int) (k13 : Int) (u0 : List Int) (u1 : List (Int × Int)) : Option R96c87io10001 := loopN (F96c87io10001_27 n SS) m { tm := [.own 1000000000 none false, uu, uu, uu, uu, uu, uu, uu, uu, uu, .c (.int .i64 i10), uu, uu, .c (.int .i64 k13), uu, uu, uu, uu, uu, uu, uu, uu, uu, uu, uu, uu, uu, uu, uu, uu, uu, uu, uu, uu, uu, uu, uu, uu, uu, uu, uu, uu, uu, uu, uu, uu, uu, uu, uu, uu, uu, uu, uu, uu, uu, uu, uu, uu, uu, uu, uu, uu, uu, uu, uu, uu, uu, uu, uu, uu, uu, uu, uu, uu, uu, uu, uu, uu, uu, uu, uu, uu, uu, uu, uu, uu, uu, uu, uu, uu, uu, uu, uu, uu, uu, uu, uu, uu, uu, uu, uu, uu, uu, uu, uu, uu, uu, uu, uu, uu, uu, uu, uu, uu, uu, uu, uu, uu, uu, uu, uu, uu, uu, uu, uu, uu, uu, uu, uu, uu, uu, uu, uu, uu, uu, uu, uu, uu, uu, uu, uu, uu, uu, uu, uu, uu, uu, uu, uu, uu, uu, uu, uu, uu, uu, uu, uu, uu, uu, uu, uu, uu, uu, uu, uu, uu, uu, uu, uu, uu, uu, uu, uu, uu, uu, uu, uu, uu, uu, uu, uu, uu, uu, uu, uu, uu, uu, uu, uu, uu, uu, uu, uu, uu, uu, uu, uu, uu, uu, uu, uu, uu, uu, uu, uu, uu, uu, uu, uu, uu, uu, uu, uu, uu, uu, uu, uu, uu, uu, uu], hp := (upd (upd emp 1000000001 (.box [.sl (.pair (.int .i64) (.int .i64)) u1 false])) 1000000000 (.arr (.int .i64) u0 false)) }
noncomputable def L96c87io10001_5 (n : Nat × Nat) (SS : List Int → Int → Int → Int → (List (Int × Int)) → Option R96c87io10001) (m : Nat) (i14 : Int) (k17 : Int) (u0 : List Int) (u1 : List (Int × Int)) : Option R96c87io10001 := loopN (F96c87io10001_36 n SS) m { tm := [.own 1000000000 none false, uu, uu, uu, uu, uu, uu, uu, uu, uu, uu, uu, uu, uu, .c (.int .i64 i14), uu, uu, .c (.int .i64 k17), uu, uu, uu, uu, uu, uu, uu, uu, uu, uu, uu, uu, uu, uu, uu, uu, uu, uu, uu, uu, uu, uu, uu, uu, uu, uu, uu, uu, uu, uu, uu, uu, uu, uu, uu, uu, uu, uu, uu, uu, uu, uu, uu, uu, uu, uu, uu, uu, uu, uu, uu, uu, uu, uu, uu, uu, uu, uu, uu, uu, uu, uu, uu, uu, uu, uu, uu, uu, uu, uu, uu, uu, uu, uu, uu, uu, uu, uu, uu, uu, uu, uu, uu, uu, uu, uu, uu, uu, uu, uu, uu, uu, uu, uu, uu, uu, uu, uu, uu, uu, uu, uu, uu, uu, uu, uu, uu, uu, uu, uu, uu, uu, uu, uu, uu, uu, uu, uu, uu, uu, uu, uu, uu, uu, uu, uu, uu, uu, uu, uu, uu, uu, uu, uu, uu, uu, uu, uu, uu, uu, uu, uu, uu, uu, uu, uu, uu, uu, uu, uu, uu, uu, uu, uu, uu, uu, uu, uu, uu, uu, uu, uu, uu, uu, uu, uu, uu, uu, uu, uu, uu, uu, uu, uu, uu, uu, uu, uu, uu, uu, uu, uu, uu, uu, uu, uu, uu, uu, uu, uu, uu, uu, uu, uu, uu, uu, uu, uu, uu, uu, uu, uu], hp := (upd (upd emp 1000000001 (.box [.sl (.pair (.int .i64) (.int .i64)) u1 false])) 1000000000 (.arr (.int .i64) u0 false)) }
theorem L96c87io10001_1_eq (n : Nat × Nat) (SS : List Int → Int → Int → Int → (List (Int × Int)) → Option R96c87io10001) (m1 : Nat) (a1 : Int) (i10 : Int) (j11 : Int) (u0 : List Int) (u1 : List (Int × Int)) : L96c87io10001_1 n SS (m1 + 1) a1 i10 j11 u0 u1 =
 (bif decide (i10 < j11) then (bif decide (1 < 0) then none
 else (bif inB (wr .i64 (Int.fdiv (wr .u64 (wr .i64 (i10 + j11))) (2 ^ (min (Int.toNat 1) (IntKind.bits .u64))))) u0.length then (idx u0 (wr .i64 (Int.fdiv (wr .u64 (wr .i64 (i10 + j11))) (2 ^ (min (Int.toNat 1) (IntKind.bits .u64)))))).bind fun x1' =>
 (bif inB a1 u0.length then (idx u0 a1).bind fun x2' =>
 (S87 n x1' x2' u1).bind fun r3' =>
 (bif decide (r3' < 0) then L96c87io10001_1 n SS m1 a1 (wr .i64 ((wr .i64 (Int.fdiv (wr .u64 (wr .i64 (i10 + j11))) (2 ^ (min (Int.toNat 1) (IntKind.bits .u64))))) + 1)) j11 u0 u1
 else L96c87io10001_1 n SS m1 a1 i10 (wr .i64 (Int.fdiv (wr .u64 (wr .i64 (i10 + j11))) (2 ^ (min (Int.toNat 1) (IntKind.bits .u64))))) u0 u1)
 else none)
 else none))
 else L96c87io10001_4 n SS n.1 i10 a1 u0 u1) := by kernel_rfl
theorem L96c87io10001_2_eq (n : Nat × Nat) (SS : List Int → Int → Int → Int → (List (Int × Int)) → Option R96c87io10001) (m1 : Nat) (m2 : Int) (i14 : Int) (j15 : Int) (u0 : List Int) (u1 : List (Int × Int)) : L96c87io10001_2 n SS (m1 + 1) m2 i14 j15 u0 u1 =
 (bif decide (i14 < j15) then (bif decide (1 < 0) then none
 else (bif inB m2 u0.length then (idx u0 m2).bind fun x4' =>
 (bif inB (wr .i64 (Int.fdiv (wr .u64 (wr .i64 (i14 + j15))) (2 ^ (min (Int.toNat 1) (IntKind.bits .u64))))) u0.length then (idx u0 (wr .i64 (Int.fdiv (wr .u64 (wr .i64 (i14 + j15))) (2 ^ (min (Int.toNat 1) (IntKind.bits .u64)))))).bind fun x5' =>
 (S87 n x4' x5' u1).bind fun r6' =>
 (bif (!(decide (r6' < 0))) then L96c87io10001_2 n SS m1 m2 (wr .i64 ((wr .i64 (Int.fdiv (wr .u64 (wr .i64 (i14 + j15))) (2 ^ (min (Int.toNat 1) (IntKind.bits .u64))))) + 1)) j15 u0 u1
 else L96c87io10001_2 n SS m1 m2 i14 (wr .i64 (Int.fdiv (wr .u64 (wr .i64 (i14 + j15))) (2 ^ (min (Int.toNat 1) (IntKind.bits .u64))))) u0 u1)
 else none)
 else none))
 else L96c87io10001_5 n SS n.1 i14 m2 u0 u1) := by kernel_rfl
theorem L96c87io10001_3_eq (n : Nat × Nat) (SS : List Int → Int → Int → Int → (List (Int × Int)) → Option R96c87io10001) (m1 : Nat) (a1 : Int) (m2 : Int) (b3 : Int) (mid18 : Int) (v19 : Int) (start20 : Int) (r21 : Int) (p22 : Int) (u0 : List Int) (u1 : List (Int × Int)) : L96c87io10001_3 n SS (m1 + 1) a1 m2 b3 mid18 v19 start20 r21 p22 u0 u1 =
 (bif decide (start20 < r21) then (bif decide (1 < 0) then none
 else (bif inB (wr .i64 (p22 - (wr .i64 (Int.fdiv (wr .u64 (wr .i64 (start20 + r21))) (2 ^ (min (Int.toNat 1) (IntKind.bits .u64))))))) u0.length then (idx u0 (wr .i64 (p22 - (wr .i64 (Int.fdiv (wr .u64 (wr .i64 (start20 + r21))) (2 ^ (min (Int.toNat 1) (IntKind.bits .u64)))))))).bind fun x7' =>
 (bif inB (wr .i64 (Int.fdiv (wr .u64 (wr .i64 (start20 + r21))) (2 ^ (min (Int.toNat 1) (IntKind.bits .u64))))) u0.length then (idx u0 (wr .i64 (Int.fdiv (wr .u64 (wr .i64 (start20 + r21))) (2 ^ (min (Int.toNat 1) (IntKind.bits .u64)))))).bind fun x8' =>
 (S87 n x7' x8' u1).bind fun r9' =>
 (bif (!(decide (r9' < 0))) then L96c87io10001_3 n SS m1 a1 m2 b3 mid18 v19 (wr .i64 ((wr .i64 (Int.fdiv (wr .u64 (wr .i64 (start20 + r21))) (2 ^ (min (Int.toNat 1) (IntKind.bits .u64))))) + 1)) r21 p22 u0 u1
 else L96c87io10001_3 n SS m1 a1 m2 b3 mid18 v19 start20 (wr .i64 (Int.fdiv (wr .u64 (wr .i64 (start20 + r21))) (2 ^ (min (Int.toNat 1) (IntKind.bits .u64))))) p22 u0 u1)
 else none)
 else none))
 else ((bif (decide (start20 < m2) == true) then some (decide (m2 < wr .i64 (v19 - start20)))
 else some false)).bind fun b10' =>
 (bif b10' then (S97c87io10001 n u0 start20 m2 (wr .i64 (v19 - start20)) u1).bind fun r11' =>
 (bif Nat.beq r11'.2.1.length u0.length then ((bif (decide (a1 < start20) == true) then some (decide (start20 < mid18))
 else some false)).bind fun b12' =>
 (bif b12' then (SS r11'.2.1 a1 start20 mid18 r11'.2.2.1).bind fun r13' =>
 (bif Nat.beq r13'.2.1.length r11'.2.1.length then ((bif (decide (mid18 < wr .i64 (v19 - start20)) == true) then some (decide (wr .i64 (v19 - start20) < b3))
 else some false)).bind fun b14' =>
 (bif b14' then (SS r13'.2.1 mid18 (wr .i64 (v19 - start20)) b3 r13'.2.2.1).bind fun r15' =>
 (bif Nat.beq r15'.2.1.length r13'.2.1.length then some ((), r15'.2.1, r15'.2.2.1, ())
 else none)
 else some ((), r13'.2.1, r13'.2.2.1, ()))
 else none)
 else ((bif (decide (mid18 < wr .i64 (v19 - start20)) == true) then some (decide (wr .i64 (v19 - start20) < b3))
 else some false)).bind fun b16' =>
 (bif b16' then (SS r11'.2.1 mid18 (wr .i64 (v19 - start20)) b3 r11'.2.2.1).bind fun r17' =>
 (bif Nat.beq r17'.2.1.length r11'.2.1.length then some ((), r17'.2.1, r17'.2.2.1, ())
 else none)
 else some ((), r11'.2.1, r11'.2.2.1, ())))
 else none)
 else ((bif (decide (a1 < start20) == true) then some (decide (start20 < mid18))
 else some false)).bind fun b18' =>
 (bif b18' then (SS u0 a1 start20 mid18 u1).bind fun r19' =>
 (bif Nat.beq r19'.2.1.length u0.length then ((bif (decide (mid18 < wr .i64 (v19 - start20)) == true) then some (decide (wr .i64 (v19 - start20) < b3))
 else some false)).bind fun b20' =>
 (bif b20' then (SS r19'.2.1 mid18 (wr .i64 (v19 - start20)) b3 r19'.2.2.1).bind fun r21' =>
 (bif Nat.beq r21'.2.1.length r19'.2.1.length then some ((), r21'.2.1, r21'.2.2.1, ())
 else none)
 else some ((), r19'.2.1, r19'.2.2.1, ()))
 else none)
 else ((bif (decide (mid18 < wr .i64 (v19 - start20)) == true) then some (decide (wr .i64 (v19 - start20) < b3))
 else some false)).bind fun b22' =>
 (bif b22' then (SS u0 mid18 (wr .i64 (v19 - start20)) b3 u1).bind fun r23' =>
 (bif Nat.beq r23'.2.1.length u0.length then some ((), r23'.2.1, r23'.2.2.1, ())
 else none)
 else some ((), u0, u1, ()))))) := by kernel_rfl
theorem L96c87io10001_4_eq (n : Nat × Nat) (SS : List Int → Int → Int → Int → (List (Int × Int)) → Option R96c87io10001) (m1 : Nat) (i10 : Int) (k13 : Int) (u0 : List Int) (u1 : List (Int × Int)) : L96c87io10001_4 n SS (m1 + 1) i10 k13 u0 u1 =
 (bif decide (k13 < wr .i64 (i10 - 1)) then (bif inB (wr .i64 (k13 + 1)) u0.length then (idx u0 (wr .i64 (k13 + 1))).bind fun x24' =>
 (bif inB k13 u0.length then (idx u0 k13).bind fun x25' =>
 (bif inB k13 u0.length then (idx u0 k13).bind fun x26' =>
 (bif inB (wr .i64 (k13 + 1)) (u0.set (Int.toNat k13) x24').length then (idx (u0.set (Int.toNat k13) x24') (wr .i64 (k13 + 1))).bind fun x27' =>
              L96c87io10001_4 n SS m1 i10 (wr .i64 (k13 + 1)) ((u0.set (Int.toNat k13) x24').set (Int.toNat (wr .i64 (k13 + 1))) x25') u1
 else none)
 else none)
 else none)
 else none)
 else some ((), u0, u1, ())) := by kernel_rfl
theorem L96c87io10001_5_eq (n : Nat × Nat) (SS : List Int → Int → Int → Int → (List (Int × Int)) → Option R96c87io10001) (m1 : Nat) (i14 : Int) (k17 : Int) (u0 : List Int) (u1 : List (Int × Int)) : L96c87io10001_5 n SS (m1 + 1) i14 k17 u0 u1 =
 (bif decide (k17 > i14) then (bif inB (wr .i64 (k17 - 1)) u0.length then (idx u0 (wr .i64 (k17 - 1))).bind fun x28' =>
 (bif inB k17 u0.length then (idx u0 k17).bind fun x29' =>
 (bif inB k17 u0.length then (idx u0 k17).bind fun x30' =>
 (bif inB (wr .i64 (k17 - 1)) (u0.set (Int.toNat k17) x28').length then (idx (u0.set (Int.toNat k17) x28') (wr .i64 (k17 - 1))).bind fun x31' =>
              L96c87io10001_5 n SS m1 i14 (wr .i64 (k17 - 1)) ((u0.set (Int.toNat k17) x28').set (Int.toNat (wr .i64 (k17 - 1))) x29') u1
 else none)
 else none)
 else none)
 else none)
 else some ((), u0, u1, ())) := by kernel_rfl
noncomputable def B96c87io10001 (n : Nat × Nat) (SS : List Int → Int → Int → Int → (List (Int × Int)) → Option R96c87io10001) (data0 : List Int) (a1 : Int) (m2 : Int) (b3 : Int) (cp_4_0 : List (Int × Int)) : Option R96c87io10001 := run (E96c87io10001 n SS) c96c87io10001 an96c87io10001 rt96c87io10001 (fun _ _ => none) rt96c87io10001 { tm := [.own 1000000000 none false, .c (.int .i64 a1), .c (.int .i64 m2), .c (.int .i64 b3), .fn 87 [.ptr 1000000001 0], uu, uu, uu, uu, uu, uu, uu, uu, uu, uu, uu, uu, uu, uu, uu, uu, uu, uu, uu, uu, uu, uu, uu, uu, uu, uu, uu, uu, uu, uu, uu, uu, uu, uu, uu, uu, uu, uu, uu, uu, uu, uu, uu, uu, uu, uu, uu, uu, uu, uu, uu, uu, uu, uu, uu, uu, uu, uu, uu, uu, uu, uu, uu, uu, uu, uu, uu, uu, uu, uu, uu, uu, uu, uu, uu, uu, uu, uu, uu, uu, uu, uu, uu, uu, uu, uu, uu, uu, uu, uu, uu, uu, uu, uu, uu, uu, uu, uu, uu, uu, uu, uu, uu, uu, uu, uu, uu, uu, uu, uu, uu, uu, uu, uu, uu, uu, uu, uu, uu, uu, uu, uu, uu, uu, uu, uu, uu, uu, uu, uu, uu, uu, uu, uu, uu, uu, uu, uu, uu, uu, uu, uu, uu, uu, uu, uu, uu, uu, uu, uu, uu, uu, uu, uu, uu, uu, uu, uu, uu, uu, uu, uu, uu, uu, uu, uu, uu, uu, uu, uu, uu, uu, uu, uu, uu, uu, uu, uu, uu, uu, uu, uu, uu, uu, uu, uu, uu, uu, uu, uu, uu, uu, uu, uu, uu, uu, uu, uu, uu, uu, uu, uu, uu, uu, uu, uu, uu, uu, uu, uu, uu, uu, uu, uu, uu], hp := (upd (upd emp 1000000001 (.box [.sl (.pair (.int .i64) (.int .i64)) cp_4_0 false])) 1000000000 (.arr (.int .i64) data0 false)) }
theorem B96c87io10001_eq (n : Nat × Nat) (SS : List Int → Int → Int → Int → (List (Int × Int)) → Option R96c87io10001) (data0 : List Int) (a1 : Int) (m2 : Int) (b3 : Int) (cp_4_0 : List (Int × Int)) : B96c87io10001 n SS data0 a1 m2 b3 cp_4_0 =
 (bif ((wr .i64 (m2 - a1)) == 1) then L96c87io10001_1 n SS n.1 a1 m2 b3 data0 cp_4_0
 else (bif ((wr .i64 (b3 - m2)) == 1) then L96c87io10001_2 n SS n.1 m2 a1 m2 data0 cp_4_0
 else (bif decide (1 < 0) then none
 else (bif decide (m2 > wr .i64 (Int.fdiv (wr .u64 (wr .i64 (a1 + b3))) (2 ^ (min (Int.toNat 1) (IntKind.bits .u64))))) then L96c87io10001_3 n SS n.1 a1 m2 b3 (wr .i64 (Int.fdiv (wr .u64 (wr .i64 (a1 + b3))) (2 ^ (min (Int.toNat 1) (IntKind.bits .u64))))) (wr .i64 ((wr .i64 (Int.fdiv (wr .u64 (wr .i64 (a1 + b3))) (2 ^ (min (Int.toNat 1) (IntKind.bits .u64))))) + m2)) (wr .i64 ((wr .i64 ((wr .i64 (Int.fdiv (wr .u64 (wr .i64 (a1 + b3))) (2 ^ (min (Int.toNat 1) (IntKind.bits .u64))))) + m2)) - b3)) (wr .i64 (Int.fdiv (wr .u64 (wr .i64 (a1 + b3))) (2 ^ (min (Int.toNat 1) (IntKind.bits .u64))))) (wr .i64 ((wr .i64 ((wr .i64 (Int.fdiv (wr .u64 (wr .i64 (a1 + b3))) (2 ^ (min (Int.toNat 1) (IntKind.bits .u64))))) + m2)) - 1)) data0 cp_4_0
 else L96c87io10001_3 n SS n.1 a1 m2 b3 (wr .i64 (Int.fdiv (wr .u64 (wr .i64 (a1 + b3))) (2 ^ (min (Int.toNat 1) (IntKind.bits .u64))))) (wr .i64 ((wr .i64 (Int.fdiv (wr .u64 (wr .i64 (a1 + b3))) (2 ^ (min (Int.toNat 1) (IntKind.bits .u64))))) + m2)) a1 m2 (wr .i64 ((wr .i64 ((wr .i64 (Int.fdiv (wr .u64 (wr .i64 (a1 + b3))) (2 ^ (min (Int.toNat 1) (IntKind.bits .u64))))) + m2)) - 1)) data0 cp_4_0)))) := by kernel_rfl
noncomputable def T96c87io10001 (n : Nat × Nat) : Nat → List Int → Int → Int → Int → (List (Int × Int)) → Option R96c87io10001
  | 0 => fun _ _ _ _ _ => none
  | d + 1 => B96c87io10001 n (T96c87io10001 n d)
theorem T96c87io10001_eq (n : Nat × Nat) (d : Nat) (data0 : List Int) (a1 : Int) (m2 : Int) (b3 : Int) (cp_4_0 : List (Int × Int)) : T96c87io10001 n (d + 1) data0 a1 m2 b3 cp_4_0 = B96c87io10001 n (T96c87io10001 n d) data0 a1 m2 b3 cp_4_0 := rfl
noncomputable def S96c87io10001 (n : Nat × Nat) (data0 : List Int) (a1 : Int) (m2 : Int) (b3 : Int) (cp_4_0 : List (Int × Int)) : Option R96c87io10001 := T96c87io10001 n n.1 data0 a1 m2 b3 cp_4_0
theorem B96c87io10001_run (n : Nat × Nat) (SS : List Int → Int → Int → Int → (List (Int × Int)) → Option R96c87io10001) (xs : qksDen pk96c87io10001) : B96c87io10001 n SS xs.1 xs.2.1 xs.2.2.1 xs.2.2.2.1 xs.2.2.2.2.1.1 = runG (E96c87io10001 n SS) noScope c96c87io10001 an96c87io10001 (rtIO rk96c87io10001 (pk96c87io10001.flatMap QK.ods)) (fun _ _ => none) (rtIO rk96c87io10001 (pk96c87io10001.flatMap QK.ods)) (st1 pk96c87io10001 xs Try.f96.ntmps) := by kernel_rfl
noncomputable def P96c87io10001 (n : Nat × Nat) := phioOf pk96c87io10001 rk96c87io10001 (pk96c87io10001.flatMap QK.ods) (fun xs => S96c87io10001 n xs.1 xs.2.1 xs.2.2.1 xs.2.2.2.1 xs.2.2.2.2.1.1)
theorem env96c87io10001 (n : Nat × Nat) (SS : List Int → Int → Int → Int → (List (Int × Int)) → Option R96c87io10001) (hSS : FCios Try.prog 96 (pk96c87io10001.map QK.flag) (phioOf pk96c87io10001 rk96c87io10001 (pk96c87io10001.flatMap QK.ods) (fun xs => SS xs.1 xs.2.1 xs.2.2.1 xs.2.2.2.1 xs.2.2.2.2.1.1))) : EnvOK Try.prog (E96c87io10001 n SS) := envOK (l := io96c87io10001 n SS) (consPhi_ok (FC87 n) call87 noPhi_ok) rfl rfl (by kernel_rfl) ⟨FC97c87io10001 n, call97, hSS, call96, trivial⟩
theorem par96c87io10001 (n : Nat × Nat) (SS : List Int → Int → Int → Int → (List (Int × Int)) → Option R96c87io10001) : EnvPar (E96c87io10001 n SS) := envPar (l := io96c87io10001 n SS) (consPhi_par phiOf_Par1 noPhi_par) rfl ⟨phioOf_Pario1, phioOf_Pario1, trivial⟩
theorem FCT96c87io10001 (n : Nat × Nat) : ∀ d : Nat, FCios Try.prog 96 (pk96c87io10001.map QK.flag) (phioOf pk96c87io10001 rk96c87io10001 (pk96c87io10001.flatMap QK.ods) (fun xs => T96c87io10001 n d xs.1 xs.2.1 xs.2.2.1 xs.2.2.2.1 xs.2.2.2.2.1.1))
  | 0 => phioOf_FCios fun xs r h => by cases h
  | d + 1 => phioOf_FCios fun xs r h vs hv => FCio.of_runG tabOK eqsOK (env96c87io10001 n (T96c87io10001 n d) (FCT96c87io10001 n d)) (par96c87io10001 n (T96c87io10001 n d)) mixed (fun _ p _ => noScope_ok p.1 p.2) Try.func96 (c := c96c87io10001) (an := an96c87io10001) (qks := pk96c87io10001) (rks := rk96c87io10001) (by kernel_rfl) (by kernel_rfl) hv ((B96c87io10001_run n (T96c87io10001 n d) xs).symm.trans h)
theorem FC96c87io10001 (n : Nat × Nat) : FCios Try.prog 96 (pk96c87io10001.map QK.flag) (P96c87io10001 n) := FCT96c87io10001 n n.1
/- slices.stableCmpFunc[int] -/
abbrev R94c87io101 := (Unit) × (List Int) × (List (Int × Int)) × Unit
noncomputable def c94c87io101 : Code := bodyOf Try.f94
noncomputable def an94c87io101 : Ann := (.s .l (.s .l (.s (.j [0, 1, 2, 6, 7, 1000000000, 1000000001] (.j [0, 1, 2, 6, 7, 8, 1000000000, 1000000001] (.s (.s .l (.j [0, 1, 2, 6, 7, 8, 1000000000, 1000000001] .l .l)) (.j [0, 1, 2, 6, 7, 8, 1000000000, 1000000001] .l .l)) .l) .l) (.s .l (.j [1000000000, 1000000001] (.j [0, 1, 2, 6, 1000000000, 1000000001] (.s (.s .l (.j [0, 1, 2, 6, 1000000000, 1000000001] .l .l)) (.j [0, 1, 2, 6, 1000000000, 1000000001] (.s .l (.s (.j [0, 1, 2, 6, 7, 1000000000, 1000000001] (.j [0, 1, 2, 6, 7, 8, 1000000000, 1000000001] (.s (.s .l (.j [0, 1, 2, 6, 7, 8, 1000000000, 1000000001] .l .l)) (.j [0, 1, 2, 6, 7, 8, 1000000000, 1000000001] .l .l)) .l) .l) (.s (.s .l (.s .l (.j [0, 1, 2, 6, 1000000000, 1000000001] .l .l))) .l))) .l)) .l) .l)))))
def pk94c87io101 : List QK := [.oa (.int .i64), .pl (.c (.int .i64)), .of 87 [(.sl (.pair (.int .i64) (.int .i64)))]]
def rk94c87io101 : List RK := []
noncomputable def rt94c87io101 (st : St) : Option R94c87io101 := rtIO rk94c87io101 (pk94c87io101.flatMap QK.ods) st
noncomputable def io94c87io101 (n : Nat × Nat) : List IoE := [⟨95, (isFns [none, none, none, some 87]), pk95c87io1001.map QK.flag, P95c87io1001 n⟩, ⟨96, (isFns [none, none, none, none, some 87]), pk96c87io10001.map QK.flag, P96c87io10001 n⟩]
noncomputable def E94c87io101 (n : Nat × Nat) : Env := { T := tab, phi := noPhi, eff := fun _ => false, fuel := n.1, hold := n.2, phio := phioL (io94c87io101 n), iop := iopL (io94c87io101 n) }
noncomputable def kq94c87io101_1 (n : Nat × Nat) : St → Option R94c87io101 := run (E94c87io101 n) (cB (cB (cB c94c87io101))) (Ann.snd (Ann.snd (Ann.snd an94c87io101))) rt94c87io101 (fun _ _ => none) rt94c87io101
noncomputable def xb94c87io101_3 (n : Nat × Nat) : Nat → St → Option R94c87io101 := fun j s => bif Nat.beq j 0 then normC [0, 1, 2, 6, 7, 1000000000, 1000000001] s (kq94c87io101_1 n) else (fun _ _ => none) j s
noncomputable def F94c87io101_4 (n : Nat × Nat) : (St → Option R94c87io101) → St → Option R94c87io101 := fun K s => run (E94c87io101 n) (cA (cA (cA (cB (cB c94c87io101))))) (Ann.fst (Ann.fst (Ann.fst (Ann.snd (Ann.snd an94c87io101))))) (fun s => normC [0, 1, 2, 6, 7, 8, 1000000000, 1000000001] s K) (xb94c87io101_3 n) rt94c87io101 s
noncomputable def xb94c87io101_10 (n : Nat × Nat) : Nat → St → Option R94c87io101 := fun j s => bif Nat.beq j 2 then normC [1000000000, 1000000001] s rt94c87io101 else (fun _ _ => none) j s
noncomputable def F94c87io101_11 (n : Nat × Nat) : (St → Option R94c87io101) → St → Option R94c87io101 := fun K s => run (E94c87io101 n) (cA (cA (cB (cB (cB (cB c94c87io101)))))) (Ann.fst (Ann.fst (Ann.snd (Ann.snd (Ann.snd (Ann.snd an94c87io101)))))) (fun s => normC [0, 1, 2, 6, 1000000000, 1000000001] s K) (xb94c87io101_10 n) rt94c87io101 s
noncomputable def kc94c87io101_14 (n : Nat × Nat) (m1 : Nat) : St → Option R94c87io101 := fun s => normC [0, 1, 2, 6, 1000000000, 1000000001] s (fun s => normC [0, 1, 2, 6, 1000000000, 1000000001] s (loopN (F94c87io101_11 n) m1))
noncomputable def xb94c87io101_15 (n : Nat × Nat) (m1 : Nat) : Nat → St → Option R94c87io101 := fun j s => bif Nat.beq j 3 then normC [0, 1, 2, 6, 1000000000, 1000000001] s (fun s => normC [0, 1, 2, 6, 1000000000, 1000000001] s (loopN (F94c87io101_11 n) m1)) else (xb94c87io101_10 n) j s
noncomputable def kq94c87io101_16 (n : Nat × Nat) (m1 : Nat) : St → Option R94c87io101 := run (E94c87io101 n) (cB (cB (cA (cB (cA (cA (cB (cB (cB (cB c94c87io101)))))))))) (Ann.snd (Ann.snd (Ann.fst (Ann.snd (Ann.fst (Ann.fst (Ann.snd (Ann.snd (Ann.snd (Ann.snd an94c87io101)))))))))) (kc94c87io101_14 n m1) (xb94c87io101_15 n m1) rt94c87io101
noncomputable def xb94c87io101_18 (n : Nat × Nat) (m1 : Nat) : Nat → St → Option R94c87io101 := fun j s => bif Nat.beq j 4 then normC [0, 1, 2, 6, 7, 1000000000, 1000000001] s (kq94c87io101_16 n m1) else (xb94c87io101_15 n m1) j s
noncomputable def F94c87io101_19 (n : Nat × Nat) (m1 : Nat) : (St → Option R94c87io101) → St → Option R94c87io101 := fun K s => run (E94c87io101 n) (cA (cA (cA (cB (cA (cB (cA (cA (cB (cB (cB (cB c94c87io101)))))))))))) (Ann.fst (Ann.fst (Ann.fst (Ann.snd (Ann.fst (Ann.snd (Ann.fst (Ann.fst (Ann.snd (Ann.snd (Ann.snd (Ann.snd an94c87io101)))))))))))) (fun s => normC [0, 1, 2, 6, 7, 8, 1000000000, 1000000001] s K) (xb94c87io101_18 n m1) rt94c87io101 s
noncomputable def L94c87io101_1 (n : Nat × Nat) (m : Nat) (v1 : Int) (blockSize6 : Int) (a7 : Int) (b8 : Int) (u0 : List Int) (u1 : List (Int × Int)) : Option R94c87io101 := loopN (F94c87io101_4 n) m { tm := [.own 1000000000 none false, .c (.int .i64 v1), .fn 87 [.ptr 1000000001 0], uu, uu, uu, .c (.int .i64 blockSize6), .c (.int .i64 a7), .c (.int .i64 b8), uu, uu, uu, uu, uu, uu, uu, uu, uu, uu, uu, uu, uu, uu, uu, uu, uu, uu, uu, uu, uu, uu, uu, uu, uu, uu, uu, uu, uu, uu, uu, uu, uu, uu, uu, uu, uu, uu, uu, uu, uu, uu, uu, uu, uu, uu, uu, uu, uu, uu, uu, uu, uu, uu], hp := (upd (upd emp 1000000001 (.box [.sl (.pair (.int .i64) (.int .i64)) u1 false])) 1000000000 (.arr (.int .i64) u0 false)) }
noncomputable def L94c87io101_2 (n : Nat × Nat) (m : Nat) (v1 : Int) (blockSize6 : Int) (u0 : List Int) (u1 : List (Int × Int)) : Option R94c87io101 := loopN (F94c87io101_11 n) m { tm := [.own 1000000000 none false, .c (.int .i64 v1), .fn 87 [.ptr 1000000001 0], uu, uu, uu, .c (.int .i64 blockSize6), uu, uu, uu, uu, uu, uu, uu, uu, uu, uu, uu, uu, uu, uu, uu, uu, uu, uu, uu, uu, uu, uu, uu, uu, uu, uu, uu, uu, uu, uu, uu, uu, uu, uu, uu, uu, uu, uu, uu, uu, uu, uu, uu, uu, uu, uu, uu, uu, uu, uu, uu, uu, uu, uu, uu, uu], hp := (upd (upd emp 1000000001 (.box [.sl (.pair (.int .i64) (.int .i64)) u1 false])) 1000000000 (.arr (.int .i64) u0 false)) }
noncomputable def L94c87io101_3 (n : Nat × Nat) (m1 : Nat) (m : Nat) (v1 : Int) (blockSize6 : Int) (a7 : Int) (b8 : Int) (u0 : List Int) (u1 : List (Int × Int)) : Option R94c87io101 := loopN (F94c87io101_19 n m1) m { tm := [.own 1000000000 none false, .c (.int .i64 v1), .fn 87 [.ptr 1000000001 0], uu, uu, uu, .c (.int .i64 blockSize6), .c (.int .i64 a7), .c (.int .i64 b8), uu, uu, uu, uu, uu, uu, uu, uu, uu, uu, uu, uu, uu, uu, uu, uu, uu, uu, uu, uu, uu, uu, uu, uu, uu, uu, uu, uu, uu, uu, uu, uu, uu, uu, uu, uu, uu, uu, uu, uu, uu, uu, uu, uu, uu, uu, uu, uu, uu, uu, uu, uu, uu, uu], hp := (upd (upd emp 1000000001 (.box [.sl (.pair (.int .i64) (.int .i64)) u1 false])) 1000000000 (.arr (.int .i64) u0 false)) }
theorem L94c87io101_1_eq (n : Nat × Nat) (m1 : Nat) (v1 : Int) (blockSize6 : Int) (a7 : Int) (b8 : Int) (u0 : List Int) (u1 : List (Int × Int)) : L94c87io101_1 n (m1 + 1) v1 blockSize6 a7 b8 u0 u1 =
 (bif decide (b8 ≤ v1) then (S95c87io1001 n u0 a7 b8 u1).bind fun r1' =>
 (bif Nat.beq r1'.2.1.length u0.length then L94c87io101_1 n m1 v1 blockSize6 b8 (wr .i64 (b8 + blockSize6)) r1'.2.1 r1'.2.2.1
 else none)
 else (S95c87io1001 n u0 a7 v1 u1).bind fun r2' =>
 (bif Nat.beq r2'.2.1.length u0.length then L94c87io101_2 n n.1 v1 blockSize6 r2'.2.1 r2'.2.2.1
 else none)) := by kernel_rfl
theorem L94c87io101_2_eq (n : Nat × Nat) (m1 : Nat) (v1 : Int) (blockSize6 : Int) (u0 : List Int) (u1 : List (Int × Int)) : L94c87io101_2 n (m1 + 1) v1 blockSize6 u0 u1 =
 (bif decide (blockSize6 < v1) then L94c87io101_3 n m1 n.1 v1 blockSize6 0 (wr .i64 (2 * blockSize6)) u0 u1
 else some ((), u0, u1, ())) := by kernel_rfl
theorem L94c87io101_3_eq (n : Nat × Nat) (m1 m2 : Nat) (v1 : Int) (blockSize6 : Int) (a7 : Int) (b8 : Int) (u0 : List Int) (u1 : List (Int × Int)) : L94c87io101_3 n m1 (m2 + 1) v1 blockSize6 a7 b8 u0 u1 =
 (bif decide (b8 ≤ v1) then (S96c87io10001 n u0 a7 (wr .i64 (a7 + blockSize6)) b8 u1).bind fun r3' =>
 (bif Nat.beq r3'.2.1.length u0.length then L94c87io101_3 n m1 m2 v1 blockSize6 b8 (wr .i64 (b8 + (wr .i64 (2 * blockSize6)))) r3'.2.1 r3'.2.2.1
 else none)
 else (bif decide (wr .i64 (a7 + blockSize6) < v1) then (S96c87io10001 n u0 a7 (wr .i64 (a7 + blockSize6)) v1 u1).bind fun r4' =>
 (bif Nat.beq r4'.2.1.length u0.length then L94c87io101_2 n m1 v1 (wr .i64 (blockSize6 * 2)) r4'.2.1 r4'.2.2.1
 else none)
 else L94c87io101_2 n m1 v1 (wr .i64 (blockSize6 * 2)) u0 u1)) := by kernel_rfl
noncomputable def S94c87io101 (n : Nat × Nat) (data0 : List Int) (v1 : Int) (cp_2_0 : List (Int × Int)) : Option R94c87io101 := run (E94c87io101 n) c94c87io101 an94c87io101 rt94c87io101 (fun _ _ => none) rt94c87io101 { tm := [.own 1000000000 none false, .c (.int .i64 v1), .fn 87 [.ptr 1000000001 0], uu, uu, uu, uu, uu, uu, uu, uu, uu, uu, uu, uu, uu, uu, uu, uu, uu, uu, uu, uu, uu, uu, uu, uu, uu, uu, uu, uu, uu, uu, uu, uu, uu, uu, uu, uu, uu, uu, uu, uu, uu, uu, uu, uu, uu, uu, uu, uu, uu, uu, uu, uu, uu, uu, uu, uu, uu, uu, uu, uu], hp := (upd (upd emp 1000000001 (.box [.sl (.pair (.int .i64) (.int .i64)) cp_2_0 false])) 1000000000 (.arr (.int .i64) data0 false)) }
theorem S94c87io101_eq (n : Nat × Nat) (data0 : List Int) (v1 : Int) (cp_2_0 : List (Int × Int)) : S94c87io101 n data0 v1 cp_2_0 =
    L94c87io101_1 n n.1 v1 20 0 20 data0 cp_2_0 := by kernel_rfl
theorem S94c87io101_run (n : Nat × Nat) (xs : qksDen pk94c87io101) : S94c87io101 n xs.1 xs.2.1 xs.2.2.1.1 = runG (E94c87io101 n) noScope c94c87io101 an94c87io101 (rtIO rk94c87io101 (pk94c87io101.flatMap QK.ods)) (fun _ _ => none) (rtIO rk94c87io101 (pk94c87io101.flatMap QK.ods)) (st1 pk94c87io101 xs Try.f94.ntmps) := by kernel_rfl
noncomputable def P94c87io101 (n : Nat × Nat) := phioOf pk94c87io101 rk94c87io101 (pk94c87io101.flatMap QK.ods) (fun xs => S94c87io101 n xs.1 xs.2.1 xs.2.2.1.1)
theorem env94c87io101 (n : Nat × Nat) : EnvOK Try.prog (E94c87io101 n) := envOK (l := io94c87io101 n) noPhi_ok rfl rfl (by kernel_rfl) ⟨FC95c87io1001 n, call95, FC96c87io10001 n, call96, trivial⟩
theorem par94c87io101 (n : Nat × Nat) : EnvPar (E94c87io101 n) := envPar (l := io94c87io101 n) noPhi_par rfl ⟨phioOf_Pario1, phioOf_Pario1, trivial⟩
theorem FC94c87io101 (n : Nat × Nat) : FCios Try.prog 94 (pk94c87io101.map QK.flag) (P94c87io101 n) := phioOf_FCios fun xs r h vs hv => FCio.of_runG tabOK eqsOK (env94c87io101 n) (par94c87io101 n) mixed (fun _ p _ => noScope_ok p.1 p.2) Try.func94 (c := c94c87io101) (an := an94c87io101) (qks := pk94c87io101) (rks := rk94c87io101) (by kernel_rfl) (by kernel_rfl) hv ((S94c87io101_run n xs).symm.trans h)
/- slices.SortStableFunc[[]int,int] -/
abbrev R85c87io11 := (Unit) × (List Int) × (List (Int × Int)) × Unit
noncomputable def c85c87io11 : Code := bodyOf Try.f85
noncomputable def an85c87io11 : Ann := .l
def pk85c87io11 : List QK := [.oa (.int .i64), .of 87 [(.sl (.pair (.int .i64) (.int .i64)))]]
def rk85c87io11 : List RK := []
noncomputable def rt85c87io11 (st : St) : Option R85c87io11 := rtIO rk85c87io11 (pk85c87io11.flatMap QK.ods) st
noncomputable def io85c87io11 (n : Nat × Nat) : List IoE := [⟨94, (isFns [none, none, some 87]), pk94c87io101.map QK.flag, P94c87io101 n⟩]
noncomputable def E85c87io11 (n : Nat × Nat) : Env := { T := tab, phi := noPhi, eff := fun _ => false, fuel := n.1, hold := n.2, phio := phioL (io85c87io11 n), iop := iopL (io85c87io11 n) }
noncomputable def S85c87io11 (n : Nat × Nat) (x0 : List Int) (cp_1_0 : List (Int × Int)) : Option R85c87io11 := run (E85c87io11 n) c85c87io11 an85c87io11 rt85c87io11 (fun _ _ => none) rt85c87io11 { tm := [.own 1000000000 none false, .fn 87 [.ptr 1000000001 0], uu, uu, uu, uu, uu, uu, uu], hp := (upd (upd emp 1000000001 (.box [.sl (.pair (.int .i64) (.int .i64)) cp_1_0 false])) 1000000000 (.arr (.int .i64) x0 false)) }
theorem S85c87io11_eq (n : Nat × Nat) (x0 : List Int) (cp_1_0 : List (Int × Int)) : S85c87io11 n x0 cp_1_0 =
 (S94c87io101 n x0 (x0.length : Int) cp_1_0).bind fun r1' =>
 (bif Nat.beq r1'.2.1.length x0.length then some ((), r1'.2.1, r1'.2.2.1, ())
 else none) := by kernel_rfl
theorem S85c87io11_run (n : Nat × Nat) (xs : qksDen pk85c87io11) : S85c87io11 n xs.1 xs.2.1.1 = runG (E85c87io11 n) noScope c85c87io11 an85c87io11 (rtIO rk85c87io11 (pk85c87io11.flatMap QK.ods)) (fun _ _ => none) (rtIO rk85c87io11 (pk85c87io11.flatMap QK.ods)) (st1 pk85c87io11 xs Try.f85.ntmps) := by kernel_rfl
noncomputable def P85c87io11 (n : Nat × Nat) := phioOf pk85c87io11 rk85c87io11 (pk85c87io11.flatMap QK.ods) (fun xs => S85c87io11 n xs.1 xs.2.1.1)
theorem env85c87io11 (n : Nat × Nat) : EnvOK Try.prog (E85c87io11 n) := envOK (l := io85c87io11 n) noPhi_ok rfl rfl (by kernel_rfl) ⟨FC94c87io101 n, call94, trivial⟩
theorem par85c87io11 (n : Nat × Nat) : EnvPar (E85c87io11 n) := envPar (l := io85c87io11 n) noPhi_par rfl ⟨phioOf_Pario1, trivial⟩
theorem FC85c87io11 (n : Nat × Nat) : FCios Try.prog 85 (pk85c87io11.map QK.flag) (P85c87io11 n) := phioOf_FCios fun xs r h vs hv => FCio.of_runG tabOK eqsOK (env85c87io11 n) (par85c87io11 n) mixed (fun _ p _ => noScope_ok p.1 p.2) Try.func85 (c := c85c87io11) (an := an85c87io11) (qks := pk85c87io11) (rks := rk85c87io11) (by kernel_rfl) (by kernel_rfl) hv ((S85c87io11_run n xs).symm.trans h)
abbrev R69 := List Int
noncomputable def c69 : Code := bodyOf Try.f69
noncomputable def an69 : Ann := (.s .l (.s .l (.s (.s .l (.j [1, 3, 4] (.j [1, 3, 4, 7, 8, 9] (.s .l (.s (.j [1, 3, 4, 7, 8, 9] .l .l) (.j [] (.j [1, 3, 4, 7, 8, 9] (.s .l (.s .l (.j [1, 3, 4, 7, 8, 9] .l .l))) .l) .l))) .l) .l)) .l)))
def pk69 : List PK := [.c (.sl (.pair (.int .i64) (.int .i64)))]
def rk69 : List RK := [.own (.int .i64) 2]
noncomputable def rt69 (st : St) : Option R69 := rtG rk69 st
noncomputable def io69 (n : Nat × Nat) : List IoE := [⟨85, (isFns [none, some 86]), pk85c86io11.map QK.flag, P85c86io11 n⟩, ⟨85, (isFns [none, some 87]), pk85c87io11.map QK.flag, P85c87io11 n⟩]
noncomputable def E69 (n : Nat × Nat) : Env := { T := tab, phi := noPhi, eff := fun _ => false, fuel := n.1, hold := n.2, phio := phioL (io69 n), iop := iopL (io69 n) }
noncomputable def kq69_1 (n : Nat × Nat) : St → Option R69 := run (E69 n) (cB (cB (cB c69))) (Ann.snd (Ann.snd (Ann.snd an69))) rt69 (fun _ _ => none) rt69
noncomputable def xb69_3 (n : Nat × Nat) : Nat → St → Option R69 := fun j s => bif Nat.beq j 0 then normC [1, 3, 4] s (kq69_1 n) else (fun _ _ => none) j s
noncomputable def F69_4 (n : Nat × Nat) : (St → Option R69) → St → Option R69 := fun K s => run (E69 n) (cA (cA (cB (cA (cB (cB c69)))))) (Ann.fst (Ann.fst (Ann.snd (Ann.fst (Ann.snd (Ann.snd an69)))))) (fun s => normC [1, 3, 4, 7, 8, 9] s K) (xb69_3 n) rt69 s
noncomputable def kq69_7 (n : Nat × Nat) (m1 : Nat) : St → Option R69 := run (E69 n) (cB (cB (cB (cA (cA (cB (cA (cB (cB c69))))))))) (Ann.snd (Ann.snd (Ann.snd (Ann.fst (Ann.fst (Ann.snd (Ann.fst (Ann.snd (Ann.snd an69))))))))) (fun s => normC [1, 3, 4, 7, 8, 9] s (loopN (F69_4 n) m1)) (xb69_3 n) rt69
noncomputable def L69_1 (n : Nat × Nat) (m : Nat) (v7 : List (Int × Int)) (v8 : Int) (v9 : Int) (sheets1 : List (Int × Int)) (front3 : List Int) (back4 : List Int) : Option R69 := loopN (F69_4 n) m { tm := [uu, .ptr 1 0, uu, .own 3 none false, .own 4 none false, uu, uu, .c (.sl (.pair (.int .i64) (.int .i64)) v7 false), .c (.int .i64 v8), .c (.int .i64 v9), uu, uu, uu, uu, uu, uu, uu, uu, uu, uu, uu, uu, uu, uu, uu, uu, uu, uu, uu, uu, uu, uu, uu, uu, uu, uu, uu], hp := (upd (upd (upd emp 4 (.arr (.int .i64) back4 true)) 3 (.arr (.int .i64) front3 true)) 1 (.box [.sl (.pair (.int .i64) (.int .i64)) sheets1 false])) }
noncomputable def L69_2 (n : Nat × Nat) (m1 : Nat) (v7 : List (Int × Int)) (v8 : Int) (v9 : Int) (sheets1 : List (Int × Int)) (front3 : List Int) (back4 : List Int) : Option R69 := loopN (fun _ => (kq69_7 n m1)) n.2 { tm := [uu, .ptr 1 0, uu, .own 3 none false, .own 4 none false, uu, uu, .c (.sl (.pair (.int .i64) (.int .i64)) v7 false), .c (.int .i64 v8), .c (.int .i64 v9), uu, uu, uu, uu, uu, uu, uu, uu, uu, uu, uu, uu, uu, uu, uu, uu, uu, uu, uu, uu, uu, uu, uu, uu, uu, uu, uu], hp := (upd (upd (upd emp 4 (.arr (.int .i64) back4 true)) 3 (.arr (.int .i64) front3 true)) 1 (.box [.sl (.pair (.int .i64) (.int .i64)) sheets1 false])) }
theorem L69_1_eq (n : Nat × Nat) (m1 : Nat) (v7 : List (Int × Int)) (v8 : Int) (v9 : Int) (sheets1 : List (Int × Int)) (front3 : List Int) (back4 : List Int) : L69_1 n (m1 + 1) v7 v8 v9 sheets1 front3 back4 =
 (bif decide (v9 < v8) then (idx v7 v9).bind fun x1' =>
 (bif decide (x1'.1 < x1'.2) then (bif decide (front3.length + [v9].length ≤ lim) then L69_2 n m1 v7 v8 v9 sheets1 (front3 ++ [v9]) back4
 else none)
 else (bif decide (back4.length + [v9].length ≤ lim) then L69_2 n m1 v7 v8 v9 sheets1 front3 (back4 ++ [v9])
 else none))
 else (S85c86io11 n front3 sheets1).bind fun r2' =>
 (bif Nat.beq r2'.2.1.length front3.length then (S85c87io11 n back4 r2'.2.2.1).bind fun r3' =>
 (bif Nat.beq r3'.2.1.length back4.length then (bif decide (r2'.2.1.length + r3'.2.1.length ≤ lim) then some (r2'.2.1 ++ r3'.2.1)
 else none)
 else none)
 else none)) := by kernel_rfl
theorem L69_2_raw (n : Nat × Nat) (m1 : Nat) (v7 : List (Int × Int)) (v8 : Int) (v9 : Int) (sheets1 : List (Int × Int)) (front3 : List Int) (back4 : List Int) : (kq69_7 n m1) { tm := [uu, .ptr 1 0, uu, .own 3 none false, .own 4 none false, uu, uu, .c (.sl (.pair (.int .i64) (.int .i64)) v7 false), .c (.int .i64 v8), .c (.int .i64 v9), uu, uu, uu, uu, uu, uu, uu, uu, uu, uu, uu, uu, uu, uu, uu, uu, uu, uu, uu, uu, uu, uu, uu, uu, uu, uu, uu], hp := (upd (upd (upd emp 4 (.arr (.int .i64) back4 true)) 3 (.arr (.int .i64) front3 true)) 1 (.box [.sl (.pair (.int .i64) (.int .i64)) sheets1 false])) } =
    L69_1 n m1 v7 v8 (wr .i64 (v9 + 1)) sheets1 front3 back4 := by kernel_rfl
noncomputable def S69 (n : Nat × Nat) (sheets0 : List (Int × Int)) : Option R69 := run (E69 n) c69 an69 rt69 (fun _ _ => none) rt69 { tm := [.c (.sl (.pair (.int .i64) (.int .i64)) sheets0 false), uu, uu, uu, uu, uu, uu, uu, uu, uu, uu, uu, uu, uu, uu, uu, uu, uu, uu, uu, uu, uu, uu, uu, uu, uu, uu, uu, uu, uu, uu, uu, uu, uu, uu, uu, uu], hp := emp }
theorem S69_eq (n : Nat × Nat) (sheets0 : List (Int × Int)) : S69 n sheets0 =
    L69_1 n n.1 sheets0 (sheets0.length : Int) 0 sheets0 [] [] := by kernel_rfl
theorem S69_run (n : Nat × Nat) (xs : pksDen pk69) : S69 n xs.1 = runG (E69 n) noScope c69 an69 (rtG rk69) (fun _ _ => none) (rtG rk69) (st0 pk69 xs Try.f69.ntmps) := by kernel_rfl
noncomputable def P69 (n : Nat × Nat) := phiOf pk69 rk69 (fun xs => S69 n xs.1)
theorem call69 : CallOK Try.prog 69 := callOK_of Try.func69 (by kernel_rfl) (by kernel_rfl)
theorem env69 (n : Nat × Nat) : EnvOK Try.prog (E69 n) := envOK (l := io69 n) noPhi_ok rfl rfl (by kernel_rfl) ⟨FC85c86io11 n, call85, FC85c87io11 n, call85, trivial⟩
theorem par69 (n : Nat × Nat) : EnvPar (E69 n) := envPar (l := io69 n) noPhi_par rfl ⟨phioOf_Pario1, phioOf_Pario1, trivial⟩
theorem FC69 (n : Nat × Nat) : FCs Try.prog 69 (P69 n) := phiOf_FCs fun xs r h vs hv => FC.of_runG tabOK eqsOK (env69 n) (par69 n) mixed (fun _ p _ => noScope_ok p.1 p.2) Try.func69 (c := c69) (an := an69) (pks := pk69) (rks := rk69) (by kernel_rfl) (by kernel_rfl) hv ((S69_run n xs).symm.trans h)
abbrev R27 := List Int × Int
noncomputable def c27 : Code := bodyOf Try.f27
noncomputable def an27 : Ann := (.s .l (.s (.s .l (.s .l (.j [0] .l .l))) .l))
def pk27 : List PK := [.c (.sl (.pair (.int .i64) (.int .i64)))]
def rk27 : List RK := [.sl (.int .i64) 2, .c (.int .i64) 3]
noncomputable def rt27 (st : St) : Option R27 := rtG rk27 st
noncomputable def E27 (n : Nat × Nat) : Env := { T := tab, phi := (consPhi 25 (fun _ => true) (P25 n) (consPhi 69 (fun _ => true) (P69 n) noPhi)), eff := fun _ => false, fuel := n.1, hold := n.2 }
noncomputable def S27 (n : Nat × Nat) (sheets0 : List (Int × Int)) : Option R27 := run (E27 n) c27 an27 rt27 (fun _ _ => none) rt27 { tm := [.c (.sl (.pair (.int .i64) (.int .i64)) sheets0 false), uu, uu, uu, uu, uu, uu, uu, uu, uu, uu, uu], hp := emp }
theorem S27_eq (n : Nat × Nat) (sheets0 : List (Int × Int)) : S27 n sheets0 =
 (S25 n sheets0).bind fun r1' =>
 (bif (r1' != 0) then some ([], r1')
 else (S69 n sheets0).bind fun r2' =>
 some (r2', 0)) := by kernel_rfl
theorem S27_run (n : Nat × Nat) (xs : pksDen pk27) : S27 n xs.1 = runG (E27 n) noScope c27 an27 (rtG rk27) (fun _ _ => none) (rtG rk27) (st0 pk27 xs Try.f27.ntmps) := by kernel_rfl
noncomputable def P27 (n : Nat × Nat) := phiOf pk27 rk27 (fun xs => S27 n xs.1)
theorem call27 : CallOK Try.prog 27 := callOK_of Try.func27 (by kernel_rfl) (by kernel_rfl)
theorem env27 (n : Nat × Nat) : EnvOK Try.prog (E27 n) := envOK0 (consPhi_ok (FC25 n) call25 (consPhi_ok (FC69 n) call69 noPhi_ok)) rfl rfl
theorem par27 (n : Nat × Nat) : EnvPar (E27 n) := envPar0 (consPhi_par phiOf_Par1 (consPhi_par phiOf_Par1 noPhi_par)) rfl
theorem FC27 (n : Nat × Nat) : FCs Try.prog 27 (P27 n) := phiOf_FCs fun xs r h vs hv => FC.of_runG tabOK eqsOK (env27 n) (par27 n) mixed (fun _ p _ => noScope_ok p.1 p.2) Try.func27 (c := c27) (an := an27) (pks := pk27) (rks := rk27) (by kernel_rfl) (by kernel_rfl) hv ((S27_run n xs).symm.trans h)
abbrev R88 := Int
noncomputable def c88 : Code := bodyOf Try.f88
noncomputable def an88 : Ann := .l
def pk88 : List PK := [.c (.sl (.pair (.int .i64) (.int .i64)))]
def rk88 : List RK := [.c (.int .i64) 2]
noncomputable def rt88 (st : St) : Option R88 := rtG rk88 st
noncomputable def E88 (n : Nat × Nat) : Env := { T := tab, phi := (consPhi 58 (fun _ => true) (P58 n) (consPhi 61 (fun _ => true) (P61 n) (consPhi 69 (fun _ => true) (P69 n) noPhi))), eff := fun _ => false, fuel := n.1, hold := n.2 }
noncomputable def S88 (n : Nat × Nat) (sheets0 : List (Int × Int)) : Option R88 := run (E88 n) c88 an88 rt88 (fun _ _ => none) rt88 { tm := [.c (.sl (.pair (.int .i64) (.int .i64)) sheets0 false), uu, uu, uu, uu, uu, uu, uu, uu, uu, uu, uu, uu, uu], hp := emp }
theorem S88_eq (n : Nat × Nat) (sheets0 : List (Int × Int)) : S88 n sheets0 =
 (S69 n sheets0).bind fun r1' =>
 (S58 n sheets0 r1').bind fun r2' =>
 (S61 n r2'.1).bind fun r3' =>
 some r3' := by kernel_rfl
theorem S88_run (n : Nat × Nat) (xs : pksDen pk88) : S88 n xs.1 = runG (E88 n) noScope c88 an88 (rtG rk88) (fun _ _ => none) (rtG rk88) (st0 pk88 xs Try.f88.ntmps) := by kernel_rfl
noncomputable def P88 (n : Nat × Nat) := phiOf pk88 rk88 (fun xs => S88 n xs.1)
theorem call88 : CallOK Try.prog 88 := callOK_of Try.func88 (by kernel_rfl) (by kernel_rfl)
theorem env88 (n : Nat × Nat) : EnvOK Try.prog (E88 n) := envOK0 (consPhi_ok (FC58 n) call58 (consPhi_ok (FC61 n) call61 (consPhi_ok (FC69 n) call69 noPhi_ok))) rfl rfl
theorem par88 (n : Nat × Nat) : EnvPar (E88 n) := envPar0 (consPhi_par phiOf_Par1 (consPhi_par phiOf_Par1 (consPhi_par phiOf_Par1 noPhi_par))) rfl
theorem FC88 (n : Nat × Nat) : FCs Try.prog 88 (P88 n) := phiOf_FCs fun xs r h vs hv => FC.of_runG tabOK eqsOK (env88 n) (par88 n) mixed (fun _ p _ => noScope_ok p.1 p.2) Try.func88 (c := c88) (an := an88) (pks := pk88) (rks := rk88) (by kernel_rfl) (by kernel_rfl) hv ((S88_run n xs).symm.trans h)
abbrev R72io01 := (Bool) × (List Int) × Unit
noncomputable def c72io01 : Code := bodyOf Try.f72
noncomputable def an72io01 : Ann := .l
def pk72io01 : List QK := [.pl (.c (.sl (.int .i64))), .ob (.sl (.int .i64))]
def rk72io01 : List RK := [.c .bool 3]
noncomputable def rt72io01 (st : St) : Option R72io01 := rtIO rk72io01 (pk72io01.flatMap QK.ods) st
noncomputable def E72io01 (n : Nat × Nat) : Env := { T := tab, phi := noPhi, eff := fun _ => false, fuel := n.1, hold := n.2 }
noncomputable def S72io01 (n : Nat × Nat) (order0 : List Int) (v1 : List Int) : Option R72io01 := run (E72io01 n) c72io01 an72io01 rt72io01 (fun _ _ => none) rt72io01 { tm := [.c (.sl (.int .i64) order0 false), .ptr 1000000000 0, uu, uu, uu], hp := (upd emp 1000000000 (.box [.sl (.int .i64) v1 false])) }
theorem S72io01_eq (n : Nat × Nat) (order0 : List Int) (v1 : List Int) : S72io01 n order0 v1 =
 some (false, order0, ()) := by kernel_rfl
theorem S72io01_run (n : Nat × Nat) (xs : qksDen pk72io01) : S72io01 n xs.1 xs.2.1 = runG (E72io01 n) noScope c72io01 an72io01 (rtIO rk72io01 (pk72io01.flatMap QK.ods)) (fun _ _ => none) (rtIO rk72io01 (pk72io01.flatMap QK.ods)) (st1 pk72io01 xs Try.f72.ntmps) := by kernel_rfl
noncomputable def P72io01 (n : Nat × Nat) := phioOf pk72io01 rk72io01 (pk72io01.flatMap QK.ods) (fun xs => S72io01 n xs.1 xs.2.1)
theorem call72 : CallOK Try.prog 72 := callOK_of Try.func72 (by kernel_rfl) (by kernel_rfl)
theorem env72io01 (n : Nat × Nat) : EnvOK Try.prog (E72io01 n) := envOK0 noPhi_ok rfl rfl
theorem par72io01 (n : Nat × Nat) : EnvPar (E72io01 n) := envPar0 noPhi_par rfl
theorem FC72io01 (n : Nat × Nat) : FCios Try.prog 72 (pk72io01.map QK.flag) (P72io01 n) := phioOf_FCios fun xs r h vs hv => FCio.of_runG tabOK eqsOK (env72io01 n) (par72io01 n) mixed (fun _ p _ => noScope_ok p.1 p.2) Try.func72 (c := c72io01) (an := an72io01) (qks := pk72io01) (rks := rk72io01) (by kernel_rfl) (by kernel_rfl) hv ((S72io01_run n xs).symm.trans h)
abbrev R89f72io0001110 := (Bool) × (List (Int × Int)) × (List Int) × Int × Unit
noncomputable def c89f72io0001110 : Code := bodyOf Try.f89
noncomputable def an89f72io0001110 : Ann := (.s .l (.s (.s .l (.j [0, 1, 2, 3, 5, 6, 47, 48, 49, 50, 51, 52, 53, 54, 55, 56, 57, 58, 59, 60, 1000000000, 1000000001, 1000000002] .l .l)) (.s (.s .l (.j [1000000000, 1000000001, 1000000002] (.j [0, 1, 2, 5, 6, 23, 24, 25, 47, 48, 49, 50, 51, 52, 53, 54, 55, 56, 57, 58, 59, 60, 1000000000, 1000000001, 1000000002] (.s .l (.s (.j [0, 1, 2, 5, 6, 23, 24, 25, 47, 48, 49, 50, 51, 52, 53, 54, 55, 56, 57, 58, 59, 60, 1000000000, 1000000001, 1000000002] .l .l) (.j [] (.j [0, 1, 2, 5, 6, 23, 24, 25, 47, 48, 49, 50, 51, 52, 53, 54, 55, 56, 57, 58, 59, 60, 1000000000, 1000000001, 1000000002] (.s .l (.s (.s .l (.j [0, 1, 2, 5, 6, 11, 12, 23, 24, 25, 47, 48, 49, 50, 51, 52, 53, 54, 55, 56, 57, 58, 59, 60, 1000000000, 1000000001, 1000000002] .l .l)) (.s .l (.s .l (.s .l (.j [0, 1, 2, 5, 6, 23, 24, 25, 47, 48, 49, 50, 51, 52, 53, 54, 55, 56, 57, 58, 59, 60, 1000000000, 1000000001, 1000000002] .l .l)))))) .l) .l))) .l) .l)) .l)))
def pk89f72io0001110 : List QK := [.pl (.c (.sl (.int .i64))), .pl (.c (.int .i64)), .pl (.c (.int .i64)), .ob (.sl (.pair (.int .i64) (.int .i64))), .fp 72 [(.sl (.int .i64))], .ob (.int .i64), .sf 89 [.b 1000000000, .v 72 [1000000001], .b 1000000002, .s]]
def rk89f72io0001110 : List RK := [.c .bool 10]
noncomputable def rt89f72io0001110 (st : St) : Option R89f72io0001110 := rtIO rk89f72io0001110 (pk89f72io0001110.flatMap QK.ods) st
noncomputable def io89f72io0001110 (n : Nat × Nat) (SS : List Int → Int → Int → (List (Int × Int)) → List Int → Int → Option R89f72io0001110) : List IoE := [⟨72, (fun _ => true), pk72io01.map QK.flag, P72io01 n⟩, ⟨89, (fun _ => true), pk89f72io0001110.map QK.flag, (phioOf pk89f72io0001110 rk89f72io0001110 (pk89f72io0001110.flatMap QK.ods) (fun xs => SS xs.1 xs.2.1 xs.2.2.1 xs.2.2.2.1 xs.2.2.2.2.1.1 xs.2.2.2.2.2.1))⟩]
noncomputable def E89f72io0001110 (n : Nat × Nat) (SS : List Int → Int → Int → (List (Int × Int)) → List Int → Int → Option R89f72io0001110) : Env := { T := tab, phi := (consPhi 80 (fun _ => true) (P80 n) noPhi), eff := fun _ => false, fuel := n.1, hold := n.2, phio := phioL (io89f72io0001110 n SS), iop := iopL (io89f72io0001110 n SS) }
noncomputable def kq89f72io0001110_3 (n : Nat × Nat) (SS : List Int → Int → Int → (List (Int × Int)) → List Int → Int → Option R89f72io0001110) : St → Option R89f72io0001110 := run (E89f72io0001110 n SS) (cB (cB (cB c89f72io0001110))) (Ann.snd (Ann.snd (Ann.snd an89f72io0001110))) rt89f72io0001110 (fun _ _ => none) rt89f72io0001110
noncomputable def xb89f72io0001110_5 (n : Nat × Nat) (SS : List Int → Int → Int → (List (Int × Int)) → List Int → Int → Option R89f72io0001110) : Nat → St → Option R89f72io0001110 := fun j s => bif Nat.beq j 0 then normC [1000000000, 1000000001, 1000000002] s (kq89f72io0001110_3 n SS) else (fun _ _ => none) j s
noncomputable def F89f72io0001110_6 (n : Nat × Nat) (SS : List Int → Int → Int → (List (Int × Int)) → List Int → Int → Option R89f72io0001110) : (St → Option R89f72io0001110) → St → Option R89f72io0001110 := fun K s => run (E89f72io0001110 n SS) (cA (cA (cB (cA (cB (cB c89f72io0001110)))))) (Ann.fst (Ann.fst (Ann.snd (Ann.fst (Ann.snd (Ann.snd an89f72io0001110)))))) (fun s => normC [0, 1, 2, 5, 6, 23, 24, 25, 47, 48, 49, 50, 51, 52, 53, 54, 55, 56, 57, 58, 59, 60, 1000000000, 1000000001, 1000000002] s K) (xb89f72io0001110_5 n SS) rt89f72io0001110 s
noncomputable def kq89f72io0001110_9 (n : Nat × Nat) (SS : List Int → Int → Int → (List (Int × Int)) → List Int → Int → Option R89f72io0001110) (m1 : Nat) : St → Option R89f72io0001110 := run (E89f72io0001110 n SS) (cB (cB (cB (cA (cA (cB (cA (cB (cB c89f72io0001110))))))))) (Ann.snd (Ann.snd (Ann.snd (Ann.fst (Ann.fst (Ann.snd (Ann.fst (Ann.snd (Ann.snd an89f72io0001110))))))))) (fun s => normC [0, 1, 2, 5, 6, 23, 24, 25, 47, 48, 49, 50, 51, 52, 53, 54, 55, 56, 57, 58, 59, 60, 1000000000, 1000000001, 1000000002] s (loopN (F89f72io0001110_6 n SS) m1)) (xb89f72io0001110_5 n SS) rt89f72io0001110
noncomputable def L89f72io0001110_1 (n : Nat × Nat) (SS : List Int → Int → Int → (List (Int × Int)) → List Int → Int → Option R89f72io0001110) (m : Nat) (order0 : List Int) (a1 : Int) (b2 : Int) (v23 : List (Int × Int)) (v24 : Int) (v25 : Int) (u2 : Int) (u0 : List (Int × Int)) (u1 : List Int) : Option R89f72io0001110 := loopN (F89f72io0001110_6 n SS) m { tm := [.c (.sl (.int .i64) order0 false), .c (.int .i64 a1), .c (.int .i64 b2), uu, uu, .ptr 1000000002 0, .fptr 89 [.b 1000000000, .v 72 [1000000001], .b 1000000002, .s], uu, uu, uu, uu, uu, uu, uu, uu, uu, uu, uu, uu, uu, uu, uu, uu, .c (.sl (.pair (.int .i64) (.int .i64)) v23 false), .c (.int .i64 v24), .c (.int .i64 v25), uu, uu, uu, uu, uu, uu, uu, uu, uu, uu, uu, uu, uu, uu, uu, uu, uu, uu, uu, uu, uu, uu, uu, uu, uu, uu, uu, uu, uu, uu, uu, uu, uu, uu, uu, uu, uu], hp := (upd (upd (upd emp 1000000001 (.box [.sl (.int .i64) u1 false])) 1000000000 (.box [.sl (.pair (.int .i64) (.int .i64)) u0 false])) 1000000002 (.box [.int .i64 u2])) }
noncomputable def L89f72io0001110_2 (n : Nat × Nat) (SS : List Int → Int → Int → (List (Int × Int)) → List Int → Int → Option R89f72io0001110) (m1 : Nat) (order0 : List Int) (a1 : Int) (b2 : Int) (v23 : List (Int × Int)) (v24 : Int) (v25 : Int) (u2 : Int) (u0 : List (Int × Int)) (u1 : List Int) : Option R89f72io0001110 := loopN (fun _ => (kq89f72io0001110_9 n SS m1)) n.2 { tm := [.c (.sl (.int .i64) order0 false), .c (.int .i64 a1), .c (.int .i64 b2), uu, uu, .ptr 1000000002 0, .fptr 89 [.b 1000000000, .v 72 [1000000001], .b 1000000002, .s], uu, uu, uu, uu, uu, uu, uu, uu, uu, uu, uu, uu, uu, uu, uu, uu, .c (.sl (.pair (.int .i64) (.int .i64)) v23 false), .c (.int .i64 v24), .c (.int .i64 v25), uu, uu, uu, uu, uu, uu, uu, uu, uu, uu, uu, uu, uu, uu, uu, uu, uu, uu, uu, uu, uu, uu, uu, uu, uu, uu, uu, uu, uu, uu, uu, uu, uu, uu, uu, uu, uu], hp := (upd (upd (upd emp 1000000001 (.box [.sl (.int .i64) u1 false])) 1000000000 (.box [.sl (.pair (.int .i64) (.int .i64)) u0 false])) 1000000002 (.box [.int .i64 u2])) }
theorem L89f72io0001110_1_eq (n : Nat × Nat) (SS : List Int → Int → Int → (List (Int × Int)) → List Int → Int → Option R89f72io0001110) (m1 : Nat) (order0 : List Int) (a1 : Int) (b2 : Int) (v23 : List (Int × Int)) (v24 : Int) (v25 : Int) (u2 : Int) (u0 : List (Int × Int)) (u1 : List Int) : L89f72io0001110_1 n SS (m1 + 1) order0 a1 b2 v23 v24 v25 u2 u0 u1 =
 (bif decide (v25 < v24) then (idx v23 v25).bind fun x2' =>
 (S80 n order0 v25).bind fun r3' =>
 (bif r3' then L89f72io0001110_2 n SS m1 order0 a1 b2 v23 v24 v25 u2 u0 u1
 else (bif (decide (wr .i64 ((if b2 > (wr .i64 (a1 + x2'.1)) then b2 else (wr .i64 (a1 + x2'.1))) + x2'.2) ≤ u2) == true) then (bif ((order0.length : Int) == (order0.length : Int)) && bounds none (some (order0.length : Int)) (some (order0.length : Int)) order0.length then (bif decide ((order0.take (Int.toNat (order0.length : Int))).length + [v25].length ≤ lim) && ((order0.take (Int.toNat (order0.length : Int))).isEmpty || ![v25].isEmpty) then (SS ((order0.take (Int.toNat (order0.length : Int))) ++ [v25]) (wr .i64 (a1 + x2'.1)) (wr .i64 ((if b2 > (wr .i64 (a1 + x2'.1)) then b2 else (wr .i64 (a1 + x2'.1))) + x2'.2)) u0 u1 u2).bind fun r5' =>
 (bif (!r5'.1) then some (false, r5'.2.1, r5'.2.2.1, r5'.2.2.2.1, ())
 else L89f72io0001110_2 n SS m1 order0 a1 b2 v23 v24 v25 r5'.2.2.2.1 r5'.2.1 r5'.2.2.1)
 else none)
 else none)
 else (bif false then some (false, u0, u1, u2, ())
 else L89f72io0001110_2 n SS m1 order0 a1 b2 v23 v24 v25 u2 u0 u1)))
 else some (true, u0, u1, u2, ())) := by kernel_rfl
theorem L89f72io0001110_2_raw (n : Nat × Nat) (SS : List Int → Int → Int → (List (Int × Int)) → List Int → Int → Option R89f72io0001110) (m1 : Nat) (order0 : List Int) (a1 : Int) (b2 : Int) (v23 : List (Int × Int)) (v24 : Int) (v25 : Int) (u2 : Int) (u0 : List (Int × Int)) (u1 : List Int) : (kq89f72io0001110_9 n SS m1) { tm := [.c (.sl (.int .i64) order0 false), .c (.int .i64 a1), .c (.int .i64 b2), uu, uu, .ptr 1000000002 0, .fptr 89 [.b 1000000000, .v 72 [1000000001], .b 1000000002, .s], uu, uu, uu, uu, uu, uu, uu, uu, uu, uu, uu, uu, uu, uu, uu, uu, .c (.sl (.pair (.int .i64) (.int .i64)) v23 false), .c (.int .i64 v24), .c (.int .i64 v25), uu, uu, uu, uu, uu, uu, uu, uu, uu, uu, uu, uu, uu, uu, uu, uu, uu, uu, uu, uu, uu, uu, uu, uu, uu, uu, uu, uu, uu, uu, uu, uu, uu, uu, uu, uu, uu], hp := (upd (upd (upd emp 1000000001 (.box [.sl (.int .i64) u1 false])) 1000000000 (.box [.sl (.pair (.int .i64) (.int .i64)) u0 false])) 1000000002 (.box [.int .i64 u2])) } =
    L89f72io0001110_1 n SS m1 order0 a1 b2 v23 v24 (wr .i64 (v25 + 1)) u2 u0 u1 := by kernel_rfl
noncomputable def B89f72io0001110 (n : Nat × Nat) (SS : List Int → Int → Int → (List (Int × Int)) → List Int → Int → Option R89f72io0001110) (order0 : List Int) (a1 : Int) (b2 : Int) (v3 : List (Int × Int)) (cp_4_0 : List Int) (v5 : Int) : Option R89f72io0001110 := run (E89f72io0001110 n SS) c89f72io0001110 an89f72io0001110 rt89f72io0001110 (fun _ _ => none) rt89f72io0001110 { tm := [.c (.sl (.int .i64) order0 false), .c (.int .i64 a1), .c (.int .i64 b2), .ptr 1000000000 0, .fptr 72 [.b 1000000001], .ptr 1000000002 0, .fptr 89 [.b 1000000000, .v 72 [1000000001], .b 1000000002, .s], uu, uu, uu, uu, uu, uu, uu, uu, uu, uu, uu, uu, uu, uu, uu, uu, uu, uu, uu, uu, uu, uu, uu, uu, uu, uu, uu, uu, uu, uu, uu, uu, uu, uu, uu, uu, uu, uu, uu, uu, uu, uu, uu, uu, uu, uu, uu, uu, uu, uu, uu, uu, uu, uu, uu, uu], hp := (upd (upd (upd emp 1000000002 (.box [.int .i64 v5])) 1000000001 (.box [.sl (.int .i64) cp_4_0 false])) 1000000000 (.box [.sl (.pair (.int .i64) (.int .i64)) v3 false])) }
theorem B89f72io0001110_eq (n : Nat × Nat) (SS : List Int → Int → Int → (List (Int × Int)) → List Int → Int → Option R89f72io0001110) (order0 : List Int) (a1 : Int) (b2 : Int) (v3 : List (Int × Int)) (cp_4_0 : List Int) (v5 : Int) : B89f72io0001110 n SS order0 a1 b2 v3 cp_4_0 v5 =
 (bif ((order0.length : Int) == (v3.length : Int)) then (S72io01 n order0 cp_4_0).bind fun r1' =>
 some (r1'.1, v3, r1'.2.1, v5, ())
 else L89f72io0001110_1 n SS n.1 order0 a1 b2 v3 (v3.length : Int) 0 v5 v3 cp_4_0) := by kernel_rfl
noncomputable def T89f72io0001110 (n : Nat × Nat) : Nat → List Int → Int → Int → (List (Int × Int)) → List Int → Int → Option R89f72io0001110
  | 0 => fun _ _ _ _ _ _ => none
  | d + 1 => B89f72io0001110 n (T89f72io0001110 n d)
theorem T89f72io0001110_eq (n : Nat × Nat) (d : Nat) (order0 : List Int) (a1 : Int) (b2 : Int) (v3 : List (Int × Int)) (cp_4_0 : List Int) (v5 : Int) : T89f72io0001110 n (d + 1) order0 a1 b2 v3 cp_4_0 v5 = B89f72io0001110 n (T89f72io0001110 n d) order0 a1 b2 v3 cp_4_0 v5 := rfl
noncomputable def S89f72io0001110 (n : Nat × Nat) (order0 : List Int) (a1 : Int) (b2 : Int) (v3 : List (Int × Int)) (cp_4_0 : List Int) (v5 : Int) : Option R89f72io0001110 := T89f72io0001110 n n.1 order0 a1 b2 v3 cp_4_0 v5
theorem B89f72io0001110_run (n : Nat × Nat) (SS : List Int → Int → Int → (List (Int × Int)) → List Int → Int → Option R89f72io0001110) (xs : qksDen pk89f72io0001110) : B89f72io0001110 n SS xs.1 xs.2.1 xs.2.2.1 xs.2.2.2.1 xs.2.2.2.2.1.1 xs.2.2.2.2.2.1 = runG (E89f72io0001110 n SS) noScope c89f72io0001110 an89f72io0001110 (rtIO rk89f72io0001110 (pk89f72io0001110.flatMap QK.ods)) (fun _ _ => none) (rtIO rk89f72io0001110 (pk89f72io0001110.flatMap QK.ods)) (st1 pk89f72io0001110 xs Try.f89.ntmps) := by kernel_rfl
noncomputable def P89f72io0001110 (n : Nat × Nat) := phioOf pk89f72io0001110 rk89f72io0001110 (pk89f72io0001110.flatMap QK.ods) (fun xs => S89f72io0001110 n xs.1 xs.2.1 xs.2.2.1 xs.2.2.2.1 xs.2.2.2.2.1.1 xs.2.2.2.2.2.1)
theorem call89 : CallOK Try.prog 89 := callOK_of Try.func89 (by kernel_rfl) (by kernel_rfl)
theorem env89f72io0001110 (n : Nat × Nat) (SS : List Int → Int → Int → (List (Int × Int)) → List Int → Int → Option R89f72io0001110) (hSS : FCios Try.prog 89 (pk89f72io0001110.map QK.flag) (phioOf pk89f72io0001110 rk89f72io0001110 (pk89f72io0001110.flatMap QK.ods) (fun xs => SS xs.1 xs.2.1 xs.2.2.1 xs.2.2.2.1 xs.2.2.2.2.1.1 xs.2.2.2.2.2.1))) : EnvOK Try.prog (E89f72io0001110 n SS) := envOK (l := io89f72io0001110 n SS) (consPhi_ok (FC80 n) call80 noPhi_ok) rfl rfl (by kernel_rfl) ⟨FC72io01 n, call72, hSS, call89, trivial⟩
theorem par89f72io0001110 (n : Nat × Nat) (SS : List Int → Int → Int → (List (Int × Int)) → List Int → Int → Option R89f72io0001110) : EnvPar (E89f72io0001110 n SS) := envPar (l := io89f72io0001110 n SS) (consPhi_par phiOf_Par1 noPhi_par) rfl ⟨phioOf_Pario1, phioOf_Pario1, trivial⟩
theorem FCT89f72io0001110 (n : Nat × Nat) : ∀ d : Nat, FCios Try.prog 89 (pk89f72io0001110.map QK.flag) (phioOf pk89f72io0001110 rk89f72io0001110 (pk89f72io0001110.flatMap QK.ods) (fun xs => T89f72io0001110 n d xs.1 xs.2.1 xs.2.2.1 xs.2.2.2.1 xs.2.2.2.2.1.1 xs.2.2.2.2.2.1))
  | 0 => phioOf_FCios fun xs r h => by cases h
  | d + 1 => phioOf_FCios fun xs r h vs hv => FCio.of_runG tabOK eqsOK (env89f72io0001110 n (T89f72io0001110 n d) (FCT89f72io0001110 n d)) (par89f72io0001110 n (T89f72io0001110 n d)) mixed (fun _ p _ => noScope_ok p.1 p.2) Try.func89 (c := c89f72io0001110) (an := an89f72io0001110) (qks := pk89f72io0001110) (rks := rk89f72io0001110) (by kernel_rfl) (by kernel_rfl) hv ((B89f72io0001110_run n (T89f72io0001110 n d) xs).symm.trans h)
theorem FC89f72io0001110 (n : Nat × Nat) : FCios Try.prog 89 (pk89f72io0001110.map QK.flag) (P89f72io0001110 n) := FCT89f72io0001110 n n.1
abbrev R71c72io01 := (Unit) × (List Int) × Unit
noncomputable def c71c72io01 : Code := bodyOf Try.f71
noncomputable def an71c72io01 : Ann := .l
def pk71c72io01 : List QK := [.pl (.c (.sl (.pair (.int .i64) (.int .i64)))), .of 72 [(.sl (.int .i64))]]
def rk71c72io01 : List RK := []
noncomputable def rt71c72io01 (st : St) : Option R71c72io01 := rtIO rk71c72io01 (pk71c72io01.flatMap QK.ods) st
noncomputable def io71c72io01 (n : Nat × Nat) : List IoE := [⟨89, (fun _ => true), pk89f72io0001110.map QK.flag, P89f72io0001110 n⟩]
noncomputable def E71c72io01 (n : Nat × Nat) : Env := { T := tab, phi := (consPhi 88 (fun _ => true) (P88 n) noPhi), eff := fun _ => false, fuel := n.1, hold := n.2, phio := phioL (io71c72io01 n), iop := iopL (io71c72io01 n) }
noncomputable def S71c72io01 (n : Nat × Nat) (sheets0 : List (Int × Int)) (cp_1_0 : List Int) : Option R71c72io01 := run (E71c72io01 n) c71c72io01 an71c72io01 rt71c72io01 (fun _ _ => none) rt71c72io01 { tm := [.c (.sl (.pair (.int .i64) (.int .i64)) sheets0 false), .fn 72 [.ptr 1000000000 0], uu, uu, uu, uu, uu, uu, uu, uu, uu], hp := (upd emp 1000000000 (.box [.sl (.int .i64) cp_1_0 false])) }
theorem S71c72io01_eq (n : Nat × Nat) (sheets0 : List (Int × Int)) (cp_1_0 : List Int) : S71c72io01 n sheets0 cp_1_0 =
 (S88 n sheets0).bind fun r1' =>
 (S89f72io0001110 n [] 0 0 sheets0 cp_1_0 r1').bind fun r2' =>
 some ((), r2'.2.2.1, ()) := by kernel_rfl
theorem S71c72io01_run (n : Nat × Nat) (xs : qksDen pk71c72io01) : S71c72io01 n xs.1 xs.2.1.1 = runG (E71c72io01 n) noScope c71c72io01 an71c72io01 (rtIO rk71c72io01 (pk71c72io01.flatMap QK.ods)) (fun _ _ => none) (rtIO rk71c72io01 (pk71c72io01.flatMap QK.ods)) (st1 pk71c72io01 xs Try.f71.ntmps) := by kernel_rfl
noncomputable def P71c72io01 (n : Nat × Nat) := phioOf pk71c72io01 rk71c72io01 (pk71c72io01.flatMap QK.ods) (fun xs => S71c72io01 n xs.1 xs.2.1.1)
theorem call71 : CallOK Try.prog 71 := callOK_of Try.func71 (by kernel_rfl) (by kernel_rfl)
theorem env71c72io01 (n : Nat × Nat) : EnvOK Try.prog (E71c72io01 n) := envOK (l := io71c72io01 n) (consPhi_ok (FC88 n) call88 noPhi_ok) rfl rfl (by kernel_rfl) ⟨FC89f72io0001110 n, call89, trivial⟩
theorem par71c72io01 (n : Nat × Nat) : EnvPar (E71c72io01 n) := envPar (l := io71c72io01 n) (consPhi_par phiOf_Par1 noPhi_par) rfl ⟨phioOf_Pario1, trivial⟩
theorem FC71c72io01 (n : Nat × Nat) : FCios Try.prog 71 (pk71c72io01.map QK.flag) (P71c72io01 n) := phioOf_FCios fun xs r h vs hv => FCio.of_runG tabOK eqsOK (env71c72io01 n) (par71c72io01 n) mixed (fun _ p _ => noScope_ok p.1 p.2) Try.func71 (c := c71c72io01) (an := an71c72io01) (qks := pk71c72io01) (rks := rk71c72io01) (by kernel_rfl) (by kernel_rfl) hv ((S71c72io01_run n xs).symm.trans h)
abbrev R29 := List Int × Int
noncomputable def c29 : Code := bodyOf Try.f29
noncomputable def an29 : Ann := (.s .l (.s (.s .l (.s .l (.j [0] .l .l))) .l))
def pk29 : List PK := [.c (.sl (.pair (.int .i64) (.int .i64)))]
def rk29 : List RK := [.sl (.int .i64) 2, .c (.int .i64) 3]
noncomputable def rt29 (st : St) : Option R29 := rtG rk29 st
noncomputable def io29 (n : Nat × Nat) : List IoE := [⟨71, (isFns [none, some 72]), pk71c72io01.map QK.flag, P71c72io01 n⟩]
noncomputable def E29 (n : Nat × Nat) : Env := { T := tab, phi := (consPhi 25 (fun _ => true) (P25 n) noPhi), eff := fun _ => false, fuel := n.1, hold := n.2, phio := phioL (io29 n), iop := iopL (io29 n) }
noncomputable def S29 (n : Nat × Nat) (sheets0 : List (Int × Int)) : Option R29 := run (E29 n) c29 an29 rt29 (fun _ _ => none) rt29 { tm := [.c (.sl (.pair (.int .i64) (.int .i64)) sheets0 false), uu, uu, uu, uu, uu, uu, uu, uu, uu, uu, uu, uu, uu, uu], hp := emp }
theorem S29_eq (n : Nat × Nat) (sheets0 : List (Int × Int)) : S29 n sheets0 =
 (S25 n sheets0).bind fun r1' =>
 (bif (r1' != 0) then some ([], r1')
 else (S71c72io01 n sheets0 []).bind fun r2' =>
 some (r2'.2.1, 0)) := by kernel_rfl
theorem S29_run (n : Nat × Nat) (xs : pksDen pk29) : S29 n xs.1 = runG (E29 n) noScope c29 an29 (rtG rk29) (fun _ _ => none) (rtG rk29) (st0 pk29 xs Try.f29.ntmps) := by kernel_rfl
noncomputable def P29 (n : Nat × Nat) := phiOf pk29 rk29 (fun xs => S29 n xs.1)
theorem call29 : CallOK Try.prog 29 := callOK_of Try.func29 (by kernel_rfl) (by kernel_rfl)
theorem env29 (n : Nat × Nat) : EnvOK Try.prog (E29 n) := envOK (l := io29 n) (consPhi_ok (FC25 n) call25 noPhi_ok) rfl rfl (by kernel_rfl) ⟨FC71c72io01 n, call71, trivial⟩
theorem par29 (n : Nat × Nat) : EnvPar (E29 n) := envPar (l := io29 n) (consPhi_par phiOf_Par1 noPhi_par) rfl ⟨phioOf_Pario1, trivial⟩
theorem FC29 (n : Nat × Nat) : FCs Try.prog 29 (P29 n) := phiOf_FCs fun xs r h vs hv => FC.of_runG tabOK eqsOK (env29 n) (par29 n) mixed (fun _ p _ => noScope_ok p.1 p.2) Try.func29 (c := c29) (an := an29) (pks := pk29) (rks := rk29) (by kernel_rfl) (by kernel_rfl) hv ((S29_run n xs).symm.trans h)
abbrev R74io01 := (Bool) × Int × Unit
noncomputable def c74io01 : Code := bodyOf Try.f74
noncomputable def an74io01 : Ann := .l
def pk74io01 : List QK := [.pl (.c (.sl (.int .i64))), .ob (.int .i64)]
def rk74io01 : List RK := [.c .bool 3]
noncomputable def rt74io01 (st : St) : Option R74io01 := rtIO rk74io01 (pk74io01.flatMap QK.ods) st
noncomputable def E74io01 (n : Nat × Nat) : Env := { T := tab, phi := noPhi, eff := fun _ => false, fuel := n.1, hold := n.2 }
noncomputable def S74io01 (n : Nat × Nat) (v0 : List Int) (v1 : Int) : Option R74io01 := run (E74io01 n) c74io01 an74io01 rt74io01 (fun _ _ => none) rt74io01 { tm := [.c (.sl (.int .i64) v0 false), .ptr 1000000000 0, uu, uu, uu, uu], hp := (upd emp 1000000000 (.box [.int .i64 v1])) }
theorem S74io01_eq (n : Nat × Nat) (v0 : List Int) (v1 : Int) : S74io01 n v0 v1 =
 some (true, wr .i64 (v1 + 1), ()) := by kernel_rfl
theorem S74io01_run (n : Nat × Nat) (xs : qksDen pk74io01) : S74io01 n xs.1 xs.2.1 = runG (E74io01 n) noScope c74io01 an74io01 (rtIO rk74io01 (pk74io01.flatMap QK.ods)) (fun _ _ => none) (rtIO rk74io01 (pk74io01.flatMap QK.ods)) (st1 pk74io01 xs Try.f74.ntmps) := by kernel_rfl
noncomputable def P74io01 (n : Nat × Nat) := phioOf pk74io01 rk74io01 (pk74io01.flatMap QK.ods) (fun xs => S74io01 n xs.1 xs.2.1)
theorem call74 : CallOK Try.prog 74 := callOK_of Try.func74 (by kernel_rfl) (by kernel_rfl)
theorem env74io01 (n : Nat × Nat) : EnvOK Try.prog (E74io01 n) := envOK0 noPhi_ok rfl rfl
theorem par74io01 (n : Nat × Nat) : EnvPar (E74io01 n) := envPar0 noPhi_par rfl
theorem FC74io01 (n : Nat × Nat) : FCios Try.prog 74 (pk74io01.map QK.flag) (P74io01 n) := phioOf_FCios fun xs r h vs hv => FCio.of_runG tabOK eqsOK (env74io01 n) (par74io01 n) mixed (fun _ p _ => noScope_ok p.1 p.2) Try.func74 (c := c74io01) (an := an74io01) (qks := pk74io01) (rks := rk74io01) (by kernel_rfl) (by kernel_rfl) hv ((S74io01_run n xs).symm.trans h)
abbrev R89f74io0001110 := (Bool) × (List (Int × Int)) × Int × Int × Unit
noncomputable def c89f74io0001110 : Code := bodyOf Try.f89
noncomputable def an89f74io0001110 : Ann := (.s .l (.s (.s .l (.j [0, 1, 2, 3, 5, 6, 47, 48, 49, 50, 51, 52, 53, 54, 55, 56, 57, 58, 59, 60, 1000000000, 1000000001, 1000000002] .l .l)) (.s (.s .l (.j [1000000000, 1000000001, 1000000002] (.j [0, 1, 2, 5, 6, 23, 24, 25, 47, 48, 49, 50, 51, 52, 53, 54, 55, 56, 57, 58, 59, 60, 1000000000, 1000000001, 1000000002] (.s .l (.s (.j [0, 1, 2, 5, 6, 23, 24, 25, 47, 48, 49, 50, 51, 52, 53, 54, 55, 56, 57, 58, 59, 60, 1000000000, 1000000001, 1000000002] .l .l) (.j [] (.j [0, 1, 2, 5, 6, 23, 24, 25, 47, 48, 49, 50, 51, 52, 53, 54, 55, 56, 57, 58, 59, 60, 1000000000, 1000000001, 1000000002] (.s .l (.s (.s .l (.j [0, 1, 2, 5, 6, 11, 12, 23, 24, 25, 47, 48, 49, 50, 51, 52, 53, 54, 55, 56, 57, 58, 59, 60, 1000000000, 1000000001, 1000000002] .l .l)) (.s .l (.s .l (.s .l (.j [0, 1, 2, 5, 6, 23, 24, 25, 47, 48, 49, 50, 51, 52, 53, 54, 55, 56, 57, 58, 59, 60, 1000000000, 1000000001, 1000000002] .l .l)))))) .l) .l))) .l) .l)) .l)))
def pk89f74io0001110 : List QK := [.pl (.c (.sl (.int .i64))), .pl (.c (.int .i64)), .pl (.c (.int .i64)), .ob (.sl (.pair (.int .i64) (.int .i64))), .fp 74 [(.int .i64)], .ob (.int .i64), .sf 89 [.b 1000000000, .v 74 [1000000001], .b 1000000002, .s]]
def rk89f74io0001110 : List RK := [.c .bool 10]
noncomputable def rt89f74io0001110 (st : St) : Option R89f74io0001110 := rtIO rk89f74io0001110 (pk89f74io0001110.flatMap QK.ods) st
noncomputable def io89f74io0001110 (n : Nat × Nat) (SS : List Int → Int → Int → (List (Int × Int)) → Int → Int → Option R89f74io0001110) : List IoE := [⟨74, (fun _ => true), pk74io01.map QK.flag, P74io01 n⟩, ⟨89, (fun _ => true), pk89f74io0001110.map QK.flag, (phioOf pk89f74io0001110 rk89f74io0001110 (pk89f74io0001110.flatMap QK.ods) (fun xs => SS xs.1 xs.2.1 xs.2.2.1 xs.2.2.2.1 xs.2.2.2.2.1.1 xs.2.2.2.2.2.1))⟩]
noncomputable def E89f74io0001110 (n : Nat × Nat) (SS : List Int → Int → Int → (List (Int × Int)) → Int → Int → Option R89f74io0001110) : Env := { T := tab, phi := (consPhi 80 (fun _ => true) (P80 n) noPhi), eff := fun _ => false, fuel := n.1, hold := n.2, phio := phioL (io89f74io0001110 n SS), iop := iopL (io89f74io0001110 n SS) }
noncomputable def kq89f74io0001110_3 (n : Nat × Nat) (SS : List Int → Int → Int → (List (Int × Int)) → Int → Int → Option R89f74io0001110) : St → Option R89f74io0001110 := run (E89f74io0001110 n SS) (cB (cB (cB c89f74io0001110))) (Ann.snd (Ann.snd (Ann.snd an89f74io0001110))) rt89f74io0001110 (fun _ _ => none) rt89f74io0001110
noncomputable def xb89f74io0001110_5 (n : Nat × Nat) (SS : List Int → Int → Int → (List (Int × Int)) → Int → Int → Option R89f74io0001110) : Nat → St → Option R89f74io0001110 := fun j s => bif Nat.beq j 0 then normC [1000000000, 1000000001, 1000000002] s (kq89f74io0001110_3 n SS) else (fun _ _ => none) j s
noncomputable def F89f74io0001110_6 (n : Nat × Nat) (SS : List Int → Int → Int → (List (Int × Int)) → Int → Int → Option R89f74io0001110) : (St → Option R89f74io0001110) → St → Option R89f74io0001110 := fun K s => run (E89f74io0001110 n SS) (cA (cA (cB (cA (cB (cB c89f74io0001110)))))) (Ann.fst (Ann.fst (Ann.snd (Ann.fst (Ann.snd (Ann.snd an89f74io0001110)))))) (fun s => normC [0, 1, 2, 5, 6, 23, 24, 25, 47, 48, 49, 50, 51, 52, 53, 54, 55, 56, 57, 58, 59, 60, 1000000000, 1000000001, 1000000002] s K) (xb89f74io0001110_5 n SS) rt89f74io0001110 s
noncomputable def kq89f74io0001110_9 (n : Nat × Nat) (SS : List Int → Int → Int → (List (Int × Int)) → Int → Int → Option R89f74io0001110) (m1 : Nat) : St → Option R89f74io0001110 := run (E89f74io0001110 n SS) (cB (cB (cB (cA (cA (cB (cA (cB (cB c89f74io0001110))))))))) (Ann.snd (Ann.snd (Ann.snd (Ann.fst (Ann.fst (Ann.snd (Ann.fst (Ann.snd (Ann.snd an89f74io0001110))))))))) (fun s => normC [0, 1, 2, 5, 6, 23, 24, 25, 47, 48, 49, 50, 51, 52, 53, 54, 55, 56, 57, 58, 59, 60, 1000000000, 1000000001, 1000000002] s (loopN (F89f74io0001110_6 n SS) m1)) (xb89f74io0001110_5 n SS) rt89f74io0001110
noncomputable def L89f74io0001110_1 (n : Nat × Nat) (SS : List Int → Int → Int → (List (Int × Int)) → Int → Int → Option R89f74io0001110) (m : Nat) (order0 : List Int) (a1 : Int) (b2 : Int) (v23 : List (Int × Int)) (v24 : Int) (v25 : Int) (u2 : Int) (u0 : List (Int × Int)) (u1 : Int) : Option R89f74io0001110 := loopN (F89f74io0001110_6 n SS) m { tm := [.c (.sl (.int .i64) order0 false), .c (.int .i64 a1), .c (.int .i64 b2), uu, uu, .ptr 1000000002 0, .fptr 89 [.b 1000000000, .v 74 [1000000001], .b 1000000002, .s], uu, uu, uu, uu, uu, uu, uu, uu, uu, uu, uu, uu, uu, uu, uu, uu, .c (.sl (.pair (.int .i64) (.int .i64)) v23 false), .c (.int .i64 v24), .c (.int .i64 v25), uu, uu, uu, uu, uu, uu, uu, uu, uu, uu, uu, uu, uu, uu, uu, uu, uu, uu, uu, uu, uu, uu, uu, uu, uu, uu, uu, uu, uu, uu, uu, uu, uu, uu, uu, uu, uu], hp := (upd (upd (upd emp 1000000001 (.box [.int .i64 u1])) 1000000000 (.box [.sl (.pair (.int .i64) (.int .i64)) u0 false])) 1000000002 (.box [.int .i64 u2])) }
noncomputable def L89f74io0001110_2 (n : Nat × Nat) (SS : List Int → Int → Int → (List (Int × Int)) → Int → Int → Option R89f74io0001110) (m1 : Nat) (order0 : List Int) (a1 : Int) (b2 : Int) (v23 : List (Int × Int)) (v24 : Int) (v25 : Int) (u2 : Int) (u0 : List (Int × Int)) (u1 : Int) : Option R89f74io0001110 := loopN (fun _ => (kq89f74io0001110_9 n SS m1)) n.2 { tm := [.c (.sl (.int .i64) order0 false), .c (.int .i64 a1), .c (.int .i64 b2), uu, uu, .ptr 1000000002 0, .fptr 89 [.b 1000000000, .v 74 [1000000001], .b 1000000002, .s], uu, uu, uu, uu, uu, uu, uu, uu, uu, uu, uu, uu, uu, uu, uu, uu, .c (.sl (.pair (.int .i64) (.int .i64)) v23 false), .c (.int .i64 v24), .c (.int .i64 v25), uu, uu, uu, uu, uu, uu, uu, uu, uu, uu, uu, uu, uu, uu, uu, uu, uu, uu, uu, uu, uu, uu, uu, uu, uu, uu, uu, uu, uu, uu, uu, uu, uu, uu, uu, uu, uu], hp := (upd (upd (upd emp 1000000001 (.box [.int .i64 u1])) 1000000000 (.box [.sl (.pair (.int .i64) (.int .i64)) u0 false])) 1000000002 (.box [.int .i64 u2])) }
theorem L89f74io0001110_1_eq (n : Nat × Nat) (SS : List Int → Int → Int → (List (Int × Int)) → Int → Int → Option R89f74io0001110) (m1 : Nat) (order0 : List Int) (a1 : Int) (b2 : Int) (v23 : List (Int × Int)) (v24 : Int) (v25 : Int) (u2 : Int) (u0 : List (Int × Int)) (u1 : Int) : L89f74io0001110_1 n SS (m1 + 1) order0 a1 b2 v23 v24 v25 u2 u0 u1 =
 (bif decide (v25 < v24) then (idx v23 v25).bind fun x2' =>
 (S80 n order0 v25).bind fun r3' =>
 (bif r3' then L89f74io0001110_2 n SS m1 order0 a1 b2 v23 v24 v25 u2 u0 u1
 else (bif (decide (wr .i64 ((if b2 > (wr .i64 (a1 + x2'.1)) then b2 else (wr .i64 (a1 + x2'.1))) + x2'.2) ≤ u2) == true) then (bif ((order0.length : Int) == (order0.length : Int)) && bounds none (some (order0.length : Int)) (some (order0.length : Int)) order0.length then (bif decide ((order0.take (Int.toNat (order0.length : Int))).length + [v25].length ≤ lim) && ((order0.take (Int.toNat (order0.length : Int))).isEmpty || ![v25].isEmpty) then (SS ((order0.take (Int.toNat (order0.length : Int))) ++ [v25]) (wr .i64 (a1 + x2'.1)) (wr .i64 ((if b2 > (wr .i64 (a1 + x2'.1)) then b2 else (wr .i64 (a1 + x2'.1))) + x2'.2)) u0 u1 u2).bind fun r5' =>
 (bif (!r5'.1) then some (false, r5'.2.1, r5'.2.2.1, r5'.2.2.2.1, ())
 else L89f74io0001110_2 n SS m1 order0 a1 b2 v23 v24 v25 r5'.2.2.2.1 r5'.2.1 r5'.2.2.1)
 else none)
 else none)
 else (bif false then some (false, u0, u1, u2, ())
 else L89f74io0001110_2 n SS m1 order0 a1 b2 v23 v24 v25 u2 u0 u1)))
 else some (true, u0, u1, u2, ())) := by kernel_rfl
theorem L89f74io0001110_2_raw (n : Nat × Nat) (SS : List Int → Int → Int → (List (Int × Int)) → Int → Int → Option R89f74io0001110) (m1 : Nat) (order0 : List Int) (a1 : Int) (b2 : Int) (v23 : List (Int × Int)) (v24 : Int) (v25 : Int) (u2 : Int) (u0 : List (Int × Int)) (u1 : Int) : (kq89f74io0001110_9 n SS m1) { tm := [.c (.sl (.int .i64) order0 false), .c (.int .i64 a1), .c (.int .i64 b2), uu, uu, .ptr 1000000002 0, .fptr 89 [.b 1000000000, .v 74 [1000000001], .b 1000000002, .s], uu, uu, uu, uu, uu, uu, uu, uu, uu, uu, uu, uu, uu, uu, uu, uu, .c (.sl (.pair (.int .i64) (.int .i64)) v23 false), .c (.int .i64 v24), .c (.int .i64 v25), uu, uu, uu, uu, uu, uu, uu, uu, uu, uu, uu, uu, uu, uu, uu, uu, uu, uu, uu, uu, uu, uu, uu, uu, uu, uu, uu, uu, uu, uu, uu, uu, uu, uu, uu, uu, uu], hp := (upd (upd (upd emp 1000000001 (.box [.int .i64 u1])) 1000000000 (.box [.sl (.pair (.int .i64) (.int .i64)) u0 false])) 1000000002 (.box [.int .i64 u2])) } =
    L89f74io0001110_1 n SS m1 order0 a1 b2 v23 v24 (wr .i64 (v25 + 1)) u2 u0 u1 := by kernel_rfl
noncomputable def B89f74io0001110 (n : Nat × Nat) (SS : List Int → Int → Int → (List (Int × Int)) → Int → Int → Option R89f74io0001110) (order0 : List Int) (a1 : Int) (b2 : Int) (v3 : List (Int × Int)) (cp_4_0 : Int) (v5 : Int) : Option R89f74io0001110 := run (E89f74io0001110 n SS) c89f74io0001110 an89f74io0001110 rt89f74io0001110 (fun _ _ => none) rt89f74io0001110 { tm := [.c (.sl (.int .i64) order0 false), .c (.int .i64 a1), .c (.int .i64 b2), .ptr 1000000000 0, .fptr 74 [.b 1000000001], .ptr 1000000002 0, .fptr 89 [.b 1000000000, .v 74 [1000000001], .b 1000000002, .s], uu, uu, uu, uu, uu, uu, uu, uu, uu, uu, uu, uu, uu, uu, uu, uu, uu, uu, uu, uu, uu, uu, uu, uu, uu, uu, uu, uu, uu, uu, uu, uu, uu, uu, uu, uu, uu, uu, uu, uu, uu, uu, uu, uu, uu, uu, uu, uu, uu, uu, uu, uu, uu, uu, uu, uu], hp := (upd (upd (upd emp 1000000002 (.box [.int .i64 v5])) 1000000001 (.box [.int .i64 cp_4_0])) 1000000000 (.box [.sl (.pair (.int .i64) (.int .i64)) v3 false])) }
theorem B89f74io0001110_eq (n : Nat × Nat) (SS : List Int → Int → Int → (List (Int × Int)) → Int → Int → Option R89f74io0001110) (order0 : List Int) (a1 : Int) (b2 : Int) (v3 : List (Int × Int)) (cp_4_0 : Int) (v5 : Int) : B89f74io0001110 n SS order0 a1 b2 v3 cp_4_0 v5 =
 (bif ((order0.length : Int) == (v3.length : Int)) then (S74io01 n order0 cp_4_0).bind fun r1' =>
 some (r1'.1, v3, r1'.2.1, v5, ())
 else L89f74io0001110_1 n SS n.1 order0 a1 b2 v3 (v3.length : Int) 0 v5 v3 cp_4_0) := by kernel_rfl
noncomputable def T89f74io0001110 (n : Nat × Nat) : Nat → List Int → Int → Int → (List (Int × Int)) → Int → Int → Option R89f74io0001110
  | 0 => fun _ _ _ _ _ _ => none
  | d + 1 => B89f74io0001110 n (T89f74io0001110 n d)
theorem T89f74io0001110_eq (n : Nat × Nat) (d : Nat) (order0 : List Int) (a1 : Int) (b2 : Int) (v3 : List (Int × Int)) (cp_4_0 : Int) (v5 : Int) : T89f74io0001110 n (d + 1) order0 a1 b2 v3 cp_4_0 v5 = B89f74io0001110 n (T89f74io0001110 n d) order0 a1 b2 v3 cp_4_0 v5 := rfl
noncomputable def S89f74io0001110 (n : Nat × Nat) (order0 : List Int) (a1 : Int) (b2 : Int) (v3 : List (Int × Int)) (cp_4_0 : Int) (v5 : Int) : Option R89f74io0001110 := T89f74io0001110 n n.1 order0 a1 b2 v3 cp_4_0 v5
theorem B89f74io0001110_run (n : Nat × Nat) (SS : List Int → Int → Int → (List (Int × Int)) → Int → Int → Option R89f74io0001110) (xs : qksDen pk89f74io0001110) : B89f74io0001110 n SS xs.1 xs.2.1 xs.2.2.1 xs.2.2.2.1 xs.2.2.2.2.1.1 xs.2.2.2.2.2.1 = runG (E89f74io0001110 n SS) noScope c89f74io0001110 an89f74io0001110 (rtIO rk89f74io0001110 (pk89f74io0001110.flatMap QK.ods)) (fun _ _ => none) (rtIO rk89f74io0001110 (pk89f74io0001110.flatMap QK.ods)) (st1 pk89f74io0001110 xs Try.f89.ntmps) := by kernel_rfl
noncomputable def P89f74io0001110 (n : Nat × Nat) := phioOf pk89f74io0001110 rk89f74io0001110 (pk89f74io0001110.flatMap QK.ods) (fun xs => S89f74io0001110 n xs.1 xs.2.1 xs.2.2.1 xs.2.2.2.1 xs.2.2.2.2.1.1 xs.2.2.2.2.2.1)
theorem env89f74io0001110 (n : Nat × Nat) (SS : List Int → Int → Int → (List (Int × Int)) → Int → Int → Option R89f74io0001110) (hSS : FCios Try.prog 89 (pk89f74io0001110.map QK.flag) (phioOf pk89f74io0001110 rk89f74io0001110 (pk89f74io0001110.flatMap QK.ods) (fun xs => SS xs.1 xs.2.1 xs.2.2.1 xs.2.2.2.1 xs.2.2.2.2.1.1 xs.2.2.2.2.2.1))) : EnvOK Try.prog (E89f74io0001110 n SS) := envOK (l := io89f74io0001110 n SS) (consPhi_ok (FC80 n) call80 noPhi_ok) rfl rfl (by kernel_rfl) ⟨FC74io01 n, call74, hSS, call89, trivial⟩
theorem par89f74io0001110 (n : Nat × Nat) (SS : List Int → Int → Int → (List (Int × Int)) → Int → Int → Option R89f74io0001110) : EnvPar (E89f74io0001110 n SS) := envPar (l := io89f74io0001110 n SS) (consPhi_par phiOf_Par1 noPhi_par) rfl ⟨phioOf_Pario1, phioOf_Pario1, trivial⟩
theorem FCT89f74io0001110 (n : Nat × Nat) : ∀ d : Nat, FCios Try.prog 89 (pk89f74io0001110.map QK.flag) (phioOf pk89f74io0001110 rk89f74io0001110 (pk89f74io0001110.flatMap QK.ods) (fun xs => T89f74io0001110 n d xs.1 xs.2.1 xs.2.2.1 xs.2.2.2.1 xs.2.2.2.2.1.1 xs.2.2.2.2.2.1))
  | 0 => phioOf_FCios fun xs r h => by cases h
  | d + 1 => phioOf_FCios fun xs r h vs hv => FCio.of_runG tabOK eqsOK (env89f74io0001110 n (T89f74io0001110 n d) (FCT89f74io0001110 n d)) (par89f74io0001110 n (T89f74io0001110 n d)) mixed (fun _ p _ => noScope_ok p.1 p.2) Try.func89 (c := c89f74io0001110) (an := an89f74io0001110) (qks := pk89f74io0001110) (rks := rk89f74io0001110) (by kernel_rfl) (by kernel_rfl) hv ((B89f74io0001110_run n (T89f74io0001110 n d) xs).symm.trans h)
theorem FC89f74io0001110 (n : Nat × Nat) : FCios Try.prog 89 (pk89f74io0001110.map QK.flag) (P89f74io0001110 n) := FCT89f74io0001110 n n.1
abbrev R71c74io01 := (Unit) × Int × Unit
noncomputable def c71c74io01 : Code := bodyOf Try.f71
noncomputable def an71c74io01 : Ann := .l
def pk71c74io01 : List QK := [.pl (.c (.sl (.pair (.int .i64) (.int .i64)))), .of 74 [(.int .i64)]]
def rk71c74io01 : List RK := []
noncomputable def rt71c74io01 (st : St) : Option R71c74io01 := rtIO rk71c74io01 (pk71c74io01.flatMap QK.ods) st
noncomputable def io71c74io01 (n : Nat × Nat) : List IoE := [⟨89, (fun _ => true), pk89f74io0001110.map QK.flag, P89f74io0001110 n⟩]
noncomputable def E71c74io01 (n : Nat × Nat) : Env := { T := tab, phi := (consPhi 88 (fun _ => true) (P88 n) noPhi), eff := fun _ => false, fuel := n.1, hold := n.2, phio := phioL (io71c74io01 n), iop := iopL (io71c74io01 n) }
noncomputable def S71c74io01 (n : Nat × Nat) (sheets0 : List (Int × Int)) (cp_1_0 : Int) : Option R71c74io01 := run (E71c74io01 n) c71c74io01 an71c74io01 rt71c74io01 (fun _ _ => none) rt71c74io01 { tm := [.c (.sl (.pair (.int .i64) (.int .i64)) sheets0 false), .fn 74 [.ptr 1000000000 0], uu, uu, uu, uu, uu, uu, uu, uu, uu], hp := (upd emp 1000000000 (.box [.int .i64 cp_1_0])) }
theorem S71c74io01_eq (n : Nat × Nat) (sheets0 : List (Int × Int)) (cp_1_0 : Int) : S71c74io01 n sheets0 cp_1_0 =
 (S88 n sheets0).bind fun r1' =>
 (S89f74io0001110 n [] 0 0 sheets0 cp_1_0 r1').bind fun r2' =>
 some ((), r2'.2.2.1, ()) := by kernel_rfl
theorem S71c74io01_run (n : Nat × Nat) (xs : qksDen pk71c74io01) : S71c74io01 n xs.1 xs.2.1.1 = runG (E71c74io01 n) noScope c71c74io01 an71c74io01 (rtIO rk71c74io01 (pk71c74io01.flatMap QK.ods)) (fun _ _ => none) (rtIO rk71c74io01 (pk71c74io01.flatMap QK.ods)) (st1 pk71c74io01 xs Try.f71.ntmps) := by kernel_rfl
noncomputable def P71c74io01 (n : Nat × Nat) := phioOf pk71c74io01 rk71c74io01 (pk71c74io01.flatMap QK.ods) (fun xs => S71c74io01 n xs.1 xs.2.1.1)
theorem env71c74io01 (n : Nat × Nat) : EnvOK Try.prog (E71c74io01 n) := envOK (l := io71c74io01 n) (consPhi_ok (FC88 n) call88 noPhi_ok) rfl rfl (by kernel_rfl) ⟨FC89f74io0001110 n, call89, trivial⟩
theorem par71c74io01 (n : Nat × Nat) : EnvPar (E71c74io01 n) := envPar (l := io71c74io01 n) (consPhi_par phiOf_Par1 noPhi_par) rfl ⟨phioOf_Pario1, trivial⟩
theorem FC71c74io01 (n : Nat × Nat) : FCios Try.prog 71 (pk71c74io01.map QK.flag) (P71c74io01 n) := phioOf_FCios fun xs r h vs hv => FCio.of_runG tabOK eqsOK (env71c74io01 n) (par71c74io01 n) mixed (fun _ p _ => noScope_ok p.1 p.2) Try.func71 (c := c71c74io01) (an := an71c74io01) (qks := pk71c74io01) (rks := rk71c74io01) (by kernel_rfl) (by kernel_rfl) hv ((S71c74io01_run n xs).symm.trans h)
end Go.Proofs.Ytnlbhjmbaedadaa
