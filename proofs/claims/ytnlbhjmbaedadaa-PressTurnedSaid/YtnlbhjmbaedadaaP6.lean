/- Texts of this claim, joined: G31 to Pa. -/
import Derived.KernelRfl
import Derived.LoopIn
import Derived.LoopNIn
import Derived.Maps.AppendAt
import Derived.OwnWalkIn
import Derived.RangeFuncBound
import Derived.RangeFuncBox
import Derived.RangeFuncCalls
import Derived.RangeFuncLeaves
import Derived.RangeFuncNested
import Derived.Shelf.Abstract
import Derived.TacticsInMore
import Derived.Test.YtnlbhjmbaedadaaProg
import Derived.WalkKit
import Derived.Test.YtnlbhjmbaedadaaP5
set_option linter.unusedVariables false
set_option linter.unusedSimpArgs false
set_option maxRecDepth 100000
namespace Go.Proofs.Ytnlbhjmbaedadaa
open Go.Vi
abbrev R31 := Int × Int
noncomputable def c31 : Code := bodyOf Try.f31
noncomputable def an31 : Ann := (.s .l (.s (.s .l (.s .l (.j [0] .l .l))) .l))
def pk31 : List PK := [.c (.sl (.pair (.int .i64) (.int .i64)))]
def rk31 : List RK := [.c (.int .i64) 2, .c (.int .i64) 3]
noncomputable def rt31 (st : St) : Option R31 := rtG rk31 st
noncomputable def io31 (n : Nat × Nat) : List IoE := [⟨71, (isFns [none, some 74]), pk71c74io01.map QK.flag, P71c74io01 n⟩]
noncomputable def E31 (n : Nat × Nat) : Env := { T := tab, phi := (consPhi 25 (fun _ => true) (P25 n) noPhi), eff := fun _ => false, fuel := n.1, hold := n.2, phio := phioL (io31 n), iop := iopL (io31 n) }
noncomputable def S31 (n : Nat × Nat) (sheets0 : List (Int × Int)) : Option R31 := run (E31 n) c31 an31 rt31 (fun _ _ => none) rt31 { tm := [.c (.sl (.pair (.int .i64) (.int .i64)) sheets0 false), uu, uu, uu, uu, uu, uu, uu, uu, uu, uu, uu, uu, uu, uu], hp := emp }
theorem S31_eq (n : Nat × Nat) (sheets0 : List (Int × Int)) : S31 n sheets0 =
 (S25 n sheets0).bind fun r1' =>
 (bif (r1' != 0) then some (0, r1')
 else (S71c74io01 n sheets0 0).bind fun r2' =>
 some (r2'.2.1, 0)) := by kernel_rfl
theorem S31_run (n : Nat × Nat) (xs : pksDen pk31) : S31 n xs.1 = runG (E31 n) noScope c31 an31 (rtG rk31) (fun _ _ => none) (rtG rk31) (st0 pk31 xs Try.f31.ntmps) := by kernel_rfl
noncomputable def P31 (n : Nat × Nat) := phiOf pk31 rk31 (fun xs => S31 n xs.1)
theorem call31 : CallOK Try.prog 31 := callOK_of Try.func31 (by kernel_rfl) (by kernel_rfl)
theorem env31 (n : Nat × Nat) : EnvOK Try.prog (E31 n) := envOK (l := io31 n) (consPhi_ok (FC25 n) call25 noPhi_ok) rfl rfl (by kernel_rfl) ⟨FC71c74io01 n, call71, trivial⟩
theorem par31 (n : Nat × Nat) : EnvPar (E31 n) := envPar (l := io31 n) (consPhi_par phiOf_Par1 noPhi_par) rfl ⟨phioOf_Pario1, trivial⟩
theorem FC31 (n : Nat × Nat) : FCs Try.prog 31 (P31 n) := phiOf_FCs fun xs r h vs hv => FC.of_runG tabOK eqsOK (env31 n) (par31 n) mixed (fun _ p _ => noScope_ok p.1 p.2) Try.func31 (c := c31) (an := an31) (pks := pk31) (rks := rk31) (by kernel_rfl) (by kernel_rfl) hv ((S31_run n xs).symm.trans h)
abbrev R33 := Bool × Int
noncomputable def c33 : Code := bodyOf Try.f33
noncomputable def an33 : Ann := (.s .l (.s (.s .l (.j [0, 1, 2] (.s .l (.j [0, 1, 2] .l (.s .l (.j [0, 1, 2] .l .l)))) .l)) .l))
def pk33 : List PK := [.c (.sl (.pair (.int .i64) (.int .i64))), .c (.int .i64), .c (.int .i64)]
def rk33 : List RK := [.c .bool 6, .c (.int .i64) 7]
noncomputable def rt33 (st : St) : Option R33 := rtG rk33 st
noncomputable def E33 (n : Nat × Nat) : Env := { T := tab, phi := (consPhi 25 (fun _ => true) (P25 n) noPhi), eff := fun _ => false, fuel := n.1, hold := n.2 }
noncomputable def S33 (n : Nat × Nat) (sheets0 : List (Int × Int)) (i1 : Int) (j2 : Int) : Option R33 := run (E33 n) c33 an33 rt33 (fun _ _ => none) rt33 { tm := [.c (.sl (.pair (.int .i64) (.int .i64)) sheets0 false), .c (.int .i64 i1), .c (.int .i64 j2), uu, uu, uu, uu, uu, uu, uu, uu, uu, uu, uu, uu, uu, uu, uu, uu, uu, uu, uu, uu, uu, uu, uu, uu, uu, uu, uu, uu, uu, uu, uu, uu, uu, uu, uu, uu, uu, uu, uu, uu, uu, uu, uu, uu, uu, uu], hp := emp }
theorem S33_eq (n : Nat × Nat) (sheets0 : List (Int × Int)) (i1 : Int) (j2 : Int) : S33 n sheets0 i1 j2 =
 (S25 n sheets0).bind fun r1' =>
 (bif (r1' != 0) then some (false, r1')
 else ((bif (decide ((if j2 < i1 then j2 else i1) < 0) == false) then some (decide ((if j2 > i1 then j2 else i1) ≥ (sheets0.length : Int)))
 else some true)).bind fun b2' =>
 (bif b2' then some (false, 2)
 else (idx sheets0 i1).bind fun x3' =>
 (idx sheets0 j2).bind fun x4' =>
 some (decide ((if x4'.2 < x3'.1 then x4'.2 else x3'.1) ≤ (if x3'.2 < x4'.1 then x3'.2 else x4'.1)), 0))) := by kernel_rfl
theorem S33_run (n : Nat × Nat) (xs : pksDen pk33) : S33 n xs.1 xs.2.1 xs.2.2.1 = runG (E33 n) noScope c33 an33 (rtG rk33) (fun _ _ => none) (rtG rk33) (st0 pk33 xs Try.f33.ntmps) := by kernel_rfl
noncomputable def P33 (n : Nat × Nat) := phiOf pk33 rk33 (fun xs => S33 n xs.1 xs.2.1 xs.2.2.1)
theorem call33 : CallOK Try.prog 33 := callOK_of Try.func33 (by kernel_rfl) (by kernel_rfl)
theorem env33 (n : Nat × Nat) : EnvOK Try.prog (E33 n) := envOK0 (consPhi_ok (FC25 n) call25 noPhi_ok) rfl rfl
theorem par33 (n : Nat × Nat) : EnvPar (E33 n) := envPar0 (consPhi_par phiOf_Par1 noPhi_par) rfl
theorem FC33 (n : Nat × Nat) : FCs Try.prog 33 (P33 n) := phiOf_FCs fun xs r h vs hv => FC.of_runG tabOK eqsOK (env33 n) (par33 n) mixed (fun _ p _ => noScope_ok p.1 p.2) Try.func33 (c := c33) (an := an33) (pks := pk33) (rks := rk33) (by kernel_rfl) (by kernel_rfl) hv ((S33_run n xs).symm.trans h)
abbrev R75 := Int
noncomputable def c75 : Code := bodyOf Try.f75
noncomputable def an75 : Ann := (.s .l (.s .l (.s .l (.s (.s .l (.j [9] (.j [2, 7, 8, 9, 23, 24, 25] (.s .l (.s (.j [2, 7, 8, 9, 23, 24, 25] .l .l) (.j [] (.j [2, 7, 8, 9, 23, 24, 25] (.s .l (.s .l (.j [2, 7, 8, 9, 23, 24, 25] .l .l))) .l) .l))) .l) .l)) .l))))
def pk75 : List PK := [.c (.sl (.pair (.int .i64) (.int .i64))), .c (.int .i64), .c (.int .i64)]
def rk75 : List RK := [.c (.int .i64) 6]
noncomputable def rt75 (st : St) : Option R75 := rtG rk75 st
noncomputable def E75 (n : Nat × Nat) : Env := { T := tab, phi := (consPhi 64 (fun _ => true) (P64 n) noPhi), eff := fun _ => false, fuel := n.1, hold := n.2 }
noncomputable def kq75_1 (n : Nat × Nat) : St → Option R75 := run (E75 n) (cB (cB (cB (cB c75)))) (Ann.snd (Ann.snd (Ann.snd (Ann.snd an75)))) rt75 (fun _ _ => none) rt75
noncomputable def xb75_3 (n : Nat × Nat) : Nat → St → Option R75 := fun j s => bif Nat.beq j 0 then normC [9] s (kq75_1 n) else (fun _ _ => none) j s
noncomputable def F75_4 (n : Nat × Nat) : (St → Option R75) → St → Option R75 := fun K s => run (E75 n) (cA (cA (cB (cA (cB (cB (cB c75))))))) (Ann.fst (Ann.fst (Ann.snd (Ann.fst (Ann.snd (Ann.snd (Ann.snd an75))))))) (fun s => normC [2, 7, 8, 9, 23, 24, 25] s K) (xb75_3 n) rt75 s
noncomputable def kq75_7 (n : Nat × Nat) (m1 : Nat) : St → Option R75 := run (E75 n) (cB (cB (cB (cA (cA (cB (cA (cB (cB (cB c75)))))))))) (Ann.snd (Ann.snd (Ann.snd (Ann.fst (Ann.fst (Ann.snd (Ann.fst (Ann.snd (Ann.snd (Ann.snd an75)))))))))) (fun s => normC [2, 7, 8, 9, 23, 24, 25] s (loopN (F75_4 n) m1)) (xb75_3 n) rt75
noncomputable def L75_1 (n : Nat × Nat) (m : Nat) (k2 : Int) (v9 : Int) (v24 : Int) (v25 : Int) (own7 : List Int) (other8 : List Int) : Option R75 := loopN (F75_4 n) m { tm := [uu, uu, .c (.int .i64 k2), uu, uu, uu, uu, .own 7 none false, .own 8 none false, .c (.int .i64 v9), uu, uu, uu, uu, uu, uu, uu, uu, uu, uu, uu, uu, uu, .own 7 none false, .c (.int .i64 v24), .c (.int .i64 v25), uu, uu, uu, uu, uu, uu, uu, uu, uu, uu, uu, uu, uu, uu, uu, uu, uu, uu, uu, uu, uu, uu, uu, uu, uu, uu], hp := (upd (upd emp 8 (.arr (.int .i64) other8 false)) 7 (.arr (.int .i64) own7 false)) }
noncomputable def L75_2 (n : Nat × Nat) (m1 : Nat) (k2 : Int) (v9 : Int) (v24 : Int) (v25 : Int) (own7 : List Int) (other8 : List Int) : Option R75 := loopN (fun _ => (kq75_7 n m1)) n.2 { tm := [uu, uu, .c (.int .i64 k2), uu, uu, uu, uu, .own 7 none false, .own 8 none false, .c (.int .i64 v9), uu, uu, uu, uu, uu, uu, uu, uu, uu, uu, uu, uu, uu, .own 7 none false, .c (.int .i64 v24), .c (.int .i64 v25), uu, uu, uu, uu, uu, uu, uu, uu, uu, uu, uu, uu, uu, uu, uu, uu, uu, uu, uu, uu, uu, uu, uu, uu, uu, uu], hp := (upd (upd emp 8 (.arr (.int .i64) other8 false)) 7 (.arr (.int .i64) own7 false)) }
theorem L75_1_eq (n : Nat × Nat) (m1 : Nat) (k2 : Int) (v9 : Int) (v24 : Int) (v25 : Int) (own7 : List Int) (other8 : List Int) : L75_1 n (m1 + 1) k2 v9 v24 v25 own7 other8 =
 (bif decide (v25 < v24) then (bif inB v25 own7.length then (idx own7 v25).bind fun x4' =>
 (bif inB k2 own7.length then (idx own7 k2).bind fun x5' =>
 (bif decide (x4' < x5') then (bif inB v25 other8.length then (idx other8 v25).bind fun x6' =>
              L75_2 n m1 k2 (wr .i64 (v9 + (if x6' < x4' then x6' else x4'))) v24 v25 own7 other8
 else none)
 else (bif inB v25 other8.length then (idx other8 v25).bind fun x7' =>
              L75_2 n m1 k2 (wr .i64 (v9 + x7')) v24 v25 own7 other8
 else none))
 else none)
 else none)
 else some v9) := by kernel_rfl
theorem L75_2_raw (n : Nat × Nat) (m1 : Nat) (k2 : Int) (v9 : Int) (v24 : Int) (v25 : Int) (own7 : List Int) (other8 : List Int) : (kq75_7 n m1) { tm := [uu, uu, .c (.int .i64 k2), uu, uu, uu, uu, .own 7 none false, .own 8 none false, .c (.int .i64 v9), uu, uu, uu, uu, uu, uu, uu, uu, uu, uu, uu, uu, uu, .own 7 none false, .c (.int .i64 v24), .c (.int .i64 v25), uu, uu, uu, uu, uu, uu, uu, uu, uu, uu, uu, uu, uu, uu, uu, uu, uu, uu, uu, uu, uu, uu, uu, uu, uu, uu], hp := (upd (upd emp 8 (.arr (.int .i64) other8 false)) 7 (.arr (.int .i64) own7 false)) } =
    L75_1 n m1 k2 v9 v24 (wr .i64 (v25 + 1)) own7 other8 := by kernel_rfl
noncomputable def S75 (n : Nat × Nat) (sheets0 : List (Int × Int)) (machine1 : Int) (k2 : Int) : Option R75 := run (E75 n) c75 an75 rt75 (fun _ _ => none) rt75 { tm := [.c (.sl (.pair (.int .i64) (.int .i64)) sheets0 false), .c (.int .i64 machine1), .c (.int .i64 k2), uu, uu, uu, uu, uu, uu, uu, uu, uu, uu, uu, uu, uu, uu, uu, uu, uu, uu, uu, uu, uu, uu, uu, uu, uu, uu, uu, uu, uu, uu, uu, uu, uu, uu, uu, uu, uu, uu, uu, uu, uu, uu, uu, uu, uu, uu, uu, uu, uu], hp := emp }
theorem S75_eq (n : Nat × Nat) (sheets0 : List (Int × Int)) (machine1 : Int) (k2 : Int) : S75 n sheets0 machine1 k2 =
 (S64 n sheets0 machine1).bind fun r1' =>
 (S64 n sheets0 (wr .i64 (1 - machine1))).bind fun r2' =>
 (bif inB k2 r1'.length then (idx r1' k2).bind fun x3' =>
      L75_1 n n.1 k2 x3' (r1'.length : Int) 0 r1' r2'
 else none) := by kernel_rfl
theorem S75_run (n : Nat × Nat) (xs : pksDen pk75) : S75 n xs.1 xs.2.1 xs.2.2.1 = runG (E75 n) noScope c75 an75 (rtG rk75) (fun _ _ => none) (rtG rk75) (st0 pk75 xs Try.f75.ntmps) := by kernel_rfl
noncomputable def P75 (n : Nat × Nat) := phiOf pk75 rk75 (fun xs => S75 n xs.1 xs.2.1 xs.2.2.1)
theorem call75 : CallOK Try.prog 75 := callOK_of Try.func75 (by kernel_rfl) (by kernel_rfl)
theorem env75 (n : Nat × Nat) : EnvOK Try.prog (E75 n) := envOK0 (consPhi_ok (FC64 n) call64 noPhi_ok) rfl rfl
theorem par75 (n : Nat × Nat) : EnvPar (E75 n) := envPar0 (consPhi_par phiOf_Par1 noPhi_par) rfl
theorem FC75 (n : Nat × Nat) : FCs Try.prog 75 (P75 n) := phiOf_FCs fun xs r h vs hv => FC.of_runG tabOK eqsOK (env75 n) (par75 n) mixed (fun _ p _ => noScope_ok p.1 p.2) Try.func75 (c := c75) (an := an75) (pks := pk75) (rks := rk75) (by kernel_rfl) (by kernel_rfl) hv ((S75_run n xs).symm.trans h)
abbrev R35 := Int × Int
noncomputable def c35 : Code := bodyOf Try.f35
noncomputable def an35 : Ann := (.s .l (.s (.s .l (.j [0, 1, 2] (.s .l (.j [0, 1, 2] .l (.s .l (.j [0, 1, 2] .l .l)))) .l)) .l))
def pk35 : List PK := [.c (.sl (.pair (.int .i64) (.int .i64))), .c (.int .i64), .c (.int .i64)]
def rk35 : List RK := [.c (.int .i64) 6, .c (.int .i64) 7]
noncomputable def rt35 (st : St) : Option R35 := rtG rk35 st
noncomputable def E35 (n : Nat × Nat) : Env := { T := tab, phi := (consPhi 25 (fun _ => true) (P25 n) (consPhi 75 (fun _ => true) (P75 n) noPhi)), eff := fun _ => false, fuel := n.1, hold := n.2 }
noncomputable def S35 (n : Nat × Nat) (sheets0 : List (Int × Int)) (machine1 : Int) (k2 : Int) : Option R35 := run (E35 n) c35 an35 rt35 (fun _ _ => none) rt35 { tm := [.c (.sl (.pair (.int .i64) (.int .i64)) sheets0 false), .c (.int .i64 machine1), .c (.int .i64 k2), uu, uu, uu, uu, uu, uu, uu, uu, uu, uu, uu, uu, uu, uu, uu, uu, uu, uu, uu, uu, uu, uu, uu, uu, uu, uu, uu, uu, uu, uu, uu, uu, uu], hp := emp }
theorem S35_eq (n : Nat × Nat) (sheets0 : List (Int × Int)) (machine1 : Int) (k2 : Int) : S35 n sheets0 machine1 k2 =
 (S25 n sheets0).bind fun r1' =>
 (bif (r1' != 0) then some (0, r1')
 else ((bif (decide (machine1 < 0) == false) then some (decide (machine1 > 1))
 else some true)).bind fun b2' =>
 ((bif (b2' == false) then some (decide (k2 < 0))
 else some true)).bind fun b3' =>
 ((bif (b3' == false) then some (decide (k2 ≥ (sheets0.length : Int)))
 else some true)).bind fun b4' =>
 (bif b4' then some (0, 2)
 else (S75 n sheets0 machine1 k2).bind fun r5' =>
 some (r5', 0))) := by kernel_rfl
theorem S35_run (n : Nat × Nat) (xs : pksDen pk35) : S35 n xs.1 xs.2.1 xs.2.2.1 = runG (E35 n) noScope c35 an35 (rtG rk35) (fun _ _ => none) (rtG rk35) (st0 pk35 xs Try.f35.ntmps) := by kernel_rfl
noncomputable def P35 (n : Nat × Nat) := phiOf pk35 rk35 (fun xs => S35 n xs.1 xs.2.1 xs.2.2.1)
theorem call35 : CallOK Try.prog 35 := callOK_of Try.func35 (by kernel_rfl) (by kernel_rfl)
theorem env35 (n : Nat × Nat) : EnvOK Try.prog (E35 n) := envOK0 (consPhi_ok (FC25 n) call25 (consPhi_ok (FC75 n) call75 noPhi_ok)) rfl rfl
theorem par35 (n : Nat × Nat) : EnvPar (E35 n) := envPar0 (consPhi_par phiOf_Par1 (consPhi_par phiOf_Par1 noPhi_par)) rfl
theorem FC35 (n : Nat × Nat) : FCs Try.prog 35 (P35 n) := phiOf_FCs fun xs r h vs hv => FC.of_runG tabOK eqsOK (env35 n) (par35 n) mixed (fun _ p _ => noScope_ok p.1 p.2) Try.func35 (c := c35) (an := an35) (pks := pk35) (rks := rk35) (by kernel_rfl) (by kernel_rfl) hv ((S35_run n xs).symm.trans h)
abbrev R37 := Int × Int × Int
noncomputable def c37 : Code := bodyOf Try.f37
noncomputable def an37 : Ann := (.s .l (.s (.s .l (.s .l (.j [0, 2, 3] .l .l))) (.s .l (.s (.s .l (.j [2, 3] (.j [0, 2, 3, 6, 15] (.s .l (.s (.j [0, 2, 3, 6, 15] .l .l) (.s (.j [0, 2, 3, 6, 15] (.s .l (.s .l (.j [0, 2, 3, 6, 15] (.j [0, 2, 3, 6, 7, 15, 19, 20] (.s .l (.s (.j [0, 2, 3, 6, 7, 15, 19, 20] .l .l) (.j [] (.j [0, 2, 3, 6, 7, 15, 19, 20] (.s .l (.s .l (.s .l (.j [0, 2, 3, 6, 7, 15, 19, 20] .l .l)))) .l) .l))) .l) .l))) .l) .l))) .l) .l)) .l))))
def pk37 : List PK := [.c (.sl (.pair (.int .i64) (.int .i64)))]
def rk37 : List RK := [.c (.int .i64) 2, .c (.int .i64) 3, .c (.int .i64) 4]
noncomputable def rt37 (st : St) : Option R37 := rtG rk37 st
noncomputable def E37 (n : Nat × Nat) : Env := { T := tab, phi := (consPhi 25 (fun _ => true) (P25 n) (consPhi 75 (fun _ => true) (P75 n) noPhi)), eff := fun _ => false, fuel := n.1, hold := n.2 }
noncomputable def kq37_3 (n : Nat × Nat) : St → Option R37 := run (E37 n) (cB (cB (cB (cB c37)))) (Ann.snd (Ann.snd (Ann.snd (Ann.snd an37)))) rt37 (fun _ _ => none) rt37
noncomputable def xb37_5 (n : Nat × Nat) : Nat → St → Option R37 := fun j s => bif Nat.beq j 0 then normC [2, 3] s (kq37_3 n) else (fun _ _ => none) j s
noncomputable def F37_6 (n : Nat × Nat) : (St → Option R37) → St → Option R37 := fun K s => run (E37 n) (cA (cA (cB (cA (cB (cB (cB c37))))))) (Ann.fst (Ann.fst (Ann.snd (Ann.fst (Ann.snd (Ann.snd (Ann.snd an37))))))) (fun s => normC [0, 2, 3, 6, 15] s K) (xb37_5 n) rt37 s
noncomputable def kq37_9 (n : Nat × Nat) (m1 : Nat) : St → Option R37 := run (E37 n) (cB (cB (cB (cA (cA (cB (cA (cB (cB (cB c37)))))))))) (Ann.snd (Ann.snd (Ann.snd (Ann.fst (Ann.fst (Ann.snd (Ann.fst (Ann.snd (Ann.snd (Ann.snd an37)))))))))) (fun s => normC [0, 2, 3, 6, 15] s (loopN (F37_6 n) m1)) (xb37_5 n) rt37
noncomputable def kc37_10 (n : Nat × Nat) (m1 : Nat) : St → Option R37 := fun s => normC [0, 2, 3, 6, 15] s (kq37_9 n m1)
noncomputable def xb37_11 (n : Nat × Nat) (m1 : Nat) : Nat → St → Option R37 := fun j s => bif Nat.beq j 1 then normC [0, 2, 3, 6, 15] s (kq37_9 n m1) else (xb37_5 n) j s
noncomputable def xb37_13 (n : Nat × Nat) (m1 : Nat) : Nat → St → Option R37 := fun j s => bif Nat.beq j 2 then normC [0, 2, 3, 6, 15] s (kc37_10 n m1) else (xb37_11 n m1) j s
noncomputable def F37_14 (n : Nat × Nat) (m1 : Nat) : (St → Option R37) → St → Option R37 := fun K s => run (E37 n) (cA (cA (cB (cB (cA (cA (cB (cB (cA (cA (cB (cA (cB (cB (cB c37))))))))))))))) (Ann.fst (Ann.fst (Ann.snd (Ann.snd (Ann.fst (Ann.fst (Ann.snd (Ann.snd (Ann.fst (Ann.fst (Ann.snd (Ann.fst (Ann.snd (Ann.snd (Ann.snd an37))))))))))))))) (fun s => normC [0, 2, 3, 6, 7, 15, 19, 20] s K) (xb37_13 n m1) rt37 s
noncomputable def kq37_17 (n : Nat × Nat) (m1 m2 : Nat) : St → Option R37 := run (E37 n) (cB (cB (cB (cA (cA (cB (cB (cA (cA (cB (cB (cA (cA (cB (cA (cB (cB (cB c37)))))))))))))))))) (Ann.snd (Ann.snd (Ann.snd (Ann.fst (Ann.fst (Ann.snd (Ann.snd (Ann.fst (Ann.fst (Ann.snd (Ann.snd (Ann.fst (Ann.fst (Ann.snd (Ann.fst (Ann.snd (Ann.snd (Ann.snd an37)))))))))))))))))) (fun s => normC [0, 2, 3, 6, 7, 15, 19, 20] s (loopN (F37_14 n m1) m2)) (xb37_13 n m1) rt37
noncomputable def L37_1 (n : Nat × Nat) (m : Nat) (sheets0 : List (Int × Int)) (machine2 : Int) (k3 : Int) (best6 : Int) (v15 : Int) : Option R37 := loopN (F37_6 n) m { tm := [.c (.sl (.pair (.int .i64) (.int .i64)) sheets0 false), uu, .c (.int .i64 machine2), .c (.int .i64 k3), uu, uu, .c (.int .i64 best6), uu, uu, uu, uu, uu, uu, uu, uu, .c (.int .i64 v15), uu, uu, uu, uu, uu, uu, uu, uu, uu, uu, uu, uu, uu, uu, uu, uu, uu, uu, uu, uu, uu], hp := emp }
noncomputable def L37_2 (n : Nat × Nat) (m1 : Nat) (m : Nat) (sheets0 : List (Int × Int)) (machine2 : Int) (k3 : Int) (best6 : Int) (m7 : Int) (v15 : Int) (v19 : Int) (v20 : Int) : Option R37 := loopN (F37_14 n m1) m { tm := [.c (.sl (.pair (.int .i64) (.int .i64)) sheets0 false), uu, .c (.int .i64 machine2), .c (.int .i64 k3), uu, uu, .c (.int .i64 best6), .c (.int .i64 m7), uu, uu, uu, uu, uu, uu, uu, .c (.int .i64 v15), uu, uu, uu, .c (.int .i64 v19), .c (.int .i64 v20), uu, uu, uu, uu, uu, uu, uu, uu, uu, uu, uu, uu, uu, uu, uu, uu], hp := emp }
noncomputable def L37_3 (n : Nat × Nat) (m1 m2 : Nat) (sheets0 : List (Int × Int)) (machine2 : Int) (k3 : Int) (best6 : Int) (m7 : Int) (v15 : Int) (v19 : Int) (v20 : Int) : Option R37 := loopN (fun _ => (kq37_17 n m1 m2)) n.2 { tm := [.c (.sl (.pair (.int .i64) (.int .i64)) sheets0 false), uu, .c (.int .i64 machine2), .c (.int .i64 k3), uu, uu, .c (.int .i64 best6), .c (.int .i64 m7), uu, uu, uu, uu, uu, uu, uu, .c (.int .i64 v15), uu, uu, uu, .c (.int .i64 v19), .c (.int .i64 v20), uu, uu, uu, uu, uu, uu, uu, uu, uu, uu, uu, uu, uu, uu, uu, uu], hp := emp }
theorem L37_1_eq (n : Nat × Nat) (m1 : Nat) (sheets0 : List (Int × Int)) (machine2 : Int) (k3 : Int) (best6 : Int) (v15 : Int) : L37_1 n (m1 + 1) sheets0 machine2 k3 best6 v15 =
 (bif decide (v15 < 2) then L37_2 n m1 n.1 sheets0 machine2 k3 best6 v15 v15 (sheets0.length : Int) 0
 else some (machine2, k3, 0)) := by kernel_rfl
theorem L37_2_eq (n : Nat × Nat) (m1 m2 : Nat) (sheets0 : List (Int × Int)) (machine2 : Int) (k3 : Int) (best6 : Int) (m7 : Int) (v15 : Int) (v19 : Int) (v20 : Int) : L37_2 n m1 (m2 + 1) sheets0 machine2 k3 best6 m7 v15 v19 v20 =
 (bif decide (v20 < v19) then (S75 n sheets0 m7 v20).bind fun r2' =>
 (bif decide (r2' > best6) then L37_3 n m1 m2 sheets0 m7 v20 r2' m7 v15 v19 v20
 else L37_3 n m1 m2 sheets0 machine2 k3 best6 m7 v15 v19 v20)
 else L37_1 n m1 sheets0 machine2 k3 best6 (wr .i64 (v15 + 1))) := by kernel_rfl
theorem L37_3_raw (n : Nat × Nat) (m1 m2 : Nat) (sheets0 : List (Int × Int)) (machine2 : Int) (k3 : Int) (best6 : Int) (m7 : Int) (v15 : Int) (v19 : Int) (v20 : Int) : (kq37_17 n m1 m2) { tm := [.c (.sl (.pair (.int .i64) (.int .i64)) sheets0 false), uu, .c (.int .i64 machine2), .c (.int .i64 k3), uu, uu, .c (.int .i64 best6), .c (.int .i64 m7), uu, uu, uu, uu, uu, uu, uu, .c (.int .i64 v15), uu, uu, uu, .c (.int .i64 v19), .c (.int .i64 v20), uu, uu, uu, uu, uu, uu, uu, uu, uu, uu, uu, uu, uu, uu, uu, uu], hp := emp } =
    L37_2 n m1 m2 sheets0 machine2 k3 best6 m7 v15 v19 (wr .i64 (v20 + 1)) := by kernel_rfl
noncomputable def S37 (n : Nat × Nat) (sheets0 : List (Int × Int)) : Option R37 := run (E37 n) c37 an37 rt37 (fun _ _ => none) rt37 { tm := [.c (.sl (.pair (.int .i64) (.int .i64)) sheets0 false), uu, uu, uu, uu, uu, uu, uu, uu, uu, uu, uu, uu, uu, uu, uu, uu, uu, uu, uu, uu, uu, uu, uu, uu, uu, uu, uu, uu, uu, uu, uu, uu, uu, uu, uu, uu], hp := emp }
theorem S37_eq (n : Nat × Nat) (sheets0 : List (Int × Int)) : S37 n sheets0 =
 (S25 n sheets0).bind fun r1' =>
 (bif (r1' != 0) then some (0, 0, r1')
 else L37_1 n n.1 sheets0 0 0 (-1) 0) := by kernel_rfl
theorem S37_run (n : Nat × Nat) (xs : pksDen pk37) : S37 n xs.1 = runG (E37 n) noScope c37 an37 (rtG rk37) (fun _ _ => none) (rtG rk37) (st0 pk37 xs Try.f37.ntmps) := by kernel_rfl
noncomputable def P37 (n : Nat × Nat) := phiOf pk37 rk37 (fun xs => S37 n xs.1)
theorem call37 : CallOK Try.prog 37 := callOK_of Try.func37 (by kernel_rfl) (by kernel_rfl)
theorem env37 (n : Nat × Nat) : EnvOK Try.prog (E37 n) := envOK0 (consPhi_ok (FC25 n) call25 (consPhi_ok (FC75 n) call75 noPhi_ok)) rfl rfl
theorem par37 (n : Nat × Nat) : EnvPar (E37 n) := envPar0 (consPhi_par phiOf_Par1 (consPhi_par phiOf_Par1 noPhi_par)) rfl
theorem FC37 (n : Nat × Nat) : FCs Try.prog 37 (P37 n) := phiOf_FCs fun xs r h vs hv => FC.of_runG tabOK eqsOK (env37 n) (par37 n) mixed (fun _ p _ => noScope_ok p.1 p.2) Try.func37 (c := c37) (an := an37) (pks := pk37) (rks := rk37) (by kernel_rfl) (by kernel_rfl) hv ((S37_run n xs).symm.trans h)
end Go.Proofs.Ytnlbhjmbaedadaa
set_option linter.unusedVariables false
set_option linter.unusedSimpArgs false
set_option maxRecDepth 100000
namespace Go.Proofs.Ytnlbhjmbaedadaa
open Go.RowKit Go.Shelf
section
attribute [local go_sem] Oper.semAt_some
/-- What a round keeps: what lay below n₀, and the box that holds the slice. -/
def KpB (n₀ Bs : Nat) (W W' : World) : Prop := Below n₀ W W' ∧ W'.heap[Bs]? = W.heap[Bs]?
theorem KpB.refl (n₀ Bs : Nat) (W : World) : KpB n₀ Bs W W := ⟨Below.refl _ _, rfl⟩
theorem KpB.trans {n₀ Bs : Nat} {A B C : World} (h : KpB n₀ Bs A B) (k : KpB n₀ Bs B C) : KpB n₀ Bs A C := ⟨h.1.trans k.1, k.2.trans h.2⟩
/-- A pair of numbers is read. -/
theorem run_load_pair (w : World) (b o : Nat) (x y : Int) (h1 : w.cell? ⟨b, o, none⟩ = some (.int .i64 x)) (h2 : w.cell? ⟨b, o + 1, none⟩ = some (.int .i64 y)) :
    (Instr.loadAt 58 (.pointer (some ⟨b, o, none⟩))).run Try.prog w = .ok (.agg #[.int .i64 x, .int .i64 y]) w := by
  obtain ⟨i, d, z, hi, hd, hsz, hby, hz, hzz, ha⟩ := (Go.Vi.TabOK.sh tabOK 58 (.pair (.int .i64) (.int .i64)) (by kernel_rfl)).base.ex
  have hc := run_loadCells_list (P := Try.prog) w ⟨b, o, none⟩ [.int .i64 x, .int .i64 y] (fun j v hj => by
    rw [Go.Vi.add_eq]
    match j, hj with
    | 0, hj => cases hj; exact h1
    | 1, hj => cases hj; exact h2)
  have ha : Go.Vi.isAggD d = true := ha
  have hsz : i.size = 2 := hsz
  simp only [Instr.loadAt, Instr.sureAddr, loadVar, Sem.run_bind, Sem.run_pure, Result.andThen_ok, Go.Vi.run_isAgg hd, ha, if_true, Go.Vi.run_sizeOf' hi, hsz]
  simp only [List.length_cons, List.length_nil, Nat.reduceAdd] at hc
  rw [hc]
  rfl
set_option maxHeartbeats 2000000 in
/-- The closure of slices.Backward: J k holds when the elements from k on have come. -/
theorem backN_in (F : Fence) (n : Nat) (hC : F.fn 92) (hro : F.round = none) (hn : 1 ≤ n) (l Bs n₀ b off cap : Nat) (zs : List (Int × Int)) (hreach : zs.length * 16 ≤ 140737488351232) (hb : b < n₀) (J : Nat → World → Prop)
    (hY : ∀ k (hk : k < zs.length) W, J (k + 1) W → YieldAt F (n - 1) Try.prog l #[.int .i64 (k : Int), .agg #[.int .i64 zs[k].1, .int .i64 zs[k].2]] W fun e W' => e = .returned (.bool true) ∧ J k W' ∧ KpB n₀ Bs W W')
    (W : World) (hBs : W.cell? ⟨Bs, 0, none⟩ = some (.slice (some ⟨b, off, none⟩) zs.length cap)) (hc : ∀ j (h : j < zs.length), W.cell? ⟨b, off + j * 2, none⟩ = some (.int .i64 zs[j].1) ∧ W.cell? ⟨b, off + j * 2 + 1, none⟩ = some (.int .i64 zs[j].2)) (h0 : J zs.length W) :
    CallsIn F n Try.prog 92 #[.func (.yield l) #[] #[], .pointer (some ⟨Bs, 0, none⟩)] W fun e W' => (∃ v, e = .returned v) ∧ J 0 W' := by
  refine callsIn_of_wp Try.func92 rfl hC ?_ hro
  simp only [Try.ntmps92, List.size_toArray, List.length_cons, List.length_nil, Nat.reduceAdd, Nat.reduceSub, Array.replicate_succ, Array.replicate_zero, List.push_toArray, List.append_toArray, List.nil_append, List.cons_append]
  gi_wp2
  gi_loopw [3] (fun i wr => (∃ k : Nat, k < zs.length ∧ i = .int .i64 k ∧ J (k + 1) wr ∧ KpB n₀ Bs W wr) ∨ (i = .int .i64 (-1) ∧ J 0 wr ∧ KpB n₀ Bs W wr))
    (fun i _ => (intOf i + 1).toNat)
  case atStart =>
    rcases Nat.eq_zero_or_pos zs.length with h | h
    · exact .inr ⟨by simp [h], by rw [h] at h0; exact h0, KpB.refl _ _ _⟩
    · exact .inl ⟨zs.length - 1, by omega, by congr 1; omega, by rw [show zs.length - 1 + 1 = zs.length by omega]; exact h0, KpB.refl _ _ _⟩
  case round =>
    rcases hrel with ⟨k, hk, rfl, hJs, hnx⟩ | ⟨rfl, hJs, hnx⟩
    · have hcx := (hnx.1.cell (p := ⟨b, off + k * 2, none⟩) hb).trans (hc k hk).1
      have hcy := (hnx.1.cell (p := ⟨b, off + k * 2 + 1, none⟩) hb).trans (hc k hk).2
      have hld := run_load_pair wr b (off + k * 2) _ _ hcx hcy
      have hBs' : wr.cell? ⟨Bs, 0, none⟩ = some (.slice (some ⟨b, off, none⟩) zs.length cap) := by rw [← hBs]; simp only [World.cell?, hnx.2]
      obtain ⟨fn, tmps, assign, body, hy, hR⟩ := hY k hk wr hJs
      gi_wp2
      refine hR.mono ?_
      rintro e W3 ⟨rfl, hJ3, hk3⟩
      gi_wp2
      go_roundw
      case rel =>
        cases k with
        | zero => exact .inr ⟨by simp, hJ3, hnx.trans hk3⟩
        | succ k => exact .inl ⟨k, by omega, by congr 1; omega, hJ3, hnx.trans hk3⟩
      case measure => simp [intOf]
    · gi_wp2
      go_end0
      exact ⟨⟨_, rfl⟩, hJs⟩
end
set_option maxHeartbeats 1000000 in
/-- slices.Backward(s): the slice value is boxed; the function value captures the box. -/
theorem back_in (F : Fence) (n : Nat) (hB : F.fn 77) (hro : F.round = none) (a : Option Addr) (len cap : Nat) (w : World) :
    CallsIn F n Try.prog 77 #[.slice a len cap] w fun e w' => e = .returned (.func (.func 92) #[] #[.pointer (some ⟨w.heap.size, 0, none⟩)]) ∧ w' = w.alloc (.cells #[.slice a len cap] 22) := by
  refine callsIn_of_wp Try.func77 rfl hB ?_ hro
  simp only [Try.ntmps77, List.size_toArray, List.length_cons, List.length_nil, Nat.reduceAdd, Nat.reduceSub, Array.replicate_succ, Array.replicate_zero, List.push_toArray, List.append_toArray, List.nil_append, List.cons_append]
  gi_wp2
  go_ret
  exact ⟨rfl, rfl⟩
/-- How a body that is never left must end. -/
def nrmW (R : World → Prop) : Exit → Act → World → Prop
  | .normal, _, w => R w
  | _, _, _ => False
/-- A loop over slices.Backward, its rounds in their order. -/
theorem rangeBack {F : Fence} {n : Nat} (hro : F.round = none) (hn : 2 ≤ n) (h92 : F.fn 92) {g : Operand} {ps : Array Tmp} {assign body : Code} {Q : Exit → Act → World → Prop} {a : Act} {w : World}
    {Bs n₀ b off cap : Nat} {zs : List (Int × Int)} (hreach : zs.length * 16 ≤ 140737488351232) (hg : a.eval g = .func (.func 92) #[] #[.pointer (some ⟨Bs, 0, none⟩)]) (hps : ps.size = 2) (hb : b < n₀) (hn₀ : n₀ ≤ w.heap.size) (hBl : Bs < w.heap.size)
    (hBs : w.cell? ⟨Bs, 0, none⟩ = some (.slice (some ⟨b, off, none⟩) zs.length cap)) (hc : ∀ j (h : j < zs.length), w.cell? ⟨b, off + j * 2, none⟩ = some (.int .i64 zs[j].1) ∧ w.cell? ⟨b, off + j * 2 + 1, none⟩ = some (.int .i64 zs[j].2))
    (I : Nat → World → Prop) (hI : OwnFrom w.heap.size I) (h0 : I zs.length w) (a₁ : Fin zs.length → Nat → Act) (asg : Fin zs.length → World → World)
    (I2 : Nat → Nat → World → Prop) (hI2 : ∀ p, OwnFrom w.heap.size (fun k => I2 k p)) (hasg : ∀ (k : Nat) (hk : k < zs.length) (W : World), w.heap.size ≤ W.heap.size → I (k + 1) W → KeepsFrom w.heap.size W (asg ⟨k, hk⟩ W) ∧ KpB n₀ Bs W (asg ⟨k, hk⟩ W) ∧ I2 k W.heap.size (asg ⟨k, hk⟩ W))
    (hassign : ∀ (l : Nat) (x : Fin zs.length) (W : World) (K : Act → World → Prop), K (a₁ x W.heap.size) (asg x W) →
      assign.wpIn (F.inRound l) (n - 1 - 1) Try.prog (Exit.then K (fun _ _ _ => False)) { tmps := (ps.zip #[.int .i64 (x.val : Int), .agg #[.int .i64 (zs[x.val]'x.isLt).1, .int .i64 (zs[x.val]'x.isLt).2]]).foldl (fun t (p, v) => t.setIfInBounds p v) a.tmps, defers := [] } W)
    (hbody : ∀ (l k : Nat) (hk : k < zs.length) (p : Nat) (W : World), I2 k p W → body.wpIn (F.inRound l) (n - 1 - 1) Try.prog (nrmW fun W' => KeepsFrom w.heap.size W W' ∧ KpB n₀ Bs W W' ∧ I k W') (a₁ ⟨k, hk⟩ p) W)
    (hdone : ∀ (D : Nat) (W : World), w.heap.size ≤ D → I 0 W → W.heap[D]? = some (.deferred (some [])) → Q .normal { a with defers := { target := .collected D, args := #[] } :: a.defers } W) :
    (Code.rangeFunc g ps assign body).wpIn F n Try.prog Q a w := by
  refine wpIn_rangeFunc fun fn hfn => ?_
  rw [hro]
  generalize hL : w.heap.size + 1 = L
  let r0 : Loop := { state := .ready, pending := none, fn, tmps := a.tmps, params := ps, assign, body, defers := w.heap.size }
  generalize hW1 : (w.alloc (.deferred (some []))).alloc (.loop r0) = W1
  have s1 : W1.heap.size = w.heap.size + 2 := by rw [← hW1]; simp
  have hl1 : W1.heap[L]? = some (.loop r0) := by
    have := World.alloc_heap_new (w.alloc (.deferred (some []))) (.loop r0)
    rw [World.size_alloc, hL, hW1] at this
    exact this
  have hd1 : W1.heap[w.heap.size]? = some (.deferred (some [])) := by
    rw [← hW1]
    exact (Below.heap_alloc _ _ _ (by simp)).trans (World.alloc_heap_new w _)
  have hB1 : Below w.heap.size w W1 := by rw [← hW1]; exact ((Below.refl _ w).alloc (Nat.le_refl _) _).alloc (by simp) _
  refine ⟨L, [{ target := .collected w.heap.size, args := #[] }], W1, { target := .fn (.func 92) #[.pointer (some ⟨Bs, 0, none⟩)], args := #[.func (.yield L) #[] #[]] }, W1, 92, #[.func (.yield L) #[] #[], .pointer (some ⟨Bs, 0, none⟩)], W1, ?_, ?_, ?_, ?_, fun _ => by omega, ?_⟩
  · rw [run_enterLoop_outer, hW1, hL]
  · simp only [resolve, hg]
    simp [go_sem]
  · intro f' hf'
    simp [Target.leads] at hf'
    subst hf'
    exact h92
  · simp [invoke, go_sem, enters_of Try.func92 (by kernel_rfl) rfl]
  · have hK : ∀ (X : World) (j : Nat) (o o' : Loop), w.heap.size ≤ j → X.heap[j]? = some (.loop o) → KpB n₀ Bs X (X.putObj j (.loop o')) := fun X j o o' hj ho => ⟨belowK_b (w := w) hn₀ X j _ _ hj ho rfl rfl, World.putObj_heap_other (by omega)⟩
    refine (backN_in F (n - 1) h92 hro (by omega) L Bs n₀ b off cap zs hreach hb (fun k W => I k W ∧ W.heap[L]? = some (.loop r0) ∧ W.heap[w.heap.size]? = some (.deferred (some []))) ?_ W1
      ((hB1.cell (p := ⟨Bs, 0, none⟩) hBl).trans hBs) (fun j hj => ⟨(hB1.cell (p := ⟨b, off + j * 2, none⟩) (by show b < _; omega)).trans (hc j hj).1, (hB1.cell (p := ⟨b, off + j * 2 + 1, none⟩) (by show b < _; omega)).trans (hc j hj).2⟩) ⟨by rw [← hW1]; exact hI.alloc _ (hI.alloc _ h0), hl1, hd1⟩).mono ?_
    · rintro k hk W ⟨hi, hl, hd⟩
      have hltW := (Array.getElem?_eq_some_iff.1 hl).1
      obtain ⟨q1, q2, q3⟩ := hasg k hk W (by omega) hi
      have hlA := q1.same _ _ (by omega) hl rfl
      have hdA := q1.same _ _ (Nat.le_refl _) hd rfl
      have hlt := (Array.getElem?_eq_some_iff.1 hlA).1
      refine ⟨_, _, _, _, run_yield (r := r0) hl (by rw [show r0.params = ps from rfl, hps]; rfl), roundIn_of_wpIn hfn (hassign L ⟨k, hk⟩ W _ ⟨_, run_beginRound hlA rfl, ?_⟩)⟩
      have hi2 := (hI2 W.heap.size).putObj (.loop { r0 with state := .busy }) q3 (by omega) hlA rfl
      have hl2 : ((asg ⟨k, hk⟩ W).putObj L (.loop { r0 with state := .busy })).heap[L]? = some (.loop { r0 with state := .busy }) := World.putObj_heap_same hlt
      have hd2 : ((asg ⟨k, hk⟩ W).putObj L (.loop { r0 with state := .busy })).heap[w.heap.size]? = some (.deferred (some [])) := (World.putObj_heap_other (by omega)).trans hdA
      refine wpIn_mono (hbody L k hk W.heap.size _ hi2) ?_
      intro e a3 W3 hp
      cases e with
      | normal =>
        obtain ⟨k1, k2, k3⟩ := hp
        have hl3 := k1.same _ _ (by omega) hl2 rfl
        have hd3 := k1.same _ _ (Nat.le_refl _) hd2 rfl
        exact ⟨_, _, run_endRound none hl3, rfl, ⟨hI.putObj _ k3 (by omega) hl3 rfl, World.putObj_heap_same (Array.getElem?_eq_some_iff.1 hl3).1, (World.putObj_heap_other (by omega)).trans hd3⟩,
          (q2.trans ((hK _ L _ _ (by omega) hlA).trans k2)).trans (hK W3 L _ _ (by omega) hl3)⟩
      | _ => exact hp.elim
    · rintro e W2 ⟨⟨v, rfl⟩, hi, hl, hd⟩
      exact ⟨none, _, run_endLoop hl (by simp [r0]), hdone _ _ (Nat.le_refl _) (hI.putObj _ hi (by omega) hl rfl) ((World.putObj_heap_other (by omega)).trans hd)⟩
end Go.Proofs.Ytnlbhjmbaedadaa
/-
  Turned sheets: the walk.
-/
set_option linter.unusedVariables false
set_option linter.unusedSimpArgs false
set_option maxRecDepth 100000
namespace Go.Proofs.Ytnlbhjmbaedadaa
open Go.RowKit Go.Shelf
section
attribute [local go_sem] Oper.semAt_some
/-- Cells of pairs. -/
def cp2 (l : List (Int × Int)) : List Value := l.flatMap fun p => [.int .i64 p.1, .int .i64 p.2]
theorem cp2_snoc (l : List (Int × Int)) (p : Int × Int) : cp2 (l ++ [p]) = cp2 l ++ [.int .i64 p.1, .int .i64 p.2] := by simp [cp2]
/-- What has come of the turned sheets, when those from k on have been turned. -/
def tu (zs : List (Int × Int)) (k : Nat) : List (Int × Int) := ((zs.drop k).reverse).map fun p => (p.2, p.1)
theorem tu_all (zs : List (Int × Int)) : tu zs zs.length = [] := by simp [tu]
theorem tu_step (zs : List (Int × Int)) (k : Nat) (hk : k < zs.length) : tu zs k = tu zs (k + 1) ++ [(zs[k].2, zs[k].1)] := by
  unfold tu
  rw [List.drop_eq_getElem_cons hk, List.reverse_cons, List.map_append]
  rfl
theorem tu_len (zs : List (Int × Int)) (k : Nat) : (tu zs k).length = zs.length - k := by simp [tu]
theorem boxed_own {β : Type} (B : Nat) (t : TypeId) (u : Value) : Own (fun (_ : β) W => Boxed W B t u) := fun s X Y row hs hg hrow =>
  hs.kept hg (fun e' => by
    obtain ⟨o, ho, hc⟩ := hrow B e'.symm
    rw [show X.heap[B]? = _ from hs] at ho
    cases ho
    cases hc)
theorem OwnFrom.box {β : Type} {n : Nat} {I : β → World → Prop} {B : Nat} {t : TypeId} {u : Value} (h : OwnFrom n I) : OwnFrom n (fun s W => I s W ∧ Boxed W B t u) := OwnFrom.and h (Own.from (boxed_own B t u) _)
set_option maxHeartbeats 4000000 in
theorem turn_walk (F : Fence) (h39 : F.fn 39) (h25 : F.fn 25) (h77 : F.fn 77) (h92 : F.fn 92) (hro : F.round = none) (b off cap : Nat) (zs : List (Int × Int)) (w : World) (hb : b < w.heap.size) (hlen : zs.length ≤ 1000000)
    (hcs : ∀ j (h : j < zs.length), w.cell? ⟨b, off + j * 2, none⟩ = some (.int .i64 zs[j].1) ∧ w.cell? ⟨b, off + j * 2 + 1, none⟩ = some (.int .i64 zs[j].2))
    (hck : CallsIn F 2 Try.prog 25 #[.slice (some ⟨b, off, none⟩) zs.length cap] w fun e w' => e = .returned (.int .i64 0) ∧ Below w.heap.size w w') :
    CallsIn F 3 Try.prog 39 #[.slice (some ⟨b, off, none⟩) zs.length cap] w fun e W' => ∃ v, e = .returned (.tuple #[v, .int .i64 0]) ∧ W'.ownsRow w.heap.size 58 2 v zs.length (cp2 (tu zs 0)) ∧ Below w.heap.size w W' := by
  obtain ⟨i0, hi, hz0, hz1, hz2⟩ := info_parts (show (Try.prog.info? 58).map (fun i => (i.zero, i.size, i.bytes)) = some (some (.agg #[.int .i64 0, .int .i64 0]), 2, 16) by kernel_rfl)
  have hu22 : Try.prog.underlying 22 = some (.slice 58) := by kernel_rfl
  refine callsIn_of_wp_marks Try.func39 rfl h39 ?_ hro
  simp only [Try.ntmps39, List.size_toArray, List.length_cons, List.length_nil, Nat.reduceAdd, Nat.reduceSub, Array.replicate_succ, Array.replicate_zero, List.push_toArray, List.append_toArray, List.nil_append, List.cons_append]
  gi_wp2_with first | (gi_at_call 25; refine hck.mono ?_; rintro e w1 ⟨rfl, hB1⟩) | (gi_at_call 77; refine (back_in F 2 h77 hro _ _ _ _).mono ?_; rintro e w' ⟨rfl, rfl⟩)
  have hs1 := hB1.size
  have bO := Boxed.new w1 22 (.slice none 0 0)
  have bN := Boxed.new (w1.alloc (.cells #[.slice none 0 0] 22)) 22 (.slice (some ⟨b, off, none⟩) zs.length cap)
  rw [World.size_alloc] at bN
  have hB0 : Below w.heap.size w ((w1.alloc (.cells #[.slice none 0 0] 22)).alloc (.cells #[.slice (some ⟨b, off, none⟩) zs.length cap] 22)) := (hB1.alloc hs1 _).alloc (by simp; omega) _
  have hcs0 : ∀ j (h : j < zs.length), ∀ W, Below w.heap.size w W → W.cell? ⟨b, off + j * 2, none⟩ = some (.int .i64 zs[j].1) ∧ W.cell? ⟨b, off + j * 2 + 1, none⟩ = some (.int .i64 zs[j].2) := fun j hj W hW =>
    ⟨(hW.cell (p := ⟨b, off + j * 2, none⟩) hb).trans (hcs j hj).1, (hW.cell (p := ⟨b, off + j * 2 + 1, none⟩) hb).trans (hcs j hj).2⟩
  refine rangeBack hro (by omega) h92 (zs := zs) (b := b) (off := off) (cap := cap) (Bs := w1.heap.size + 1) (n₀ := w.heap.size) (by omega) rfl rfl hb (by simp; omega) (by simp) bN.cell (fun j hj => hcs0 j hj _ hB0)
    (fun k W => ((∃ v, Boxed W w1.heap.size 22 v ∧ W.ownsRow w.heap.size 58 2 v (zs.length - k) (cp2 (tu zs k))) ∧ Below w.heap.size w W) ∧ Boxed W (w1.heap.size + 1) 22 (.slice (some ⟨b, off, none⟩) zs.length cap)) ?own ?start
    (fun x p => { tmps := #[.slice (some ⟨b, off, none⟩) zs.length cap, undef, .slice none 0 0, .int .i64 0, .int .i64 0, .pointer (some ⟨w1.heap.size, 0, none⟩), undef, .pointer (some ⟨p, 0, none⟩), .slice (some ⟨b, off, none⟩) zs.length cap, .int .i64 0, .int .i64 0, .bool false, undef, .slice (some ⟨b, off, none⟩) zs.length cap,
          .func (.func 92) #[] #[.pointer (some ⟨w1.heap.size + 1, 0, none⟩)], .int .i64 (x.val : Int), .agg #[.int .i64 zs[x.val].1, .int .i64 zs[x.val].2], undef, undef, undef, undef, undef, undef, undef, undef, undef], defers := [] })
    (fun x W => W.alloc (.cells #[.int .i64 zs[x.val].1, .int .i64 zs[x.val].2] 58))
    (fun k p W => (((∃ v, Boxed W w1.heap.size 22 v ∧ W.ownsRow w.heap.size 58 2 v (zs.length - (k + 1)) (cp2 (tu zs (k + 1)))) ∧ Below w.heap.size w W) ∧ Boxed W (w1.heap.size + 1) 22 (.slice (some ⟨b, off, none⟩) zs.length cap)) ∧ (W.cell? ⟨p, 0, none⟩ = some (.int .i64 (zs[k]?.getD (0, 0)).1) ∧ W.cell? ⟨p, 1, none⟩ = some (.int .i64 (zs[k]?.getD (0, 0)).2)))
    ?own2 ?asg ?assign ?body ?done
  case own => exact OwnFrom.box <| OwnFrom.and (Own.from (by simpa using holdsRow_own (β := Nat) w.heap.size w1.heap.size 22 58 2 (fun k => zs.length - k) (fun k => cp2 (tu zs k)) (fun _ _ => True)) _) (ownFrom_below (Nat.le_refl _) (by simp; omega))
  case own2 =>
    intro p
    refine OwnFrom.and (OwnFrom.box <| OwnFrom.and (Own.from (by simpa using holdsRow_own (β := Nat) w.heap.size w1.heap.size 22 58 2 (fun k => zs.length - (k + 1)) (fun k => cp2 (tu zs (k + 1))) (fun _ _ => True)) _) (ownFrom_below (Nat.le_refl _) (by simp; omega))) ?_
    exact fun s A B row hs hg hr => ⟨cell_kept hs.1 hg (fun r e => (hr r e).2), cell_kept hs.2 hg (fun r e => (hr r e).2)⟩
  case start => exact ⟨⟨⟨_, bO.alloc _, by rw [tu_all, Nat.sub_self]; exact World.ownsRow_nil _ _ _ _⟩, hB0⟩, bN⟩
  case asg =>
    rintro k hk W hsz ⟨⟨⟨v, hv, hrow⟩, hB⟩, hN⟩
    have hnew : (W.alloc (.cells #[.int .i64 zs[k].1, .int .i64 zs[k].2] 58)).heap[W.heap.size]? = _ := World.alloc_heap_new W _
    simp only [World.size_alloc] at hsz
    refine ⟨(KeepsOthers.alloc W _).from _, ⟨(Below.refl _ W).alloc (by omega) _, ?_⟩, ⟨⟨⟨v, hv.alloc _, hrow.alloc _⟩, hB.alloc (by omega) _⟩, hN.alloc _⟩, ?_⟩
    · exact Below.heap_alloc _ _ _ (by omega)
    · have e : zs[k]?.getD (0, 0) = zs[k] := by simp [List.getElem?_eq_getElem hk]
      rw [e]
      constructor
      · show (match (W.alloc (.cells #[.int .i64 zs[k].1, .int .i64 zs[k].2] 58)).heap[W.heap.size]? with | some (.cells c _ _) => c[0]? | _ => none) = _
        rw [hnew]
        rfl
      · show (match (W.alloc (.cells #[.int .i64 zs[k].1, .int .i64 zs[k].2] 58)).heap[W.heap.size]? with | some (.cells c _ _) => c[1]? | _ => none) = _
        rw [hnew]
        rfl
  case assign =>
    intro l x W K hK
    gi_wp2
    exact hK
  case body =>
    rintro l k hk p W ⟨⟨⟨⟨v, hv, hrow⟩, hB⟩, hN⟩, hp0, hp1⟩
    have e : zs[k]?.getD (0, 0) = zs[k] := by simp [List.getElem?_eq_getElem hk]
    rw [e] at hp0 hp1
    have hc := hv.cell
    have hBs := hB.size
    have hcc : ∀ (W1 : World) (x y : Int) (j : Nat) (u : Value), [Value.int .i64 x, .int .i64 y][j]? = some u → (W1.alloc (.cells #[.int .i64 x, .int .i64 y] 58)).cell? ((⟨W1.heap.size, 0, none⟩ : Addr).add j) = some u := by
      intro W1 x y j u hu
      have hnew := World.alloc_heap_new W1 (.cells #[.int .i64 x, .int .i64 y] 58)
      rw [Go.Vi.add_eq]
      show (match (W1.alloc (.cells #[.int .i64 x, .int .i64 y] 58)).heap[W1.heap.size]? with | some (.cells c _ _) => c[0 + j]? | _ => none) = _
      rw [hnew]
      match j, hu with
      | 0, hu => cases hu; rfl
      | 1, hu => cases hu; rfl
    gi_wp2_with (gi_at_builtin; refine wpListIn_append_own _ rfl _ _ 22 rfl w.heap.size 58 i0 (.agg #[.int .i64 0, .int .i64 0]) 2 16 hu22 hi hz0 hz1 hz2 rfl (by decide) _ _ _ rfl (hrow.alloc _) ⟨W.heap.size, 0, none⟩ 1 1 [.int .i64 zs[k].2, .int .i64 zs[k].1] rfl rfl (hcc _ _ _) (by simp [Value.oneCell']) (by unfold maxLen; omega) (by omega) (by simp; omega) ?_; intro v' w2 hown' hgrow _; obtain ⟨g', cap', rfl⟩ := ownsRow_succ hown'; obtain ⟨hv1, hv2, hr2, hk2, hb2⟩ := hv.appended (by decide) hrow hB.size (by omega) hown' hgrow; have hc1 := hv1.cell; have hf1 := hv1.frozen)
    have hne := hN.not_row (by decide) hrow
    have hN2 := (hN.alloc _).kept hgrow hne
    have hN3 : Boxed (w2.setCell ⟨w1.heap.size, 0, none⟩ (.slice (some ⟨g', 0, none⟩) (zs.length - (k + 1) + 1) cap')) (w1.heap.size + 1) 22 (.slice (some ⟨b, off, none⟩) zs.length cap) :=
      (heap_setCell_other w2 ⟨w1.heap.size, 0, none⟩ (w1.heap.size + 1) _ (by simp only []; omega)).trans hN2
    refine ⟨hk2.from _, ⟨hb2, hN3.trans hN.symm⟩, ⟨⟨_, hv2, ?_⟩, hB.trans hb2⟩, hN3⟩
    rw [tu_step zs k hk, cp2_snoc, show zs.length - k = zs.length - (k + 1) + 1 by omega]
    exact hr2
  case done =>
    rintro D W hD ⟨⟨⟨v, hv, hrow⟩, hB⟩, hN⟩ hK
    have hc := hv.cell
    gi_wp2
    refine ⟨by simp, .inl ⟨_, _, rfl, run_takeDeferred hK, ?_⟩⟩
    simp only [World.size_alloc] at hD
    exact ⟨_, results_tmp2 rfl _ _ _, v, rfl, ownsRow_putObj hrow _ hK rfl, hB.trans (belowK_b (w := w) (Nat.le_refl _) W D _ _ (by omega) hK rfl rfl)⟩
set_option maxHeartbeats 1000000 in
theorem turn_err (F : Fence) (h39 : F.fn 39) (h25 : F.fn 25) (hro : F.round = none) (e : Int) (he : e ≠ 0) (v0 : Value) (w : World)
    (hck : CallsIn F 2 Try.prog 25 #[v0] w fun x w' => x = .returned (.int .i64 e) ∧ Below w.heap.size w w') :
    CallsIn F 3 Try.prog 39 #[v0] w fun x W' => x = .returned (.tuple #[.slice none 0 0, .int .i64 e]) ∧ Below w.heap.size w W' := by
  refine callsIn_of_wp_marks Try.func39 rfl h39 ?_ hro
  simp only [Try.ntmps39, List.size_toArray, List.length_cons, List.length_nil, Nat.reduceAdd, Nat.reduceSub, Array.replicate_succ, Array.replicate_zero, List.push_toArray, List.append_toArray, List.nil_append, List.cons_append]
  gi_wp2_with (gi_at_call 25; refine hck.mono ?_; rintro e w1 ⟨rfl, hB1⟩)
  exact ⟨_, results_tmp2 rfl _ _ _, rfl, hB1⟩
theorem cp2_get (l : List (Int × Int)) (i : Nat) (x : Int × Int) (h : l[i]? = some x) : ((cp2 l).drop (i * 2)).take 2 = [.int .i64 x.1, .int .i64 x.2] := by
  induction l generalizing i with
  | nil => simp at h
  | cons p l ih =>
    cases i with
    | zero => simp at h; subst h; simp [cp2]
    | succ i =>
      have := ih i (by simpa using h)
      rw [← this]
      have e : cp2 (p :: l) = .int .i64 p.1 :: .int .i64 p.2 :: cp2 l := rfl
      rw [e, show (i + 1) * 2 = i * 2 + 1 + 1 by omega]
      rfl
end
open Go.Vi
def HF39 (S : List (Int × Int) → Option Int) (zs : List (Int × Int)) : Option (List (Int × Int) × Int) :=
  (S zs).bind fun e => bif e != 0 then some ([], e) else bif decide (0 < zs.length) && decide (zs.length ≤ 1000000) then some (tu zs 0, 0) else none
/-- A slice of pairs that was handed in. -/
theorem CR_pairs {w : World} {A : Nat → Prop} {zs : List (Int × Int)} {t : Bool} {v : Value} (h : CR w A (.sl (.pair (.int .i64) (.int .i64)) zs t) v) (h0 : 0 < zs.length) (hA : ∀ b, A b → b < w.heap.size) :
    ∃ b off cap, v = .slice (some ⟨b, off, none⟩) zs.length cap ∧ b < w.heap.size ∧ ∀ j (h : j < zs.length), w.cell? ⟨b, off + j * 2, none⟩ = some (.int .i64 zs[j].1) ∧ w.cell? ⟨b, off + j * 2 + 1, none⟩ = some (.int .i64 zs[j].2) := by
  obtain ⟨a, cap, rfl, hcap, _, hr⟩ := h
  rcases hr with hr | ⟨b, o, cur, et, fz, rfl, hb, hc, hl, hx⟩
  · rw [hr] at h0; exact absurd h0 (by simp)
  · refine ⟨b, o, cap, rfl, hA b hb, fun j hj => ?_⟩
    have h1 := hx j zs[j] (by simp)
    obtain ⟨h2, h3⟩ : ((cur.toList.drop (o + j * 2)).take 2).take 1 = [.int .i64 zs[j].1] ∧ ((cur.toList.drop (o + j * 2)).take 2).drop 1 = [.int .i64 zs[j].2] := h1
    have h4 : cur.toList[o + j * 2]? = some (.int .i64 zs[j].1) := by
      have := congrArg (fun l => l[0]?) h2
      simpa [List.getElem?_take, List.getElem?_drop] using this
    have h5 : cur.toList[o + j * 2 + 1]? = some (.int .i64 zs[j].2) := by
      have := congrArg (fun l => l[0]?) h3
      simpa [List.getElem?_take, List.getElem?_drop] using this
    rw [Array.getElem?_toList] at h4 h5
    constructor
    · show (match w.heap[b]? with | some (.cells c _ _) => c[o + j * 2]? | _ => none) = _
      rw [hc]
      exact h4
    · show (match w.heap[b]? with | some (.cells c _ _) => c[o + j * 2 + 1]? | _ => none) = _
      rw [hc]
      exact h5
/-- A call of a function that reads a list of pairs and gives one number. -/
theorem call_pairs {g : FuncId} {t : Nat} {S : pksDen [.c (.sl (.pair (.int .i64) (.int .i64)))] → Option (rksDen [.c (.int .i64) t])} (h : FCs Try.prog g (phiOf [.c (.sl (.pair (.int .i64) (.int .i64)))] [.c (.int .i64) t] S)) {zs : List (Int × Int)} {e : Int} (hs : S (zs, ()) = some e)
    {w : World} {A0 : Nat → Prop} {v : Value} (hA : ∀ b, A0 b → b < w.heap.size) (hv : CR w A0 (.sl (.pair (.int .i64) (.int .i64)) zs false) v) :
    Calls Try.prog g #[v] w fun x w2 => x = .returned (.int .i64 e) ∧ Below w.heap.size w w2 := by
  obtain ⟨ret, h1, h2⟩ := h [.c (.sl (.pair (.int .i64) (.int .i64)) zs false)] _ some (rets [.c (.int .i64) t] e) (by
    show (pksArg [.c (.sl (.pair (.int .i64) (.int .i64)))] [.c (.sl (.pair (.int .i64) (.int .i64)) zs false)]).bind _ = _
    rw [show pksArg [.c (.sl (.pair (.int .i64) (.int .i64)))] [.c (.sl (.pair (.int .i64) (.int .i64)) zs false)] = some (zs, ()) from rfl]
    simp only [Option.bind_some, hs])
  cases h1
  refine (h2 w A0 [v] hA ⟨hv, trivial⟩).mono ?_
  intro x w2 hx
  cases x with
  | returned u =>
    obtain ⟨hG, is, us, rfl, hR⟩ := hx
    match is, us, hR with
    | [i], [u], ⟨hu, _, _⟩ =>
      have hu : u = .int .i64 e := hu
      subst hu
      exact ⟨rfl, ⟨hG.os, hG.tape, hG.output, hG.size, hG.blk⟩⟩
    | [], [], hR => exact hR.elim
    | [], _ :: _, hR => exact hR.elim
    | [_], [], hR => exact hR.elim
    | [_], _ :: _ :: _, hR => exact hR.2.2.elim
    | _ :: _ :: _, [], hR => exact hR.elim
    | _ :: _ :: _, [_], hR => exact hR.2.2.elim
    | _ :: _ :: _, _ :: _ :: _, hR => exact hR.2.2.elim
  | _ => exact hx.elim
theorem HC39 (n : Nat × Nat) (xs : pksDen [.c (.sl (.pair (.int .i64) (.int .i64)))]) (r : rksDen [.own (.pair (.int .i64) (.int .i64)) 0, .c (.int .i64) 0]) (h : HF39 (S25 n) xs.1 = some r) (vs : List V) (hv : pksArg [.c (.sl (.pair (.int .i64) (.int .i64)))] vs = some xs) :
    FC Try.prog 39 vs (rets [.own (.pair (.int .i64) (.int .i64)) 0, .c (.int .i64) 0] r) := by
  obtain ⟨zs, ⟨⟩⟩ := xs
  unfold HF39 at h
  obtain ⟨e, he, h⟩ := Option.bind_eq_some_iff.1 h
  intro w A0 args hA hargs
  have hv2 := pksArg_VR _ _ _ _ hv hargs
  match args, hv2 with
  | [v0], ⟨g0, _⟩ =>
    have hck := call_pairs (FC25 n) (zs := zs) he hA g0
    cases hz : e != 0 with
    | true =>
      rw [hz] at h
      cases h
      refine ((callsIn_wide (n := 3)).1 (turn_err Fence.wide trivial trivial rfl e (by simpa using hz) v0 w ((callsIn_wide (n := 2)).2 hck))).mono ?_
      rintro x W' ⟨rfl, hB⟩
      refine ⟨Grows.of_below hB, [.emp, .emp], [_, _], rfl, ⟨rfl, ⟨none, rfl, fun _ => rfl, rfl, fun p l h => (by cases h)⟩, fun b c h => (by cases h)⟩, fun b c h => (by cases h), rfl, fun b c h => (by cases h), trivial⟩
    | false =>
      rw [hz] at h
      have hz : e = 0 := by simpa using hz
      subst hz
      simp only [cond_false] at h
      obtain ⟨hd, h⟩ := cond_some h rfl
      simp only [Bool.and_eq_true, decide_eq_true_eq] at hd
      cases h
      obtain ⟨b, off, cap, rfl, hb, hcs⟩ := CR_pairs (zs := zs) (t := false) g0 hd.1 hA
      refine ((callsIn_wide (n := 3)).1 (turn_walk Fence.wide trivial trivial trivial trivial rfl b off cap zs w hb hd.2 hcs ((callsIn_wide (n := 2)).2 hck))).mono ?_
      rintro x W' ⟨v, rfl, hrow, hB⟩
      obtain ⟨hlen, hrow⟩ := hrow
      rcases hrow with ⟨_, h0⟩ | ⟨g, cap2, cur, rfl, hg, hgb, hcap, _, hsz, htk⟩
      · omega
      have htl : (tu zs 0).length = zs.length := by rw [tu_len]; rfl
      refine ⟨Grows.of_below hB, [.at g cap2, .emp], [_, _], rfl, ⟨⟨fun h => (by cases h), by rw [htl]; exact hcap, cur, 58, hgb, by show cap2 * 2 ≤ _; omega, fun i x hi => ?_⟩, ⟨by rw [htl], by rw [htl]; exact hcap, fun h => (by cases h)⟩, fun b' c' h => ?_⟩, ?_, rfl, fun b c h => (by cases h), trivial⟩
      · have hi2 := (List.getElem?_eq_some_iff.1 hi).1
        rw [htl] at hi2
        have h5 := cp2_get _ i x hi
        rw [← htk, List.drop_take, List.take_take, Nat.min_eq_left (by omega)] at h5
        show VRs _ _ (.pair (.int .i64) (.int .i64)) x ((cur.toList.drop (i * 2)).take 2)
        rw [h5]
        exact ⟨rfl, rfl⟩
      · cases h
        exact ⟨hg, (Array.getElem?_eq_some_iff.1 hgb).1⟩
      · intro b' c' h j hj
        simp at hj
        subst hj
        intro c'' e
        cases e
end Go.Proofs.Ytnlbhjmbaedadaa
set_option linter.unusedVariables false
set_option linter.unusedSimpArgs false
set_option maxRecDepth 100000
namespace Go.Proofs.Ytnlbhjmbaedadaa
open Go.Vi
abbrev R39 := (List (Int × Int)) × Int
def pk39 : List PK := [.c (.sl (.pair (.int .i64) (.int .i64)))]
def rk39 : List RK := [.own (.pair (.int .i64) (.int .i64)) 0, .c (.int .i64) 0]
noncomputable def S39 (n : Nat × Nat) (sheets0 : List (Int × Int)) : Option R39 := HF39 (S25 n) sheets0
noncomputable def P39 (n : Nat × Nat) := phiOf pk39 rk39 (fun xs => S39 n xs.1)
theorem call39 : CallOK Try.prog 39 := callOK_of Try.func39 (by kernel_rfl) (by kernel_rfl)
theorem FC39 (n : Nat × Nat) : FCs Try.prog 39 (P39 n) := phiOf_FCs fun xs r h vs hv => HC39 n xs r h vs hv
abbrev R18 := Bool
noncomputable def c18 : Code := bodyOf Try.f18
noncomputable def an18 : Ann := (.s .l (.s (.s .l (.j [0, 1] .l .l)) (.s (.s .l (.j [] (.j [0, 1, 5] (.s (.s .l (.j [0, 1, 5] .l .l)) (.s (.j [0, 1, 5] (.s .l (.j [0, 1, 5] .l .l)) .l) .l)) .l) .l)) .l)))
def pk18 : List PK := [.c (.sl (.int .i64)), .c (.sl (.int .i64))]
def rk18 : List RK := [.c .bool 4]
noncomputable def rt18 (st : St) : Option R18 := rtG rk18 st
noncomputable def E18 (n : Nat × Nat) : Env := { T := tab, phi := noPhi, eff := fun _ => false, fuel := n.1, hold := n.2 }
noncomputable def kq18_3 (n : Nat × Nat) : St → Option R18 := run (E18 n) (cB (cB (cB c18))) (Ann.snd (Ann.snd (Ann.snd an18))) rt18 (fun _ _ => none) rt18
noncomputable def xb18_5 (n : Nat × Nat) : Nat → St → Option R18 := fun j s => bif Nat.beq j 0 then normC [] s (kq18_3 n) else (fun _ _ => none) j s
noncomputable def F18_6 (n : Nat × Nat) : (St → Option R18) → St → Option R18 := fun K s => run (E18 n) (cA (cA (cB (cA (cB (cB c18)))))) (Ann.fst (Ann.fst (Ann.snd (Ann.fst (Ann.snd (Ann.snd an18)))))) (fun s => normC [0, 1, 5] s K) (xb18_5 n) rt18 s
noncomputable def L18_1 (n : Nat × Nat) (m : Nat) (a0 : List Int) (b1 : List Int) (i5 : Int) : Option R18 := loopN (F18_6 n) m { tm := [.c (.sl (.int .i64) a0 false), .c (.sl (.int .i64) b1 false), uu, uu, uu, .c (.int .i64 i5), uu, uu, uu, uu, uu, uu, uu, uu, uu, uu, uu, uu, uu, uu, uu, uu, uu, uu, uu, uu], hp := emp }
theorem L18_1_eq (n : Nat × Nat) (m1 : Nat) (a0 : List Int) (b1 : List Int) (i5 : Int) : L18_1 n (m1 + 1) a0 b1 i5 =
 (bif decide (i5 < (a0.length : Int)) then (idx a0 i5).bind fun x1' =>
 (idx b1 i5).bind fun x2' =>
 (bif (x1' != x2') then some false
 else L18_1 n m1 a0 b1 (wr .i64 (i5 + 1)))
 else some true) := by kernel_rfl
noncomputable def S18 (n : Nat × Nat) (a0 : List Int) (b1 : List Int) : Option R18 := run (E18 n) c18 an18 rt18 (fun _ _ => none) rt18 { tm := [.c (.sl (.int .i64) a0 false), .c (.sl (.int .i64) b1 false), uu, uu, uu, uu, uu, uu, uu, uu, uu, uu, uu, uu, uu, uu, uu, uu, uu, uu, uu, uu, uu, uu, uu, uu], hp := emp }
theorem S18_eq (n : Nat × Nat) (a0 : List Int) (b1 : List Int) : S18 n a0 b1 =
 (bif ((a0.length : Int) != (b1.length : Int)) then some false
 else L18_1 n n.1 a0 b1 0) := by kernel_rfl
theorem S18_run (n : Nat × Nat) (xs : pksDen pk18) : S18 n xs.1 xs.2.1 = runG (E18 n) noScope c18 an18 (rtG rk18) (fun _ _ => none) (rtG rk18) (st0 pk18 xs Try.f18.ntmps) := by kernel_rfl
noncomputable def P18 (n : Nat × Nat) := phiOf pk18 rk18 (fun xs => S18 n xs.1 xs.2.1)
theorem call18 : CallOK Try.prog 18 := callOK_of Try.func18 (by kernel_rfl) (by kernel_rfl)
theorem env18 (n : Nat × Nat) : EnvOK Try.prog (E18 n) := envOK0 noPhi_ok rfl rfl
theorem par18 (n : Nat × Nat) : EnvPar (E18 n) := envPar0 noPhi_par rfl
theorem FC18 (n : Nat × Nat) : FCs Try.prog 18 (P18 n) := phiOf_FCs fun xs r h vs hv => FC.of_runG tabOK eqsOK (env18 n) (par18 n) mixed (fun _ p _ => noScope_ok p.1 p.2) Try.func18 (c := c18) (an := an18) (pks := pk18) (rks := rk18) (by kernel_rfl) (by kernel_rfl) hv ((S18_run n xs).symm.trans h)
abbrev R51 := Bool
noncomputable def c51 : Code := bodyOf Try.f51
noncomputable def an51 : Ann := (.s .l (.s (.s .l (.j [0, 1] .l .l)) (.s (.s .l (.j [] (.j [0, 1, 5] (.s (.s .l (.j [0, 1, 5] .l .l)) (.s (.j [0, 1, 5] (.s .l (.j [0, 1, 5] .l .l)) .l) .l)) .l) .l)) .l)))
def pk51 : List PK := [.c (.sl (.pair (.int .i64) (.int .i64))), .c (.sl (.pair (.int .i64) (.int .i64)))]
def rk51 : List RK := [.c .bool 4]
noncomputable def rt51 (st : St) : Option R51 := rtG rk51 st
noncomputable def E51 (n : Nat × Nat) : Env := { T := tab, phi := noPhi, eff := fun _ => false, fuel := n.1, hold := n.2 }
noncomputable def kq51_3 (n : Nat × Nat) : St → Option R51 := run (E51 n) (cB (cB (cB c51))) (Ann.snd (Ann.snd (Ann.snd an51))) rt51 (fun _ _ => none) rt51
noncomputable def xb51_5 (n : Nat × Nat) : Nat → St → Option R51 := fun j s => bif Nat.beq j 0 then normC [] s (kq51_3 n) else (fun _ _ => none) j s
noncomputable def F51_6 (n : Nat × Nat) : (St → Option R51) → St → Option R51 := fun K s => run (E51 n) (cA (cA (cB (cA (cB (cB c51)))))) (Ann.fst (Ann.fst (Ann.snd (Ann.fst (Ann.snd (Ann.snd an51)))))) (fun s => normC [0, 1, 5] s K) (xb51_5 n) rt51 s
noncomputable def L51_1 (n : Nat × Nat) (m : Nat) (a0 : List (Int × Int)) (b1 : List (Int × Int)) (i5 : Int) : Option R51 := loopN (F51_6 n) m { tm := [.c (.sl (.pair (.int .i64) (.int .i64)) a0 false), .c (.sl (.pair (.int .i64) (.int .i64)) b1 false), uu, uu, uu, .c (.int .i64 i5), uu, uu, uu, uu, uu, uu, uu, uu, uu, uu, uu, uu, uu, uu, uu, uu, uu, uu, uu, uu], hp := emp }
theorem L51_1_eq (n : Nat × Nat) (m1 : Nat) (a0 : List (Int × Int)) (b1 : List (Int × Int)) (i5 : Int) : L51_1 n (m1 + 1) a0 b1 i5 =
 (bif decide (i5 < (a0.length : Int)) then (idx a0 i5).bind fun x1' =>
 (idx b1 i5).bind fun x2' =>
 (bif (!((x1'.1 == x2'.1) && ((x1'.2 == x2'.2) && true))) then some false
 else L51_1 n m1 a0 b1 (wr .i64 (i5 + 1)))
 else some true) := by kernel_rfl
noncomputable def S51 (n : Nat × Nat) (a0 : List (Int × Int)) (b1 : List (Int × Int)) : Option R51 := run (E51 n) c51 an51 rt51 (fun _ _ => none) rt51 { tm := [.c (.sl (.pair (.int .i64) (.int .i64)) a0 false), .c (.sl (.pair (.int .i64) (.int .i64)) b1 false), uu, uu, uu, uu, uu, uu, uu, uu, uu, uu, uu, uu, uu, uu, uu, uu, uu, uu, uu, uu, uu, uu, uu, uu], hp := emp }
theorem S51_eq (n : Nat × Nat) (a0 : List (Int × Int)) (b1 : List (Int × Int)) : S51 n a0 b1 =
 (bif ((a0.length : Int) != (b1.length : Int)) then some false
 else L51_1 n n.1 a0 b1 0) := by kernel_rfl
theorem S51_run (n : Nat × Nat) (xs : pksDen pk51) : S51 n xs.1 xs.2.1 = runG (E51 n) noScope c51 an51 (rtG rk51) (fun _ _ => none) (rtG rk51) (st0 pk51 xs Try.f51.ntmps) := by kernel_rfl
noncomputable def P51 (n : Nat × Nat) := phiOf pk51 rk51 (fun xs => S51 n xs.1 xs.2.1)
theorem call51 : CallOK Try.prog 51 := callOK_of Try.func51 (by kernel_rfl) (by kernel_rfl)
theorem env51 (n : Nat × Nat) : EnvOK Try.prog (E51 n) := envOK0 noPhi_ok rfl rfl
theorem par51 (n : Nat × Nat) : EnvPar (E51 n) := envPar0 noPhi_par rfl
theorem FC51 (n : Nat × Nat) : FCs Try.prog 51 (P51 n) := phiOf_FCs fun xs r h vs hv => FC.of_runG tabOK eqsOK (env51 n) (par51 n) mixed (fun _ p _ => noScope_ok p.1 p.2) Try.func51 (c := c51) (an := an51) (pks := pk51) (rks := rk51) (by kernel_rfl) (by kernel_rfl) hv ((S51_run n xs).symm.trans h)
abbrev R41 := Int
noncomputable def c41 : Code := bodyOf Try.f41
noncomputable def an41 : Ann := (.s .l (.s .l (.s (.s .l (.j [0, 2, 3, 9] .l .l)) (.s (.s .l (.j [] (.s .l (.j [] .l (.s .l (.j [] .l .l)))) .l)) .l))))
def pk41 : List PK := [.c (.sl (.pair (.int .i64) (.int .i64))), .c (.sl (.int .i64)), .c (.int .i64), .c (.int .i64)]
def rk41 : List RK := [.c (.int .i64) 8]
noncomputable def rt41 (st : St) : Option R41 := rtG rk41 st
noncomputable def E41 (n : Nat × Nat) : Env := { T := tab, phi := (consPhi 35 (fun _ => true) (P35 n) (consPhi 58 (fun _ => true) (P58 n) (consPhi 61 (fun _ => true) (P61 n) noPhi))), eff := fun _ => false, fuel := n.1, hold := n.2 }
noncomputable def S41 (n : Nat × Nat) (sheets0 : List (Int × Int)) (order1 : List Int) (machine2 : Int) (k3 : Int) : Option R41 := run (E41 n) c41 an41 rt41 (fun _ _ => none) rt41 { tm := [.c (.sl (.pair (.int .i64) (.int .i64)) sheets0 false), .c (.sl (.int .i64) order1 false), .c (.int .i64 machine2), .c (.int .i64 k3), uu, uu, uu, uu, uu, uu, uu, uu, uu, uu, uu, uu, uu, uu, uu, uu, uu, uu, uu, uu, uu, uu, uu, uu, uu, uu, uu, uu, uu, uu, uu, uu, uu, uu], hp := emp }
theorem S41_eq (n : Nat × Nat) (sheets0 : List (Int × Int)) (order1 : List Int) (machine2 : Int) (k3 : Int) : S41 n sheets0 order1 machine2 k3 =
 (S58 n sheets0 order1).bind fun r1' =>
 (bif (r1'.2 != 0) then some r1'.2
 else (S35 n sheets0 machine2 k3).bind fun r2' =>
 (bif (r2'.2 != 0) then some r2'.2
 else (S61 n r1'.1).bind fun r3' =>
 (bif (r2'.1 != r3') then some 14
 else some 0))) := by kernel_rfl
theorem S41_run (n : Nat × Nat) (xs : pksDen pk41) : S41 n xs.1 xs.2.1 xs.2.2.1 xs.2.2.2.1 = runG (E41 n) noScope c41 an41 (rtG rk41) (fun _ _ => none) (rtG rk41) (st0 pk41 xs Try.f41.ntmps) := by kernel_rfl
noncomputable def P41 (n : Nat × Nat) := phiOf pk41 rk41 (fun xs => S41 n xs.1 xs.2.1 xs.2.2.1 xs.2.2.2.1)
theorem call41 : CallOK Try.prog 41 := callOK_of Try.func41 (by kernel_rfl) (by kernel_rfl)
theorem env41 (n : Nat × Nat) : EnvOK Try.prog (E41 n) := envOK0 (consPhi_ok (FC35 n) call35 (consPhi_ok (FC58 n) call58 (consPhi_ok (FC61 n) call61 noPhi_ok))) rfl rfl
theorem par41 (n : Nat × Nat) : EnvPar (E41 n) := envPar0 (consPhi_par phiOf_Par1 (consPhi_par phiOf_Par1 (consPhi_par phiOf_Par1 noPhi_par))) rfl
theorem FC41 (n : Nat × Nat) : FCs Try.prog 41 (P41 n) := phiOf_FCs fun xs r h vs hv => FC.of_runG tabOK eqsOK (env41 n) (par41 n) mixed (fun _ p _ => noScope_ok p.1 p.2) Try.func41 (c := c41) (an := an41) (pks := pk41) (rks := rk41) (by kernel_rfl) (by kernel_rfl) hv ((S41_run n xs).symm.trans h)
abbrev R14 := Bool
noncomputable def c14 : Code := bodyOf Try.f14
noncomputable def an14 : Ann := (.s .l (.s .l (.s .l (.s .l (.s .l (.s .l (.s .l (.s .l (.s (.s .l (.j [1, 2, 4, 6, 8, 10, 12, 14, 128, 129, 132, 133, 136, 137, 140, 141, 144, 145, 148, 149, 150, 151, 154, 155, 156, 157, 160, 161, 164, 165, 168, 169, 172, 173, 174, 175, 178, 179, 180, 181, 184, 185, 188, 191, 192, 195, 196, 199, 200, 203, 204, 207, 208, 209, 210, 213, 214, 215, 216, 217, 220, 221, 222, 223, 224] .l .l)) .l)))))))))
def pk14 : List PK := []
def rk14 : List RK := [.c .bool 0]
noncomputable def rt14 (st : St) : Option R14 := rtG rk14 st
noncomputable def E14 (n : Nat × Nat) : Env := { T := tab, phi := (consPhi 16 (fun _ => true) (P16 n) (consPhi 18 (fun _ => true) (P18 n) (consPhi 19 (fun _ => true) (P19 n) (consPhi 21 (fun _ => true) (P21 n) (consPhi 23 (fun _ => true) (P23 n) (consPhi 27 (fun _ => true) (P27 n) (consPhi 29 (fun _ => true) (P29 n) (consPhi 31 (fun _ => true) (P31 n) (consPhi 33 (fun _ => true) (P33 n) (consPhi 35 (fun _ => true) (P35 n) (consPhi 37 (fun _ => true) (P37 n) (consPhi 39 (fun _ => true) (P39 n) (consPhi 41 (fun _ => true) (P41 n) (consPhi 51 (fun _ => true) (P51 n) (consPhi 52 (fun _ => true) (P52 n) (consPhi 55 (fun _ => true) (P55 n) noPhi)))))))))))))))), eff := fun g => Nat.beq g 27 || Nat.beq g 29, fuel := n.1, hold := n.2 }
noncomputable def S14 (n : Nat × Nat) : Option R14 := run (E14 n) c14 an14 rt14 (fun _ _ => none) rt14 { tm := [uu, uu, uu, uu, uu, uu, uu, uu, uu, uu, uu, uu, uu, uu, uu, uu, uu, uu, uu, uu, uu, uu, uu, uu, uu, uu, uu, uu, uu, uu, uu, uu, uu, uu, uu, uu, uu, uu, uu, uu, uu, uu, uu, uu, uu, uu, uu, uu, uu, uu, uu, uu, uu, uu, uu, uu, uu, uu, uu, uu, uu, uu, uu, uu, uu, uu, uu, uu, uu, uu, uu, uu, uu, uu, uu, uu, uu, uu, uu, uu, uu, uu, uu, uu, uu, uu, uu, uu, uu, uu, uu, uu, uu, uu, uu, uu, uu, uu, uu, uu, uu, uu, uu, uu, uu, uu, uu, uu, uu, uu, uu, uu, uu, uu, uu, uu, uu, uu, uu, uu, uu, uu, uu, uu, uu, uu, uu, uu, uu, uu, uu, uu, uu, uu, uu, uu, uu, uu, uu, uu, uu, uu, uu, uu, uu, uu, uu, uu, uu, uu, uu, uu, uu, uu, uu, uu, uu, uu, uu, uu, uu, uu, uu, uu, uu, uu, uu, uu, uu, uu, uu, uu, uu, uu, uu, uu, uu, uu, uu, uu, uu, uu, uu, uu, uu, uu, uu, uu, uu, uu, uu, uu, uu, uu, uu, uu, uu, uu, uu, uu, uu, uu, uu, uu, uu, uu, uu, uu, uu, uu, uu, uu, uu, uu, uu, uu, uu, uu, uu, uu, uu, uu, uu, uu, uu, uu], hp := emp }
theorem S14_eq (n : Nat × Nat) : S14 n =
 (S52 n).bind fun r1' =>
 (S16 n r1' [1, 0, 2]).bind fun r2' =>
 (S52 n).bind fun r3' =>
 (S19 n r3' [0, 1, 2]).bind fun r4' =>
 (S52 n).bind fun r5' =>
 (S21 n r5' [0, 1, 2]).bind fun r6' =>
 (S52 n).bind fun r7' =>
 (S23 n r7' [1, 0, 2]).bind fun r8' =>
 (S52 n).bind fun r9' =>
 (S27 n r9').bind fun r10' =>
 (S52 n).bind fun r11' =>
 (S29 n r11').bind fun r12' =>
 (S52 n).bind fun r13' =>
 (S31 n r13').bind fun r14' =>
 ((bif ((r2'.2.2 != 0) == false) then some (r4'.2 != 0)
 else some true)).bind fun b15' =>
 ((bif (b15' == false) then some (r6'.2 != 0)
 else some true)).bind fun b16' =>
 ((bif (b16' == false) then some (r8'.2 != 0)
 else some true)).bind fun b17' =>
 ((bif (b17' == false) then some (r10'.2 != 0)
 else some true)).bind fun b18' =>
 ((bif (b18' == false) then some (r12'.2 != 0)
 else some true)).bind fun b19' =>
 ((bif (b19' == false) then some (r14'.2 != 0)
 else some true)).bind fun b20' =>
 (bif b20' then some false
 else (S52 n).bind fun r21' =>
 (S33 n r21' 1 0).bind fun r22' =>
 (S52 n).bind fun r23' =>
 (S33 n r23' 0 1).bind fun r24' =>
 (S52 n).bind fun r25' =>
 (S35 n r25' 1 2).bind fun r26' =>
 (S52 n).bind fun r27' =>
 (S37 n r27').bind fun r28' =>
 (S52 n).bind fun r29' =>
 (S39 n r29').bind fun r30' =>
 (S52 n).bind fun r31' =>
 (S19 n r31' [0, 1, 1]).bind fun r32' =>
 ((bif ((r22'.2 == 0) == true) then some (r24'.2 == 0)
 else some false)).bind fun b33' =>
 ((bif (b33' == true) then some (r26'.2 == 0)
 else some false)).bind fun b34' =>
 ((bif (b34' == true) then some (r28'.2.2 == 0)
 else some false)).bind fun b35' =>
 ((bif (b35' == true) then some (r30'.2 == 0)
 else some false)).bind fun b36' =>
 ((bif (b36' == true) then some (r32'.2 == 6)
 else some false)).bind fun b37' =>
 ((bif (b37' == true) then (S18 n r2'.1 [1, 4, 9]).bind fun r38' =>
 some r38'
 else some false)).bind fun b39' =>
 ((bif (b39' == true) then (S18 n r2'.2.1 [5, 7, 10]).bind fun r40' =>
 some r40'
 else some false)).bind fun b41' =>
 ((bif (b41' == true) then some (r4'.1 == 10)
 else some false)).bind fun b42' =>
 ((bif (b42' == true) then some (r6'.1 == 3)
 else some false)).bind fun b43' =>
 ((bif (b43' == true) then some (r8'.1 == 2)
 else some false)).bind fun b44' =>
 ((bif (b44' == true) then (S18 n r10'.1 [1, 0, 2]).bind fun r45' =>
 some r45'
 else some false)).bind fun b46' =>
 ((bif (b46' == true) then (S18 n r12'.1 [0, 1, 2]).bind fun r47' =>
 some r47'
 else some false)).bind fun b48' =>
 ((bif (b48' == true) then some (r14'.1 == 2)
 else some false)).bind fun b49' =>
 ((bif (b49' == true) then some r22'.1
 else some false)).bind fun b50' =>
 ((bif (b50' == true) then some (!r24'.1)
 else some false)).bind fun b51' =>
 ((bif (b51' == true) then some (r26'.1 == 10)
 else some false)).bind fun b52' =>
 ((bif (b52' == true) then some (r28'.1 == 1)
 else some false)).bind fun b53' =>
 ((bif (b53' == true) then some (r28'.2.1 == 2)
 else some false)).bind fun b54' =>
 ((bif (b54' == true) then (S55 n [1, 5, 4, 1, 2, 3]).bind fun r55' =>
 (S51 n r30'.1 r55').bind fun r56' =>
 some r56'
 else some false)).bind fun b57' =>
 ((bif (b57' == true) then (S52 n).bind fun r58' =>
 (S41 n r58' [0, 1, 2] 1 2).bind fun r59' =>
 some (r59' == 0)
 else some false)).bind fun b60' =>
 ((bif (b60' == true) then (S52 n).bind fun r61' =>
 (S41 n r61' [2, 1, 0] 1 2).bind fun r62' =>
 some (r62' == 14)
 else some false)).bind fun b63' =>
 some b63') := by kernel_rfl
theorem S14_run (n : Nat × Nat) (xs : pksDen pk14) : S14 n = runG (E14 n) noScope c14 an14 (rtG rk14) (fun _ _ => none) (rtG rk14) (st0 pk14 xs Try.f14.ntmps) := by kernel_rfl
noncomputable def P14 (n : Nat × Nat) := phiOf pk14 rk14 (fun xs => S14 n)
theorem call14 : CallOK Try.prog 14 := callOK_of Try.func14 (by kernel_rfl) (by kernel_rfl)
theorem env14 (n : Nat × Nat) : EnvOK Try.prog (E14 n) := envOK0 (consPhi_ok (FC16 n) call16 (consPhi_ok (FC18 n) call18 (consPhi_ok (FC19 n) call19 (consPhi_ok (FC21 n) call21 (consPhi_ok (FC23 n) call23 (consPhi_ok (FC27 n) call27 (consPhi_ok (FC29 n) call29 (consPhi_ok (FC31 n) call31 (consPhi_ok (FC33 n) call33 (consPhi_ok (FC35 n) call35 (consPhi_ok (FC37 n) call37 (consPhi_ok (FC39 n) call39 (consPhi_ok (FC41 n) call41 (consPhi_ok (FC51 n) call51 (consPhi_ok (FC52 n) call52 (consPhi_ok (FC55 n) call55 noPhi_ok)))))))))))))))) rfl rfl
theorem par14 (n : Nat × Nat) : EnvPar (E14 n) := envPar0 (consPhi_par phiOf_Par1 (consPhi_par phiOf_Par1 (consPhi_par phiOf_Par1 (consPhi_par phiOf_Par1 (consPhi_par phiOf_Par1 (consPhi_par phiOf_Par1 (consPhi_par phiOf_Par1 (consPhi_par phiOf_Par1 (consPhi_par phiOf_Par1 (consPhi_par phiOf_Par1 (consPhi_par phiOf_Par1 (consPhi_par phiOf_Par1 (consPhi_par phiOf_Par1 (consPhi_par phiOf_Par1 (consPhi_par phiOf_Par1 (consPhi_par phiOf_Par1 noPhi_par)))))))))))))))) rfl
theorem FC14 (n : Nat × Nat) : FCs Try.prog 14 (P14 n) := phiOf_FCs fun xs r h vs hv => FC.of_runG tabOK eqsOK (env14 n) (par14 n) mixed (fun _ p _ => noScope_ok p.1 p.2) Try.func14 (c := c14) (an := an14) (pks := pk14) (rks := rk14) (by kernel_rfl) (by kernel_rfl) hv ((S14_run n xs).symm.trans h)
/-D 55 -/
noncomputable def DF55_1 (n : Nat × Nat) (f1 : List Int → Int → (List (Int × Int)) → Option R55) (l0 : List Int) (i4 : Int) (out3 : List (Int × Int)) : Option R55 :=
 (bif decide (wr .i64 (i4 + 1) < (l0.length : Int)) then (idx l0 i4).bind fun x1' =>
 (idx l0 (wr .i64 (i4 + 1))).bind fun x2' =>
 (bif decide (out3.length + [(x1', x2')].length ≤ lim) then f1 l0 (wr .i64 (i4 + 2)) (out3 ++ [(x1', x2')])
 else none)
 else some out3)
noncomputable def DL55_1 (n : Nat × Nat) (m : Nat) : List Int → Int → (List (Int × Int)) → Option R55 := Nat.rec (motive := fun _ => List Int → Int → (List (Int × Int)) → Option R55) (fun _ _ _ => none) (fun _ ih => DF55_1 n ih) m
theorem DL55_1_succ (n : Nat × Nat) (m : Nat) : DL55_1 n (m + 1) = DF55_1 n (DL55_1 n m) := rfl
theorem DL55_1_eq (n : Nat × Nat) (hn : n.2 = 1) : ∀ m, L55_1 n m = DL55_1 n m
  | 0 => by funext l0 i4 out3; kernel_rfl
  | m + 1 => by
    have ih := DL55_1_eq n hn m
    funext l0 i4 out3; refine (L55_1_eq n m l0 i4 out3).trans ?_
    rw [DL55_1_succ]
    unfold DF55_1
    (try simp only [ih]) <;> first | with_reducible rfl | rfl
noncomputable def D55 (n : Nat × Nat) (l0 : List Int) : Option R55 :=
    DL55_1 n n.1 l0 0 []
theorem S55_D (n : Nat × Nat) (hn : n.2 = 1) : S55 n = D55 n := by
  funext l0; refine (S55_eq n l0).trans ?_
  unfold D55
  (try simp only [DL55_1_eq n hn]) <;> first | with_reducible rfl | rfl
/-D 52 -/
noncomputable def D52 (n : Nat × Nat) : Option R52 :=
 (D55 n [3, 2, 1, 4, 5, 1]).bind fun r1' =>
 some r1'
theorem S52_D (n : Nat × Nat) (hn : n.2 = 1) : S52 n = D52 n := by
  refine (S52_eq n).trans ?_
  unfold D52
  (try simp only [S55_D n hn]) <;> first | with_reducible rfl | rfl
/-D 25 -/
noncomputable def DF25_1 (n : Nat × Nat) (f1 : (List (Int × Int)) → Int → Int → Option R25) (v13 : List (Int × Int)) (v14 : Int) (v15 : Int) : Option R25 :=
 (bif decide (v15 < v14) then (idx v13 v15).bind fun x1' =>
 ((bif (decide ((if x1'.2 < x1'.1 then x1'.2 else x1'.1) < 0) == false) then some (decide ((if x1'.2 > x1'.1 then x1'.2 else x1'.1) > 50))
 else some true)).bind fun b2' =>
 (bif b2' then some 1
 else f1 v13 v14 (wr .i64 (v15 + 1)))
 else some 0)
noncomputable def DL25_1 (n : Nat × Nat) (m : Nat) : (List (Int × Int)) → Int → Int → Option R25 := Nat.rec (motive := fun _ => (List (Int × Int)) → Int → Int → Option R25) (fun _ _ _ => none) (fun _ ih => DF25_1 n ih) m
theorem DL25_1_succ (n : Nat × Nat) (m : Nat) : DL25_1 n (m + 1) = DF25_1 n (DL25_1 n m) := rfl
theorem DL25_1_eq (n : Nat × Nat) (hn : n.2 = 1) : ∀ m, L25_1 n m = DL25_1 n m
  | 0 => by funext v13 v14 v15; kernel_rfl
  | m + 1 => by
    have ih := DL25_1_eq n hn m
    funext v13 v14 v15; refine (L25_1_eq n m v13 v14 v15).trans ?_
    rw [DL25_1_succ]
    unfold DF25_1
    (try simp only [ih]) <;> first | with_reducible rfl | rfl
noncomputable def D25 (n : Nat × Nat) (sheets0 : List (Int × Int)) : Option R25 :=
 (bif ((sheets0.length : Int) == 0) then some 4
 else (bif decide ((sheets0.length : Int) > 7) then some 3
 else DL25_1 n n.1 sheets0 (sheets0.length : Int) 0))
theorem S25_D (n : Nat × Nat) (hn : n.2 = 1) : S25 n = D25 n := by
  funext sheets0; refine (S25_eq n sheets0).trans ?_
  unfold D25
  (try simp only [DL25_1_eq n hn]) <;> first | with_reducible rfl | rfl
/-D 65 -/
noncomputable def DF65_1 (n : Nat × Nat) (f1 : List Int → Int → Int → Int → Option R65) (s0 : List Int) (v1 : Int) (v7 : Int) (v8 : Int) : Option R65 :=
 (bif decide (v8 < v7) then (idx s0 v8).bind fun x1' =>
 (bif (v1 == x1') then some v8
 else f1 s0 v1 v7 (wr .i64 (v8 + 1)))
 else some (-1))
noncomputable def DL65_1 (n : Nat × Nat) (m : Nat) : List Int → Int → Int → Int → Option R65 := Nat.rec (motive := fun _ => List Int → Int → Int → Int → Option R65) (fun _ _ _ _ => none) (fun _ ih => DF65_1 n ih) m
theorem DL65_1_succ (n : Nat × Nat) (m : Nat) : DL65_1 n (m + 1) = DF65_1 n (DL65_1 n m) := rfl
theorem DL65_1_eq (n : Nat × Nat) (hn : n.2 = 1) : ∀ m, L65_1 n m = DL65_1 n m
  | 0 => by funext s0 v1 v7 v8; kernel_rfl
  | m + 1 => by
    have ih := DL65_1_eq n hn m
    funext s0 v1 v7 v8; refine (L65_1_eq n m s0 v1 v7 v8).trans ?_
    rw [DL65_1_succ]
    unfold DF65_1
    (try simp only [ih]) <;> first | with_reducible rfl | rfl
noncomputable def D65 (n : Nat × Nat) (s0 : List Int) (v1 : Int) : Option R65 :=
    DL65_1 n n.1 s0 v1 (s0.length : Int) 0
theorem S65_D (n : Nat × Nat) (hn : n.2 = 1) : S65 n = D65 n := by
  funext s0 v1; refine (S65_eq n s0 v1).trans ?_
  unfold D65
  (try simp only [DL65_1_eq n hn]) <;> first | with_reducible rfl | rfl
/-D 80 -/
noncomputable def D80 (n : Nat × Nat) (s0 : List Int) (v1 : Int) : Option R80 :=
 (D65 n s0 v1).bind fun r1' =>
 some (decide (r1' ≥ 0))
theorem S80_D (n : Nat × Nat) (hn : n.2 = 1) : S80 n = D80 n := by
  funext s0 v1; refine (S80_eq n s0 v1).trans ?_
  unfold D80
  (try simp only [S65_D n hn]) <;> first | with_reducible rfl | rfl
/-D 58 -/
noncomputable def DF58_1 (n : Nat × Nat) (f1 : (List (Int × Int)) → List Int → List Int → Int → Int → (List (Int × Int)) → Option R58) (sheets0 : List (Int × Int)) (order1 : List Int) (v22 : List Int) (v23 : Int) (v24 : Int) (out7 : List (Int × Int)) : Option R58 :=
 (bif decide (v24 < v23) then (idx v22 v24).bind fun x2' =>
 ((bif (decide (x2' < 0) == false) then some (decide (x2' ≥ (sheets0.length : Int)))
 else some true)).bind fun b3' =>
 (bif b3' then some ([], 2)
 else (bif bounds none (some v24) none order1.length then (D80 n (order1.take (Int.toNat v24)) x2').bind fun r4' =>
 (bif r4' then some ([], 6)
 else (idx sheets0 x2').bind fun x5' =>
 (bif decide (out7.length + [x5'].length ≤ lim) then f1 sheets0 order1 v22 v23 (wr .i64 (v24 + 1)) (out7 ++ [x5'])
 else none))
 else none))
 else some (out7, 0))
noncomputable def DL58_1 (n : Nat × Nat) (m : Nat) : (List (Int × Int)) → List Int → List Int → Int → Int → (List (Int × Int)) → Option R58 := Nat.rec (motive := fun _ => (List (Int × Int)) → List Int → List Int → Int → Int → (List (Int × Int)) → Option R58) (fun _ _ _ _ _ _ => none) (fun _ ih => DF58_1 n ih) m
theorem DL58_1_succ (n : Nat × Nat) (m : Nat) : DL58_1 n (m + 1) = DF58_1 n (DL58_1 n m) := rfl
theorem DL58_1_eq (n : Nat × Nat) (hn : n.2 = 1) : ∀ m, L58_1 n m = DL58_1 n m
  | 0 => by funext sheets0 order1 v22 v23 v24 out7; kernel_rfl
  | m + 1 => by
    have ih := DL58_1_eq n hn m
    funext sheets0 order1 v22 v23 v24 out7; refine (L58_1_eq n m sheets0 order1 v22 v23 v24 out7).trans ?_
    rw [DL58_1_succ]
    unfold DF58_1
    (try simp only [ih, S25_D n hn, S80_D n hn]) <;> first | with_reducible rfl | rfl
noncomputable def D58 (n : Nat × Nat) (sheets0 : List (Int × Int)) (order1 : List Int) : Option R58 :=
 (D25 n sheets0).bind fun r1' =>
 (bif (r1' != 0) then some ([], r1')
 else (bif ((order1.length : Int) != (sheets0.length : Int)) then some ([], 5)
 else DL58_1 n n.1 sheets0 order1 order1 (order1.length : Int) 0 []))
theorem S58_D (n : Nat × Nat) (hn : n.2 = 1) : S58 n = D58 n := by
  funext sheets0 order1; refine (S58_eq n sheets0 order1).trans ?_
  unfold D58
  (try simp only [DL58_1_eq n hn, S25_D n hn, S80_D n hn]) <;> first | with_reducible rfl | rfl
/-D 16 -/
noncomputable def DF16_1 (n : Nat × Nat) (f1 : Int → Int → Int → Int → List Int → List Int → (List (Int × Int)) → Option R16) (a8 : Int) (b9 : Int) (v22 : Int) (v23 : Int) (v4 : List Int) (printed5 : List Int) (v21 : List (Int × Int)) : Option R16 :=
 (bif decide (v23 < v22) then (bif inB v23 v21.length then (idx v21 v23).bind fun x2' =>
 (bif decide (v4.length + [wr .i64 (a8 + x2'.1)].length ≤ lim) then (bif decide (printed5.length + [wr .i64 ((if b9 > (wr .i64 (a8 + x2'.1)) then b9 else (wr .i64 (a8 + x2'.1))) + x2'.2)].length ≤ lim) then f1 (wr .i64 (a8 + x2'.1)) (wr .i64 ((if b9 > (wr .i64 (a8 + x2'.1)) then b9 else (wr .i64 (a8 + x2'.1))) + x2'.2)) v22 (wr .i64 (v23 + 1)) (v4 ++ [wr .i64 (a8 + x2'.1)]) (printed5 ++ [wr .i64 ((if b9 > (wr .i64 (a8 + x2'.1)) then b9 else (wr .i64 (a8 + x2'.1))) + x2'.2)]) v21
 else none)
 else none)
 else none)
 else some (v4, printed5, 0))
noncomputable def DL16_1 (n : Nat × Nat) (m : Nat) : Int → Int → Int → Int → List Int → List Int → (List (Int × Int)) → Option R16 := Nat.rec (motive := fun _ => Int → Int → Int → Int → List Int → List Int → (List (Int × Int)) → Option R16) (fun _ _ _ _ _ _ _ => none) (fun _ ih => DF16_1 n ih) m
theorem DL16_1_succ (n : Nat × Nat) (m : Nat) : DL16_1 n (m + 1) = DF16_1 n (DL16_1 n m) := rfl
theorem DL16_1_eq (n : Nat × Nat) (hn : n.2 = 1) : ∀ m, L16_1 n m = DL16_1 n m
  | 0 => by funext a8 b9 v22 v23 v4 printed5 v21; kernel_rfl
  | m + 1 => by
    have ih := DL16_1_eq n hn m
    funext a8 b9 v22 v23 v4 printed5 v21; refine (L16_1_eq n m a8 b9 v22 v23 v4 printed5 v21).trans ?_
    rw [DL16_1_succ]
    unfold DF16_1
    (try simp only [ih, S58_D n hn]) <;> first | with_reducible rfl | rfl
noncomputable def D16 (n : Nat × Nat) (sheets0 : List (Int × Int)) (order1 : List Int) : Option R16 :=
 (D58 n sheets0 order1).bind fun r1' =>
 (bif (r1'.2 != 0) then some ([], [], r1'.2)
 else DL16_1 n n.1 0 0 (r1'.1.length : Int) 0 [] [] r1'.1)
theorem S16_D (n : Nat × Nat) (hn : n.2 = 1) : S16 n = D16 n := by
  funext sheets0 order1; refine (S16_eq n sheets0 order1).trans ?_
  unfold D16
  (try simp only [DL16_1_eq n hn, S58_D n hn]) <;> first | with_reducible rfl | rfl
/-D 64 -/
noncomputable def DF64_1 (n : Nat × Nat) (f1 : Int → (List (Int × Int)) → Int → Int → List Int → Option R64) (machine1 : Int) (v8 : List (Int × Int)) (v9 : Int) (v10 : Int) (out5 : List Int) : Option R64 :=
 (bif decide (v10 < v9) then (idx v8 v10).bind fun x1' =>
 (idx [x1'.1, x1'.2] machine1).bind fun x2' =>
 (bif decide (out5.length + [x2'].length ≤ lim) then f1 machine1 v8 v9 (wr .i64 (v10 + 1)) (out5 ++ [x2'])
 else none)
 else some out5)
noncomputable def DL64_1 (n : Nat × Nat) (m : Nat) : Int → (List (Int × Int)) → Int → Int → List Int → Option R64 := Nat.rec (motive := fun _ => Int → (List (Int × Int)) → Int → Int → List Int → Option R64) (fun _ _ _ _ _ => none) (fun _ ih => DF64_1 n ih) m
theorem DL64_1_succ (n : Nat × Nat) (m : Nat) : DL64_1 n (m + 1) = DF64_1 n (DL64_1 n m) := rfl
theorem DL64_1_eq (n : Nat × Nat) (hn : n.2 = 1) : ∀ m, L64_1 n m = DL64_1 n m
  | 0 => by funext machine1 v8 v9 v10 out5; kernel_rfl
  | m + 1 => by
    have ih := DL64_1_eq n hn m
    funext machine1 v8 v9 v10 out5; refine (L64_1_eq n m machine1 v8 v9 v10 out5).trans ?_
    rw [DL64_1_succ]
    unfold DF64_1
    (try simp only [ih]) <;> first | with_reducible rfl | rfl
noncomputable def D64 (n : Nat × Nat) (sheets0 : List (Int × Int)) (machine1 : Int) : Option R64 :=
    DL64_1 n n.1 machine1 sheets0 (sheets0.length : Int) 0 []
theorem S64_D (n : Nat × Nat) (hn : n.2 = 1) : S64 n = D64 n := by
  funext sheets0 machine1; refine (S64_eq n sheets0 machine1).trans ?_
  unfold D64
  (try simp only [DL64_1_eq n hn]) <;> first | with_reducible rfl | rfl
/-D 63 -/
noncomputable def DF63_1 (n : Nat × Nat) (f1 : Int → List Int → Int → Int → Option R63) (v3 : Int) (v6 : List Int) (v7 : Int) (v8 : Int) : Option R63 :=
 (bif decide (v8 < v7) then (idx v6 v8).bind fun x1' =>
      f1 (wr .i64 (v3 + x1')) v6 v7 (wr .i64 (v8 + 1))
 else some v3)
noncomputable def DL63_1 (n : Nat × Nat) (m : Nat) : Int → List Int → Int → Int → Option R63 := Nat.rec (motive := fun _ => Int → List Int → Int → Int → Option R63) (fun _ _ _ _ => none) (fun _ ih => DF63_1 n ih) m
theorem DL63_1_succ (n : Nat × Nat) (m : Nat) : DL63_1 n (m + 1) = DF63_1 n (DL63_1 n m) := rfl
theorem DL63_1_eq (n : Nat × Nat) (hn : n.2 = 1) : ∀ m, L63_1 n m = DL63_1 n m
  | 0 => by funext v3 v6 v7 v8; kernel_rfl
  | m + 1 => by
    have ih := DL63_1_eq n hn m
    funext v3 v6 v7 v8; refine (L63_1_eq n m v3 v6 v7 v8).trans ?_
    rw [DL63_1_succ]
    unfold DF63_1
    (try simp only [ih]) <;> first | with_reducible rfl | rfl
noncomputable def D63 (n : Nat × Nat) (l0 : List Int) : Option R63 :=
    DL63_1 n n.1 0 l0 (l0.length : Int) 0
theorem S63_D (n : Nat × Nat) (hn : n.2 = 1) : S63 n = D63 n := by
  funext l0; refine (S63_eq n l0).trans ?_
  unfold D63
  (try simp only [DL63_1_eq n hn]) <;> first | with_reducible rfl | rfl
/-D 66 -/
noncomputable def DF66_1 (n : Nat × Nat) (f1 : (List (Int × Int)) → Int → Int → List Int → Option R66) (l0 : List (Int × Int)) (v6 : Int) (v7 : Int) (out3 : List Int) : Option R66 :=
 (bif decide (v7 < v6) then (bif bounds none (some (wr .i64 (v7 + 1))) none l0.length then (D64 n (l0.take (Int.toNat (wr .i64 (v7 + 1)))) 0).bind fun r1' =>
 (D63 n r1').bind fun r2' =>
 (bif bounds (some v7) none none l0.length then (D64 n (l0.drop (Int.toNat v7)) 1).bind fun r3' =>
 (D63 n r3').bind fun r4' =>
 (bif decide (out3.length + [wr .i64 (r2' + r4')].length ≤ lim) then f1 l0 v6 (wr .i64 (v7 + 1)) (out3 ++ [wr .i64 (r2' + r4')])
 else none)
 else none)
 else none)
 else some out3)
noncomputable def DL66_1 (n : Nat × Nat) (m : Nat) : (List (Int × Int)) → Int → Int → List Int → Option R66 := Nat.rec (motive := fun _ => (List (Int × Int)) → Int → Int → List Int → Option R66) (fun _ _ _ _ => none) (fun _ ih => DF66_1 n ih) m
theorem DL66_1_succ (n : Nat × Nat) (m : Nat) : DL66_1 n (m + 1) = DF66_1 n (DL66_1 n m) := rfl
theorem DL66_1_eq (n : Nat × Nat) (hn : n.2 = 1) : ∀ m, L66_1 n m = DL66_1 n m
  | 0 => by funext l0 v6 v7 out3; kernel_rfl
  | m + 1 => by
    have ih := DL66_1_eq n hn m
    funext l0 v6 v7 out3; refine (L66_1_eq n m l0 v6 v7 out3).trans ?_
    rw [DL66_1_succ]
    unfold DF66_1
    (try simp only [ih, S63_D n hn, S64_D n hn]) <;> first | with_reducible rfl | rfl
noncomputable def D66 (n : Nat × Nat) (l0 : List (Int × Int)) : Option R66 :=
    DL66_1 n n.1 l0 (l0.length : Int) 0 []
theorem S66_D (n : Nat × Nat) (hn : n.2 = 1) : S66 n = D66 n := by
  funext l0; refine (S66_eq n l0).trans ?_
  unfold D66
  (try simp only [DL66_1_eq n hn, S63_D n hn, S64_D n hn]) <;> first | with_reducible rfl | rfl
/-D 84 -/
noncomputable def DF84_1 (n : Nat × Nat) (f1 : Int → List Int → Int → Int → Option R84) (first0 : Int) (v7 : List Int) (v8 : Int) (v9 : Int) : Option R84 :=
 (bif decide (v9 < v8) then (idx v7 v9).bind fun x1' =>
      f1 (if x1' > first0 then x1' else first0) v7 v8 (wr .i64 (v9 + 1))
 else some first0)
noncomputable def DL84_1 (n : Nat × Nat) (m : Nat) : Int → List Int → Int → Int → Option R84 := Nat.rec (motive := fun _ => Int → List Int → Int → Int → Option R84) (fun _ _ _ _ => none) (fun _ ih => DF84_1 n ih) m
theorem DL84_1_succ (n : Nat × Nat) (m : Nat) : DL84_1 n (m + 1) = DF84_1 n (DL84_1 n m) := rfl
theorem DL84_1_eq (n : Nat × Nat) (hn : n.2 = 1) : ∀ m, L84_1 n m = DL84_1 n m
  | 0 => by funext first0 v7 v8 v9; kernel_rfl
  | m + 1 => by
    have ih := DL84_1_eq n hn m
    funext first0 v7 v8 v9; refine (L84_1_eq n m first0 v7 v8 v9).trans ?_
    rw [DL84_1_succ]
    unfold DF84_1
    (try simp only [ih]) <;> first | with_reducible rfl | rfl
noncomputable def D84 (n : Nat × Nat) (first0 : Int) (v1 : List Int) : Option R84 :=
    DL84_1 n n.1 first0 v1 (v1.length : Int) 0
theorem S84_D (n : Nat × Nat) (hn : n.2 = 1) : S84 n = D84 n := by
  funext first0 v1; refine (S84_eq n first0 v1).trans ?_
  unfold D84
  (try simp only [DL84_1_eq n hn]) <;> first | with_reducible rfl | rfl
/-D 61 -/
noncomputable def D61 (n : Nat × Nat) (l0 : List (Int × Int)) : Option R61 :=
 (D66 n l0).bind fun r1' =>
 (bif inB 0 r1'.length then (idx r1' 0).bind fun x2' =>
 (bif bounds (some 1) none none r1'.length then (D84 n x2' ((r1'.drop (0 + (Int.toNat 1))).take (r1'.length - (Int.toNat 1)))).bind fun r3' =>
 some r3'
 else none)
 else none)
theorem S61_D (n : Nat × Nat) (hn : n.2 = 1) : S61 n = D61 n := by
  funext l0; refine (S61_eq n l0).trans ?_
  unfold D61
  (try simp only [S66_D n hn, S84_D n hn]) <;> first | with_reducible rfl | rfl
/-D 19 -/
noncomputable def D19 (n : Nat × Nat) (sheets0 : List (Int × Int)) (order1 : List Int) : Option R19 :=
 (D58 n sheets0 order1).bind fun r1' =>
 (bif (r1'.2 != 0) then some (0, r1'.2)
 else (D61 n r1'.1).bind fun r2' =>
 some (r2', 0))
theorem S19_D (n : Nat × Nat) (hn : n.2 = 1) : S19 n = D19 n := by
  funext sheets0 order1; refine (S19_eq n sheets0 order1).trans ?_
  unfold D19
  (try simp only [S58_D n hn, S61_D n hn]) <;> first | with_reducible rfl | rfl
/-D 21 -/
noncomputable def D21 (n : Nat × Nat) (sheets0 : List (Int × Int)) (order1 : List Int) : Option R21 :=
 (D58 n sheets0 order1).bind fun r1' =>
 (bif (r1'.2 != 0) then some (0, r1'.2)
 else (D61 n r1'.1).bind fun r2' =>
 (D64 n r1'.1 1).bind fun r3' =>
 (D63 n r3').bind fun r4' =>
 some (wr .i64 (r2' - r4'), 0))
theorem S21_D (n : Nat × Nat) (hn : n.2 = 1) : S21 n = D21 n := by
  funext sheets0 order1; refine (S21_eq n sheets0 order1).trans ?_
  unfold D21
  (try simp only [S58_D n hn, S61_D n hn, S63_D n hn, S64_D n hn]) <;> first | with_reducible rfl | rfl
/-D 23 -/
noncomputable def D23 (n : Nat × Nat) (sheets0 : List (Int × Int)) (order1 : List Int) : Option R23 :=
 (D58 n sheets0 order1).bind fun r1' =>
 (bif (r1'.2 != 0) then some (0, r1'.2)
 else (D66 n r1'.1).bind fun r2' =>
 (D61 n r1'.1).bind fun r3' =>
 (D65 n r2' r3').bind fun r4' =>
 some (r4', 0))
theorem S23_D (n : Nat × Nat) (hn : n.2 = 1) : S23 n = D23 n := by
  funext sheets0 order1; refine (S23_eq n sheets0 order1).trans ?_
  unfold D23
  (try simp only [S58_D n hn, S61_D n hn, S65_D n hn, S66_D n hn]) <;> first | with_reducible rfl | rfl
/-D 86 -/
noncomputable def D86 (n : Nat × Nat) (i0 : Int) (j1 : Int) (v2 : List (Int × Int)) : Option R86 :=
 (idx v2 i0).bind fun x1' =>
 (idx v2 j1).bind fun x2' =>
 some (wr .i64 (x1'.1 - x2'.1))
theorem S86_D (n : Nat × Nat) (hn : n.2 = 1) : S86 n = D86 n := by
  funext i0 j1 v2; refine (S86_eq n i0 j1 v2).trans ?_
  unfold D86
  first | with_reducible rfl | rfl
/-D 95c86io1001 -/
noncomputable def DF95c86io1001_2 (n : Nat × Nat) (f1 : Int → Int → Int → List Int → (List (Int × Int)) → Option R95c86io1001) (f2 : Int → Int → Int → Int → List Int → (List (Int × Int)) → Option R95c86io1001) (a1 : Int) (b2 : Int) (i8 : Int) (j9 : Int) (u0 : List Int) (u1 : List (Int × Int)) : Option R95c86io1001 :=
 ((bif (decide (j9 > a1) == true) then (bif inB j9 u0.length then (idx u0 j9).bind fun x1' =>
 (bif inB (wr .i64 (j9 - 1)) u0.length then (idx u0 (wr .i64 (j9 - 1))).bind fun x2' =>
 (D86 n x1' x2' u1).bind fun r3' =>
 some (decide (r3' < 0))
 else none)
 else none)
 else some false)).bind fun b4' =>
 (bif b4' then (bif inB (wr .i64 (j9 - 1)) u0.length then (idx u0 (wr .i64 (j9 - 1))).bind fun x5' =>
 (bif inB j9 u0.length then (idx u0 j9).bind fun x6' =>
 (bif inB j9 u0.length then (idx u0 j9).bind fun x7' =>
 (bif inB (wr .i64 (j9 - 1)) (u0.set (Int.toNat j9) x5').length then (idx (u0.set (Int.toNat j9) x5') (wr .i64 (j9 - 1))).bind fun x8' =>
              f2 a1 b2 i8 (wr .i64 (j9 - 1)) ((u0.set (Int.toNat j9) x5').set (Int.toNat (wr .i64 (j9 - 1))) x6') u1
 else none)
 else none)
 else none)
 else none)
 else f1 a1 b2 (wr .i64 (i8 + 1)) u0 u1)
noncomputable def DL95c86io1001_2 (n : Nat × Nat) (f1 : Int → Int → Int → List Int → (List (Int × Int)) → Option R95c86io1001) (m : Nat) : Int → Int → Int → Int → List Int → (List (Int × Int)) → Option R95c86io1001 := Nat.rec (motive := fun _ => Int → Int → Int → Int → List Int → (List (Int × Int)) → Option R95c86io1001) (fun _ _ _ _ _ _ => none) (fun _ ih => DF95c86io1001_2 n f1 ih) m
theorem DL95c86io1001_2_succ (n : Nat × Nat) (f1 : Int → Int → Int → List Int → (List (Int × Int)) → Option R95c86io1001) (m : Nat) : DL95c86io1001_2 n f1 (m + 1) = DF95c86io1001_2 n f1 (DL95c86io1001_2 n f1 m) := rfl
theorem DL95c86io1001_2_eq (n : Nat × Nat) (hn : n.2 = 1) (m1 : Nat) : ∀ m, L95c86io1001_2 n m1 m = DL95c86io1001_2 n (L95c86io1001_1 n m1) m
  | 0 => by funext a1 b2 i8 j9 u0 u1; kernel_rfl
  | m + 1 => by
    have ih := DL95c86io1001_2_eq n hn m1 m
    funext a1 b2 i8 j9 u0 u1; refine (L95c86io1001_2_eq n m1 m a1 b2 i8 j9 u0 u1).trans ?_
    rw [DL95c86io1001_2_succ]
    unfold DF95c86io1001_2
    (try simp only [ih, S86_D n hn]) <;> first | with_reducible rfl | rfl
noncomputable def DF95c86io1001_1 (n : Nat × Nat) (f1 : Int → Int → Int → List Int → (List (Int × Int)) → Option R95c86io1001) (a1 : Int) (b2 : Int) (i8 : Int) (u0 : List Int) (u1 : List (Int × Int)) : Option R95c86io1001 :=
 (bif decide (i8 < b2) then DL95c86io1001_2 n f1 n.1 a1 b2 i8 i8 u0 u1
 else some ((), u0, u1, ()))
noncomputable def DL95c86io1001_1 (n : Nat × Nat) (m : Nat) : Int → Int → Int → List Int → (List (Int × Int)) → Option R95c86io1001 := Nat.rec (motive := fun _ => Int → Int → Int → List Int → (List (Int × Int)) → Option R95c86io1001) (fun _ _ _ _ _ => none) (fun _ ih => DF95c86io1001_1 n ih) m
theorem DL95c86io1001_1_succ (n : Nat × Nat) (m : Nat) : DL95c86io1001_1 n (m + 1) = DF95c86io1001_1 n (DL95c86io1001_1 n m) := rfl
theorem DL95c86io1001_1_eq (n : Nat × Nat) (hn : n.2 = 1) : ∀ m, L95c86io1001_1 n m = DL95c86io1001_1 n m
  | 0 => by funext a1 b2 i8 u0 u1; kernel_rfl
  | m + 1 => by
    have ih := DL95c86io1001_1_eq n hn m
    funext a1 b2 i8 u0 u1; refine (L95c86io1001_1_eq n m a1 b2 i8 u0 u1).trans ?_
    rw [DL95c86io1001_1_succ]
    unfold DF95c86io1001_1
    (try simp only [ih, DL95c86io1001_2_eq n hn, S86_D n hn]) <;> first | with_reducible rfl | rfl
noncomputable def D95c86io1001 (n : Nat × Nat) (data0 : List Int) (a1 : Int) (b2 : Int) (cp_3_0 : List (Int × Int)) : Option R95c86io1001 :=
    DL95c86io1001_1 n n.1 a1 b2 (wr .i64 (a1 + 1)) data0 cp_3_0
theorem S95c86io1001_D (n : Nat × Nat) (hn : n.2 = 1) : S95c86io1001 n = D95c86io1001 n := by
  funext data0 a1 b2 cp_3_0; refine (S95c86io1001_eq n data0 a1 b2 cp_3_0).trans ?_
  unfold D95c86io1001
  (try simp only [DL95c86io1001_2_eq n hn, DL95c86io1001_1_eq n hn, S86_D n hn]) <;> first | with_reducible rfl | rfl
/-D 98c86io10001 -/
noncomputable def DF98c86io10001_1 (n : Nat × Nat) (f1 : Int → Int → Int → Int → List Int → (List (Int × Int)) → Option R98c86io10001) (a1 : Int) (b2 : Int) (v3 : Int) (i10 : Int) (u0 : List Int) (u1 : List (Int × Int)) : Option R98c86io10001 :=
 (bif decide (i10 < v3) then (bif inB (wr .i64 (b2 + i10)) u0.length then (idx u0 (wr .i64 (b2 + i10))).bind fun x1' =>
 (bif inB (wr .i64 (a1 + i10)) u0.length then (idx u0 (wr .i64 (a1 + i10))).bind fun x2' =>
 (bif inB (wr .i64 (a1 + i10)) u0.length then (idx u0 (wr .i64 (a1 + i10))).bind fun x3' =>
 (bif inB (wr .i64 (b2 + i10)) (u0.set (Int.toNat (wr .i64 (a1 + i10))) x1').length then (idx (u0.set (Int.toNat (wr .i64 (a1 + i10))) x1') (wr .i64 (b2 + i10))).bind fun x4' =>
              f1 a1 b2 v3 (wr .i64 (i10 + 1)) ((u0.set (Int.toNat (wr .i64 (a1 + i10))) x1').set (Int.toNat (wr .i64 (b2 + i10))) x2') u1
 else none)
 else none)
 else none)
 else none)
 else some ((), u0, u1, ()))
noncomputable def DL98c86io10001_1 (n : Nat × Nat) (m : Nat) : Int → Int → Int → Int → List Int → (List (Int × Int)) → Option R98c86io10001 := Nat.rec (motive := fun _ => Int → Int → Int → Int → List Int → (List (Int × Int)) → Option R98c86io10001) (fun _ _ _ _ _ _ => none) (fun _ ih => DF98c86io10001_1 n ih) m
theorem DL98c86io10001_1_succ (n : Nat × Nat) (m : Nat) : DL98c86io10001_1 n (m + 1) = DF98c86io10001_1 n (DL98c86io10001_1 n m) := rfl
theorem DL98c86io10001_1_eq (n : Nat × Nat) (hn : n.2 = 1) : ∀ m, L98c86io10001_1 n m = DL98c86io10001_1 n m
  | 0 => by funext a1 b2 v3 i10 u0 u1; kernel_rfl
  | m + 1 => by
    have ih := DL98c86io10001_1_eq n hn m
    funext a1 b2 v3 i10 u0 u1; refine (L98c86io10001_1_eq n m a1 b2 v3 i10 u0 u1).trans ?_
    rw [DL98c86io10001_1_succ]
    unfold DF98c86io10001_1
    (try simp only [ih]) <;> first | with_reducible rfl | rfl
noncomputable def D98c86io10001 (n : Nat × Nat) (data0 : List Int) (a1 : Int) (b2 : Int) (v3 : Int) (cp_4_0 : List (Int × Int)) : Option R98c86io10001 :=
    DL98c86io10001_1 n n.1 a1 b2 v3 0 data0 cp_4_0
theorem S98c86io10001_D (n : Nat × Nat) (hn : n.2 = 1) : S98c86io10001 n = D98c86io10001 n := by
  funext data0 a1 b2 v3 cp_4_0; refine (S98c86io10001_eq n data0 a1 b2 v3 cp_4_0).trans ?_
  unfold D98c86io10001
  (try simp only [DL98c86io10001_1_eq n hn]) <;> first | with_reducible rfl | rfl
/-D 97c86io10001 -/
noncomputable def DF97c86io10001_1 (n : Nat × Nat) (f1 : Int → Int → Int → List Int → (List (Int × Int)) → Option R97c86io10001) (m2 : Int) (i10 : Int) (j11 : Int) (u0 : List Int) (u1 : List (Int × Int)) : Option R97c86io10001 :=
 (bif (i10 != j11) then (bif decide (i10 > j11) then (D98c86io10001 n u0 (wr .i64 (m2 - i10)) m2 j11 u1).bind fun r1' =>
 (bif Nat.beq r1'.2.1.length u0.length then f1 m2 (wr .i64 (i10 - j11)) j11 r1'.2.1 r1'.2.2.1
 else none)
 else (D98c86io10001 n u0 (wr .i64 (m2 - i10)) (wr .i64 ((wr .i64 (m2 + j11)) - i10)) i10 u1).bind fun r2' =>
 (bif Nat.beq r2'.2.1.length u0.length then f1 m2 i10 (wr .i64 (j11 - i10)) r2'.2.1 r2'.2.2.1
 else none))
 else (D98c86io10001 n u0 (wr .i64 (m2 - i10)) m2 i10 u1).bind fun r3' =>
 (bif Nat.beq r3'.2.1.length u0.length then some ((), r3'.2.1, r3'.2.2.1, ())
 else none))
noncomputable def DL97c86io10001_1 (n : Nat × Nat) (m : Nat) : Int → Int → Int → List Int → (List (Int × Int)) → Option R97c86io10001 := Nat.rec (motive := fun _ => Int → Int → Int → List Int → (List (Int × Int)) → Option R97c86io10001) (fun _ _ _ _ _ => none) (fun _ ih => DF97c86io10001_1 n ih) m
theorem DL97c86io10001_1_succ (n : Nat × Nat) (m : Nat) : DL97c86io10001_1 n (m + 1) = DF97c86io10001_1 n (DL97c86io10001_1 n m) := rfl
theorem DL97c86io10001_1_eq (n : Nat × Nat) (hn : n.2 = 1) : ∀ m, L97c86io10001_1 n m = DL97c86io10001_1 n m
  | 0 => by funext m2 i10 j11 u0 u1; kernel_rfl
  | m + 1 => by
    have ih := DL97c86io10001_1_eq n hn m
    funext m2 i10 j11 u0 u1; refine (L97c86io10001_1_eq n m m2 i10 j11 u0 u1).trans ?_
    rw [DL97c86io10001_1_succ]
    unfold DF97c86io10001_1
    (try simp only [ih, S98c86io10001_D n hn]) <;> first | with_reducible rfl | rfl
noncomputable def D97c86io10001 (n : Nat × Nat) (data0 : List Int) (a1 : Int) (m2 : Int) (b3 : Int) (cp_4_0 : List (Int × Int)) : Option R97c86io10001 :=
    DL97c86io10001_1 n n.1 m2 (wr .i64 (m2 - a1)) (wr .i64 (b3 - m2)) data0 cp_4_0
theorem S97c86io10001_D (n : Nat × Nat) (hn : n.2 = 1) : S97c86io10001 n = D97c86io10001 n := by
  funext data0 a1 m2 b3 cp_4_0; refine (S97c86io10001_eq n data0 a1 m2 b3 cp_4_0).trans ?_
  unfold D97c86io10001
  (try simp only [DL97c86io10001_1_eq n hn, S98c86io10001_D n hn]) <;> first | with_reducible rfl | rfl
/-D 96c86io10001 -/
noncomputable def DF96c86io10001_4 (n : Nat × Nat) (SS : List Int → Int → Int → Int → (List (Int × Int)) → Option R96c86io10001) (f1 : Int → Int → List Int → (List (Int × Int)) → Option R96c86io10001) (i10 : Int) (k13 : Int) (u0 : List Int) (u1 : List (Int × Int)) : Option R96c86io10001 :=
 (bif decide (k13 < wr .i64 (i10 - 1)) then (bif inB (wr .i64 (k13 + 1)) u0.length then (idx u0 (wr .i64 (k13 + 1))).bind fun x24' =>
 (bif inB k13 u0.length then (idx u0 k13).bind fun x25' =>
 (bif inB k13 u0.length then (idx u0 k13).bind fun x26' =>
 (bif inB (wr .i64 (k13 + 1)) (u0.set (Int.toNat k13) x24').length then (idx (u0.set (Int.toNat k13) x24') (wr .i64 (k13 + 1))).bind fun x27' =>
              f1 i10 (wr .i64 (k13 + 1)) ((u0.set (Int.toNat k13) x24').set (Int.toNat (wr .i64 (k13 + 1))) x25') u1
 else none)
 else none)
 else none)
 else none)
 else some ((), u0, u1, ()))
noncomputable def DL96c86io10001_4 (n : Nat × Nat) (SS : List Int → Int → Int → Int → (List (Int × Int)) → Option R96c86io10001) (m : Nat) : Int → Int → List Int → (List (Int × Int)) → Option R96c86io10001 := Nat.rec (motive := fun _ => Int → Int → List Int → (List (Int × Int)) → Option R96c86io10001) (fun _ _ _ _ => none) (fun _ ih => DF96c86io10001_4 n SS ih) m
theorem DL96c86io10001_4_succ (n : Nat × Nat) (SS : List Int → Int → Int → Int → (List (Int × Int)) → Option R96c86io10001) (m : Nat) : DL96c86io10001_4 n SS (m + 1) = DF96c86io10001_4 n SS (DL96c86io10001_4 n SS m) := rfl
theorem DL96c86io10001_4_eq (n : Nat × Nat) (hn : n.2 = 1) (SS : List Int → Int → Int → Int → (List (Int × Int)) → Option R96c86io10001) : ∀ m, L96c86io10001_4 n SS m = DL96c86io10001_4 n SS m
  | 0 => by funext i10 k13 u0 u1; kernel_rfl
  | m + 1 => by
    have ih := DL96c86io10001_4_eq n hn SS m
    funext i10 k13 u0 u1; refine (L96c86io10001_4_eq n SS m i10 k13 u0 u1).trans ?_
    rw [DL96c86io10001_4_succ]
    unfold DF96c86io10001_4
    (try simp only [ih, S86_D n hn, S97c86io10001_D n hn]) <;> first | with_reducible rfl | rfl
noncomputable def DF96c86io10001_1 (n : Nat × Nat) (SS : List Int → Int → Int → Int → (List (Int × Int)) → Option R96c86io10001) (f1 : Int → Int → Int → List Int → (List (Int × Int)) → Option R96c86io10001) (a1 : Int) (i10 : Int) (j11 : Int) (u0 : List Int) (u1 : List (Int × Int)) : Option R96c86io10001 :=
 (bif decide (i10 < j11) then (bif decide (1 < 0) then none
 else (bif inB (wr .i64 (Int.fdiv (wr .u64 (wr .i64 (i10 + j11))) (2 ^ (min (Int.toNat 1) (IntKind.bits .u64))))) u0.length then (idx u0 (wr .i64 (Int.fdiv (wr .u64 (wr .i64 (i10 + j11))) (2 ^ (min (Int.toNat 1) (IntKind.bits .u64)))))).bind fun x1' =>
 (bif inB a1 u0.length then (idx u0 a1).bind fun x2' =>
 (D86 n x1' x2' u1).bind fun r3' =>
 (bif decide (r3' < 0) then f1 a1 (wr .i64 ((wr .i64 (Int.fdiv (wr .u64 (wr .i64 (i10 + j11))) (2 ^ (min (Int.toNat 1) (IntKind.bits .u64))))) + 1)) j11 u0 u1
 else f1 a1 i10 (wr .i64 (Int.fdiv (wr .u64 (wr .i64 (i10 + j11))) (2 ^ (min (Int.toNat 1) (IntKind.bits .u64))))) u0 u1)
 else none)
 else none))
 else DL96c86io10001_4 n SS n.1 i10 a1 u0 u1)
noncomputable def DL96c86io10001_1 (n : Nat × Nat) (SS : List Int → Int → Int → Int → (List (Int × Int)) → Option R96c86io10001) (m : Nat) : Int → Int → Int → List Int → (List (Int × Int)) → Option R96c86io10001 := Nat.rec (motive := fun _ => Int → Int → Int → List Int → (List (Int × Int)) → Option R96c86io10001) (fun _ _ _ _ _ => none) (fun _ ih => DF96c86io10001_1 n SS ih) m
theorem DL96c86io10001_1_succ (n : Nat × Nat) (SS : List Int → Int → Int → Int → (List (Int × Int)) → Option R96c86io10001) (m : Nat) : DL96c86io10001_1 n SS (m + 1) = DF96c86io10001_1 n SS (DL96c86io10001_1 n SS m) := rfl
theorem DL96c86io10001_1_eq (n : Nat × Nat) (hn : n.2 = 1) (SS : List Int → Int → Int → Int → (List (Int × Int)) → Option R96c86io10001) : ∀ m, L96c86io10001_1 n SS m = DL96c86io10001_1 n SS m
  | 0 => by funext a1 i10 j11 u0 u1; kernel_rfl
  | m + 1 => by
    have ih := DL96c86io10001_1_eq n hn SS m
    funext a1 i10 j11 u0 u1; refine (L96c86io10001_1_eq n SS m a1 i10 j11 u0 u1).trans ?_
    rw [DL96c86io10001_1_succ]
    unfold DF96c86io10001_1
    (try simp only [ih, DL96c86io10001_4_eq n hn SS, S86_D n hn, S97c86io10001_D n hn]) <;> first | with_reducible rfl | rfl
noncomputable def DF96c86io10001_5 (n : Nat × Nat) (SS : List Int → Int → Int → Int → (List (Int × Int)) → Option R96c86io10001) (f1 : Int → Int → List Int → (List (Int × Int)) → Option R96c86io10001) (i14 : Int) (k17 : Int) (u0 : List Int) (u1 : List (Int × Int)) : Option R96c86io10001 :=
 (bif decide (k17 > i14) then (bif inB (wr .i64 (k17 - 1)) u0.length then (idx u0 (wr .i64 (k17 - 1))).bind fun x28' =>
 (bif inB k17 u0.length then (idx u0 k17).bind fun x29' =>
 (bif inB k17 u0.length then (idx u0 k17).bind fun x30' =>
 (bif inB (wr .i64 (k17 - 1)) (u0.set (Int.toNat k17) x28').length then (idx (u0.set (Int.toNat k17) x28') (wr .i64 (k17 - 1))).bind fun x31' =>
              f1 i14 (wr .i64 (k17 - 1)) ((u0.set (Int.toNat k17) x28').set (Int.toNat (wr .i64 (k17 - 1))) x29') u1
 else none)
 else none)
 else none)
 else none)
 else some ((), u0, u1, ()))
noncomputable def DL96c86io10001_5 (n : Nat × Nat) (SS : List Int → Int → Int → Int → (List (Int × Int)) → Option R96c86io10001) (m : Nat) : Int → Int → List Int → (List (Int × Int)) → Option R96c86io10001 := Nat.rec (motive := fun _ => Int → Int → List Int → (List (Int × Int)) → Option R96c86io10001) (fun _ _ _ _ => none) (fun _ ih => DF96c86io10001_5 n SS ih) m
theorem DL96c86io10001_5_succ (n : Nat × Nat) (SS : List Int → Int → Int → Int → (List (Int × Int)) → Option R96c86io10001) (m : Nat) : DL96c86io10001_5 n SS (m + 1) = DF96c86io10001_5 n SS (DL96c86io10001_5 n SS m) := rfl
theorem DL96c86io10001_5_eq (n : Nat × Nat) (hn : n.2 = 1) (SS : List Int → Int → Int → Int → (List (Int × Int)) → Option R96c86io10001) : ∀ m, L96c86io10001_5 n SS m = DL96c86io10001_5 n SS m
  | 0 => by funext i14 k17 u0 u1; kernel_rfl
  | m + 1 => by
    have ih := DL96c86io10001_5_eq n hn SS m
    funext i14 k17 u0 u1; refine (L96c86io10001_5_eq n SS m i14 k17 u0 u1).trans ?_
    rw [DL96c86io10001_5_succ]
    unfold DF96c86io10001_5
    (try simp only [ih, DL96c86io10001_4_eq n hn SS, DL96c86io10001_1_eq n hn SS, S86_D n hn, S97c86io10001_D n hn]) <;> first | with_reducible rfl | rfl
noncomputable def DF96c86io10001_2 (n : Nat × Nat) (SS : List Int → Int → Int → Int → (List (Int × Int)) → Option R96c86io10001) (f1 : Int → Int → Int → List Int → (List (Int × Int)) → Option R96c86io10001) (m2 : Int) (i14 : Int) (j15 : Int) (u0 : List Int) (u1 : List (Int × Int)) : Option R96c86io10001 :=
 (bif decide (i14 < j15) then (bif decide (1 < 0) then none
 else (bif inB m2 u0.length then (idx u0 m2).bind fun x4' =>
 (bif inB (wr .i64 (Int.fdiv (wr .u64 (wr .i64 (i14 + j15))) (2 ^ (min (Int.toNat 1) (IntKind.bits .u64))))) u0.length then (idx u0 (wr .i64 (Int.fdiv (wr .u64 (wr .i64 (i14 + j15))) (2 ^ (min (Int.toNat 1) (IntKind.bits .u64)))))).bind fun x5' =>
 (D86 n x4' x5' u1).bind fun r6' =>
 (bif (!(decide (r6' < 0))) then f1 m2 (wr .i64 ((wr .i64 (Int.fdiv (wr .u64 (wr .i64 (i14 + j15))) (2 ^ (min (Int.toNat 1) (IntKind.bits .u64))))) + 1)) j15 u0 u1
 else f1 m2 i14 (wr .i64 (Int.fdiv (wr .u64 (wr .i64 (i14 + j15))) (2 ^ (min (Int.toNat 1) (IntKind.bits .u64))))) u0 u1)
 else none)
 else none))
 else DL96c86io10001_5 n SS n.1 i14 m2 u0 u1)
noncomputable def DL96c86io10001_2 (n : Nat × Nat) (SS : List Int → Int → Int → Int → (List (Int × Int)) → Option R96c86io10001) (m : Nat) : Int → Int → Int → List Int → (List (Int × Int)) → Option R96c86io10001 := Nat.rec (motive := fun _ => Int → Int → Int → List Int → (List (Int × Int)) → Option R96c86io10001) (fun _ _ _ _ _ => none) (fun _ ih => DF96c86io10001_2 n SS ih) m
theorem DL96c86io10001_2_succ (n : Nat × Nat) (SS : List Int → Int → Int → Int → (List (Int × Int)) → Option R96c86io10001) (m : Nat) : DL96c86io10001_2 n SS (m + 1) = DF96c86io10001_2 n SS (DL96c86io10001_2 n SS m) := rfl
theorem DL96c86io10001_2_eq (n : Nat × Nat) (hn : n.2 = 1) (SS : List Int → Int → Int → Int → (List (Int × Int)) → Option R96c86io10001) : ∀ m, L96c86io10001_2 n SS m = DL96c86io10001_2 n SS m
  | 0 => by funext m2 i14 j15 u0 u1; kernel_rfl
  | m + 1 => by
    have ih := DL96c86io10001_2_eq n hn SS m
    funext m2 i14 j15 u0 u1; refine (L96c86io10001_2_eq n SS m m2 i14 j15 u0 u1).trans ?_
    rw [DL96c86io10001_2_succ]
    unfold DF96c86io10001_2
    (try simp only [ih, DL96c86io10001_4_eq n hn SS, DL96c86io10001_1_eq n hn SS, DL96c86io10001_5_eq n hn SS, S86_D n hn, S97c86io10001_D n hn]) <;> first | with_reducible rfl | rfl
noncomputable def DF96c86io10001_3 (n : Nat × Nat) (SS : List Int → Int → Int → Int → (List (Int × Int)) → Option R96c86io10001) (f1 : Int → Int → Int → Int → Int → Int → Int → Int → List Int → (List (Int × Int)) → Option R96c86io10001) (a1 : Int) (m2 : Int) (b3 : Int) (mid18 : Int) (v19 : Int) (start20 : Int) (r21 : Int) (p22 : Int) (u0 : List Int) (u1 : List (Int × Int)) : Option R96c86io10001 :=
 (bif decide (start20 < r21) then (bif decide (1 < 0) then none
 else (bif inB (wr .i64 (p22 - (wr .i64 (Int.fdiv (wr .u64 (wr .i64 (start20 + r21))) (2 ^ (min (Int.toNat 1) (IntKind.bits .u64))))))) u0.length then (idx u0 (wr .i64 (p22 - (wr .i64 (Int.fdiv (wr .u64 (wr .i64 (start20 + r21))) (2 ^ (min (Int.toNat 1) (IntKind.bits .u64)))))))).bind fun x7' =>
 (bif inB (wr .i64 (Int.fdiv (wr .u64 (wr .i64 (start20 + r21))) (2 ^ (min (Int.toNat 1) (IntKind.bits .u64))))) u0.length then (idx u0 (wr .i64 (Int.fdiv (wr .u64 (wr .i64 (start20 + r21))) (2 ^ (min (Int.toNat 1) (IntKind.bits .u64)))))).bind fun x8' =>
 (D86 n x7' x8' u1).bind fun r9' =>
 (bif (!(decide (r9' < 0))) then f1 a1 m2 b3 mid18 v19 (wr .i64 ((wr .i64 (Int.fdiv (wr .u64 (wr .i64 (start20 + r21))) (2 ^ (min (Int.toNat 1) (IntKind.bits .u64))))) + 1)) r21 p22 u0 u1
 else f1 a1 m2 b3 mid18 v19 start20 (wr .i64 (Int.fdiv (wr .u64 (wr .i64 (start20 + r21))) (2 ^ (min (Int.toNat 1) (IntKind.bits .u64))))) p22 u0 u1)
 else none)
 else none))
 else ((bif (decide (start20 < m2) == true) then some (decide (m2 < wr .i64 (v19 - start20)))
 else some false)).bind fun b10' =>
 (bif b10' then (D97c86io10001 n u0 start20 m2 (wr .i64 (v19 - start20)) u1).bind fun r11' =>
 (bif Nat.beq r11'.2.1.length u0.length then ((bif (decide (a1 < start20) == true) then some (decide (start20 < mid18))
 else some false)).bind fun b12' =>
 (bif b12' then (SS r11'.2.1 a1 start20 mid18 r11'.2.2.1).bind fun r13' =>
 (bif Nat.beq r13'.2.1.length r11'.2.1.length then ((bif (decide (mid18 < wr .i64 (v19 - start20)) == true) then some (decide (wr .i64 (v19 - start20) < b3))
 else some false)).bind fun b14' =>
 (bif b14' then (SS r13'.2.1 mid18 (wr .i64 (v19 - start20)) b3 r13'.2.2.1).bind fun r15' =>
 (bif Nat.beq r15'.2.1.length r13'.2.1.length then some ((), r15'.2.1, r15'.2.2.1, ())
 else none)
 else some ((), r13'.2.1, r13'.2.2.1, ()))
 else none)
 else ((bif (decide (mid18 < wr .i64 (v19 - start20)) == true) then some (decide (wr .i64 (v19 - start20) < b3))
 else some false)).bind fun b16' =>
 (bif b16' then (SS r11'.2.1 mid18 (wr .i64 (v19 - start20)) b3 r11'.2.2.1).bind fun r17' =>
 (bif Nat.beq r17'.2.1.length r11'.2.1.length then some ((), r17'.2.1, r17'.2.2.1, ())
 else none)
 else some ((), r11'.2.1, r11'.2.2.1, ())))
 else none)
 else ((bif (decide (a1 < start20) == true) then some (decide (start20 < mid18))
 else some false)).bind fun b18' =>
 (bif b18' then (SS u0 a1 start20 mid18 u1).bind fun r19' =>
 (bif Nat.beq r19'.2.1.length u0.length then ((bif (decide (mid18 < wr .i64 (v19 - start20)) == true) then some (decide (wr .i64 (v19 - start20) < b3))
 else some false)).bind fun b20' =>
 (bif b20' then (SS r19'.2.1 mid18 (wr .i64 (v19 - start20)) b3 r19'.2.2.1).bind fun r21' =>
 (bif Nat.beq r21'.2.1.length r19'.2.1.length then some ((), r21'.2.1, r21'.2.2.1, ())
 else none)
 else some ((), r19'.2.1, r19'.2.2.1, ()))
 else none)
 else ((bif (decide (mid18 < wr .i64 (v19 - start20)) == true) then some (decide (wr .i64 (v19 - start20) < b3))
 else some false)).bind fun b22' =>
 (bif b22' then (SS u0 mid18 (wr .i64 (v19 - start20)) b3 u1).bind fun r23' =>
 (bif Nat.beq r23'.2.1.length u0.length then some ((), r23'.2.1, r23'.2.2.1, ())
 else none)
 else some ((), u0, u1, ())))))
noncomputable def DL96c86io10001_3 (n : Nat × Nat) (SS : List Int → Int → Int → Int → (List (Int × Int)) → Option R96c86io10001) (m : Nat) : Int → Int → Int → Int → Int → Int → Int → Int → List Int → (List (Int × Int)) → Option R96c86io10001 := Nat.rec (motive := fun _ => Int → Int → Int → Int → Int → Int → Int → Int → List Int → (List (Int × Int)) → Option R96c86io10001) (fun _ _ _ _ _ _ _ _ _ _ => none) (fun _ ih => DF96c86io10001_3 n SS ih) m
theorem DL96c86io10001_3_succ (n : Nat × Nat) (SS : List Int → Int → Int → Int → (List (Int × Int)) → Option R96c86io10001) (m : Nat) : DL96c86io10001_3 n SS (m + 1) = DF96c86io10001_3 n SS (DL96c86io10001_3 n SS m) := rfl
theorem DL96c86io10001_3_eq (n : Nat × Nat) (hn : n.2 = 1) (SS : List Int → Int → Int → Int → (List (Int × Int)) → Option R96c86io10001) : ∀ m, L96c86io10001_3 n SS m = DL96c86io10001_3 n SS m
  | 0 => by funext a1 m2 b3 mid18 v19 start20 r21 p22 u0 u1; kernel_rfl
  | m + 1 => by
    have ih := DL96c86io10001_3_eq n hn SS m
    funext a1 m2 b3 mid18 v19 start20 r21 p22 u0 u1; refine (L96c86io10001_3_eq n SS m a1 m2 b3 mid18 v19 start20 r21 p22 u0 u1).trans ?_
    rw [DL96c86io10001_3_succ]
    unfold DF96c86io10001_3
    (try simp only [ih, DL96c86io10001_4_eq n hn SS, DL96c86io10001_1_eq n hn SS, DL96c86io10001_5_eq n hn SS, DL96c86io10001_2_eq n hn SS, S86_D n hn, S97c86io10001_D n hn]) <;> first | with_reducible rfl | rfl
noncomputable def DB96c86io10001 (n : Nat × Nat) (SS : List Int → Int → Int → Int → (List (Int × Int)) → Option R96c86io10001) (data0 : List Int) (a1 : Int) (m2 : Int) (b3 : Int) (cp_4_0 : List (Int × Int)) : Option R96c86io10001 :=
 (bif ((wr .i64 (m2 - a1)) == 1) then DL96c86io10001_1 n SS n.1 a1 m2 b3 data0 cp_4_0
 else (bif ((wr .i64 (b3 - m2)) == 1) then DL96c86io10001_2 n SS n.1 m2 a1 m2 data0 cp_4_0
 else (bif decide (1 < 0) then none
 else (bif decide (m2 > wr .i64 (Int.fdiv (wr .u64 (wr .i64 (a1 + b3))) (2 ^ (min (Int.toNat 1) (IntKind.bits .u64))))) then DL96c86io10001_3 n SS n.1 a1 m2 b3 (wr .i64 (Int.fdiv (wr .u64 (wr .i64 (a1 + b3))) (2 ^ (min (Int.toNat 1) (IntKind.bits .u64))))) (wr .i64 ((wr .i64 (Int.fdiv (wr .u64 (wr .i64 (a1 + b3))) (2 ^ (min (Int.toNat 1) (IntKind.bits .u64))))) + m2)) (wr .i64 ((wr .i64 ((wr .i64 (Int.fdiv (wr .u64 (wr .i64 (a1 + b3))) (2 ^ (min (Int.toNat 1) (IntKind.bits .u64))))) + m2)) - b3)) (wr .i64 (Int.fdiv (wr .u64 (wr .i64 (a1 + b3))) (2 ^ (min (Int.toNat 1) (IntKind.bits .u64))))) (wr .i64 ((wr .i64 ((wr .i64 (Int.fdiv (wr .u64 (wr .i64 (a1 + b3))) (2 ^ (min (Int.toNat 1) (IntKind.bits .u64))))) + m2)) - 1)) data0 cp_4_0
 else DL96c86io10001_3 n SS n.1 a1 m2 b3 (wr .i64 (Int.fdiv (wr .u64 (wr .i64 (a1 + b3))) (2 ^ (min (Int.toNat 1) (IntKind.bits .u64))))) (wr .i64 ((wr .i64 (Int.fdiv (wr .u64 (wr .i64 (a1 + b3))) (2 ^ (min (Int.toNat 1) (IntKind.bits .u64))))) + m2)) a1 m2 (wr .i64 ((wr .i64 ((wr .i64 (Int.fdiv (wr .u64 (wr .i64 (a1 + b3))) (2 ^ (min (Int.toNat 1) (IntKind.bits .u64))))) + m2)) - 1)) data0 cp_4_0))))
theorem DB96c86io10001_eq (n : Nat × Nat) (hn : n.2 = 1) (SS : List Int → Int → Int → Int → (List (Int × Int)) → Option R96c86io10001) : B96c86io10001 n SS = DB96c86io10001 n SS := by
  funext data0 a1 m2 b3 cp_4_0; refine (B96c86io10001_eq n SS data0 a1 m2 b3 cp_4_0).trans ?_
  unfold DB96c86io10001
  (try simp only [DL96c86io10001_4_eq n hn SS, DL96c86io10001_1_eq n hn SS, DL96c86io10001_5_eq n hn SS, DL96c86io10001_2_eq n hn SS, DL96c86io10001_3_eq n hn SS, S86_D n hn, S97c86io10001_D n hn]) <;> first | with_reducible rfl | rfl
noncomputable def DT96c86io10001 (n : Nat × Nat) (d : Nat) : List Int → Int → Int → Int → (List (Int × Int)) → Option R96c86io10001 := Nat.rec (motive := fun _ => List Int → Int → Int → Int → (List (Int × Int)) → Option R96c86io10001) (fun _ _ _ _ _ => none) (fun _ ih => DB96c86io10001 n ih) d
theorem DT96c86io10001_succ (n : Nat × Nat) (d : Nat) : DT96c86io10001 n (d + 1) = DB96c86io10001 n (DT96c86io10001 n d) := rfl
theorem DT96c86io10001_eq (n : Nat × Nat) (hn : n.2 = 1) : ∀ d, T96c86io10001 n d = DT96c86io10001 n d
  | 0 => rfl
  | d + 1 => by
    funext data0 a1 m2 b3 cp_4_0
    rw [T96c86io10001_eq, DT96c86io10001_eq n hn d, DB96c86io10001_eq n hn, DT96c86io10001_succ]
noncomputable def D96c86io10001 (n : Nat × Nat) (data0 : List Int) (a1 : Int) (m2 : Int) (b3 : Int) (cp_4_0 : List (Int × Int)) : Option R96c86io10001 := DT96c86io10001 n n.1 data0 a1 m2 b3 cp_4_0
theorem S96c86io10001_D (n : Nat × Nat) (hn : n.2 = 1) : S96c86io10001 n = D96c86io10001 n := by
  funext data0 a1 m2 b3 cp_4_0; unfold S96c86io10001 D96c86io10001; rw [DT96c86io10001_eq n hn]
/-D 94c86io101 -/
noncomputable def DF94c86io101_3 (n : Nat × Nat) (f1 : Int → Int → List Int → (List (Int × Int)) → Option R94c86io101) (f2 : Int → Int → Int → Int → List Int → (List (Int × Int)) → Option R94c86io101) (v1 : Int) (blockSize6 : Int) (a7 : Int) (b8 : Int) (u0 : List Int) (u1 : List (Int × Int)) : Option R94c86io101 :=
 (bif decide (b8 ≤ v1) then (D96c86io10001 n u0 a7 (wr .i64 (a7 + blockSize6)) b8 u1).bind fun r3' =>
 (bif Nat.beq r3'.2.1.length u0.length then f2 v1 blockSize6 b8 (wr .i64 (b8 + (wr .i64 (2 * blockSize6)))) r3'.2.1 r3'.2.2.1
 else none)
 else (bif decide (wr .i64 (a7 + blockSize6) < v1) then (D96c86io10001 n u0 a7 (wr .i64 (a7 + blockSize6)) v1 u1).bind fun r4' =>
 (bif Nat.beq r4'.2.1.length u0.length then f1 v1 (wr .i64 (blockSize6 * 2)) r4'.2.1 r4'.2.2.1
 else none)
 else f1 v1 (wr .i64 (blockSize6 * 2)) u0 u1))
noncomputable def DL94c86io101_3 (n : Nat × Nat) (f1 : Int → Int → List Int → (List (Int × Int)) → Option R94c86io101) (m : Nat) : Int → Int → Int → Int → List Int → (List (Int × Int)) → Option R94c86io101 := Nat.rec (motive := fun _ => Int → Int → Int → Int → List Int → (List (Int × Int)) → Option R94c86io101) (fun _ _ _ _ _ _ => none) (fun _ ih => DF94c86io101_3 n f1 ih) m
theorem DL94c86io101_3_succ (n : Nat × Nat) (f1 : Int → Int → List Int → (List (Int × Int)) → Option R94c86io101) (m : Nat) : DL94c86io101_3 n f1 (m + 1) = DF94c86io101_3 n f1 (DL94c86io101_3 n f1 m) := rfl
theorem DL94c86io101_3_eq (n : Nat × Nat) (hn : n.2 = 1) (m1 : Nat) : ∀ m, L94c86io101_3 n m1 m = DL94c86io101_3 n (L94c86io101_2 n m1) m
  | 0 => by funext v1 blockSize6 a7 b8 u0 u1; kernel_rfl
  | m + 1 => by
    have ih := DL94c86io101_3_eq n hn m1 m
    funext v1 blockSize6 a7 b8 u0 u1; refine (L94c86io101_3_eq n m1 m v1 blockSize6 a7 b8 u0 u1).trans ?_
    rw [DL94c86io101_3_succ]
    unfold DF94c86io101_3
    (try simp only [ih, S95c86io1001_D n hn, S96c86io10001_D n hn]) <;> first | with_reducible rfl | rfl
noncomputable def DF94c86io101_2 (n : Nat × Nat) (f1 : Int → Int → List Int → (List (Int × Int)) → Option R94c86io101) (v1 : Int) (blockSize6 : Int) (u0 : List Int) (u1 : List (Int × Int)) : Option R94c86io101 :=
 (bif decide (blockSize6 < v1) then DL94c86io101_3 n f1 n.1 v1 blockSize6 0 (wr .i64 (2 * blockSize6)) u0 u1
 else some ((), u0, u1, ()))
noncomputable def DL94c86io101_2 (n : Nat × Nat) (m : Nat) : Int → Int → List Int → (List (Int × Int)) → Option R94c86io101 := Nat.rec (motive := fun _ => Int → Int → List Int → (List (Int × Int)) → Option R94c86io101) (fun _ _ _ _ => none) (fun _ ih => DF94c86io101_2 n ih) m
theorem DL94c86io101_2_succ (n : Nat × Nat) (m : Nat) : DL94c86io101_2 n (m + 1) = DF94c86io101_2 n (DL94c86io101_2 n m) := rfl
theorem DL94c86io101_2_eq (n : Nat × Nat) (hn : n.2 = 1) : ∀ m, L94c86io101_2 n m = DL94c86io101_2 n m
  | 0 => by funext v1 blockSize6 u0 u1; kernel_rfl
  | m + 1 => by
    have ih := DL94c86io101_2_eq n hn m
    funext v1 blockSize6 u0 u1; refine (L94c86io101_2_eq n m v1 blockSize6 u0 u1).trans ?_
    rw [DL94c86io101_2_succ]
    unfold DF94c86io101_2
    (try simp only [ih, DL94c86io101_3_eq n hn, S95c86io1001_D n hn, S96c86io10001_D n hn]) <;> first | with_reducible rfl | rfl
noncomputable def DF94c86io101_1 (n : Nat × Nat) (f1 : Int → Int → Int → Int → List Int → (List (Int × Int)) → Option R94c86io101) (v1 : Int) (blockSize6 : Int) (a7 : Int) (b8 : Int) (u0 : List Int) (u1 : List (Int × Int)) : Option R94c86io101 :=
 (bif decide (b8 ≤ v1) then (D95c86io1001 n u0 a7 b8 u1).bind fun r1' =>
 (bif Nat.beq r1'.2.1.length u0.length then f1 v1 blockSize6 b8 (wr .i64 (b8 + blockSize6)) r1'.2.1 r1'.2.2.1
 else none)
 else (D95c86io1001 n u0 a7 v1 u1).bind fun r2' =>
 (bif Nat.beq r2'.2.1.length u0.length then DL94c86io101_2 n n.1 v1 blockSize6 r2'.2.1 r2'.2.2.1
 else none))
noncomputable def DL94c86io101_1 (n : Nat × Nat) (m : Nat) : Int → Int → Int → Int → List Int → (List (Int × Int)) → Option R94c86io101 := Nat.rec (motive := fun _ => Int → Int → Int → Int → List Int → (List (Int × Int)) → Option R94c86io101) (fun _ _ _ _ _ _ => none) (fun _ ih => DF94c86io101_1 n ih) m
theorem DL94c86io101_1_succ (n : Nat × Nat) (m : Nat) : DL94c86io101_1 n (m + 1) = DF94c86io101_1 n (DL94c86io101_1 n m) := rfl
theorem DL94c86io101_1_eq (n : Nat × Nat) (hn : n.2 = 1) : ∀ m, L94c86io101_1 n m = DL94c86io101_1 n m
  | 0 => by funext v1 blockSize6 a7 b8 u0 u1; kernel_rfl
  | m + 1 => by
    have ih := DL94c86io101_1_eq n hn m
    funext v1 blockSize6 a7 b8 u0 u1; refine (L94c86io101_1_eq n m v1 blockSize6 a7 b8 u0 u1).trans ?_
    rw [DL94c86io101_1_succ]
    unfold DF94c86io101_1
    (try simp only [ih, DL94c86io101_3_eq n hn, DL94c86io101_2_eq n hn, S95c86io1001_D n hn, S96c86io10001_D n hn]) <;> first | with_reducible rfl | rfl
noncomputable def D94c86io101 (n : Nat × Nat) (data0 : List Int) (v1 : Int) (cp_2_0 : List (Int × Int)) : Option R94c86io101 :=
    DL94c86io101_1 n n.1 v1 20 0 20 data0 cp_2_0
theorem S94c86io101_D (n : Nat × Nat) (hn : n.2 = 1) : S94c86io101 n = D94c86io101 n := by
  funext data0 v1 cp_2_0; refine (S94c86io101_eq n data0 v1 cp_2_0).trans ?_
  unfold D94c86io101
  (try simp only [DL94c86io101_3_eq n hn, DL94c86io101_2_eq n hn, DL94c86io101_1_eq n hn, S95c86io1001_D n hn, S96c86io10001_D n hn]) <;> first | with_reducible rfl | rfl
/-D 85c86io11 -/
noncomputable def D85c86io11 (n : Nat × Nat) (x0 : List Int) (cp_1_0 : List (Int × Int)) : Option R85c86io11 :=
 (D94c86io101 n x0 (x0.length : Int) cp_1_0).bind fun r1' =>
 (bif Nat.beq r1'.2.1.length x0.length then some ((), r1'.2.1, r1'.2.2.1, ())
 else none)
theorem S85c86io11_D (n : Nat × Nat) (hn : n.2 = 1) : S85c86io11 n = D85c86io11 n := by
  funext x0 cp_1_0; refine (S85c86io11_eq n x0 cp_1_0).trans ?_
  unfold D85c86io11
  (try simp only [S94c86io101_D n hn]) <;> first | with_reducible rfl | rfl
/-D 87 -/
noncomputable def D87 (n : Nat × Nat) (i0 : Int) (j1 : Int) (v2 : List (Int × Int)) : Option R87 :=
 (idx v2 j1).bind fun x1' =>
 (idx v2 i0).bind fun x2' =>
 some (wr .i64 (x1'.2 - x2'.2))
theorem S87_D (n : Nat × Nat) (hn : n.2 = 1) : S87 n = D87 n := by
  funext i0 j1 v2; refine (S87_eq n i0 j1 v2).trans ?_
  unfold D87
  first | with_reducible rfl | rfl
/-D 95c87io1001 -/
noncomputable def DF95c87io1001_2 (n : Nat × Nat) (f1 : Int → Int → Int → List Int → (List (Int × Int)) → Option R95c87io1001) (f2 : Int → Int → Int → Int → List Int → (List (Int × Int)) → Option R95c87io1001) (a1 : Int) (b2 : Int) (i8 : Int) (j9 : Int) (u0 : List Int) (u1 : List (Int × Int)) : Option R95c87io1001 :=
 ((bif (decide (j9 > a1) == true) then (bif inB j9 u0.length then (idx u0 j9).bind fun x1' =>
 (bif inB (wr .i64 (j9 - 1)) u0.length then (idx u0 (wr .i64 (j9 - 1))).bind fun x2' =>
 (D87 n x1' x2' u1).bind fun r3' =>
 some (decide (r3' < 0))
 else none)
 else none)
 else some false)).bind fun b4' =>
 (bif b4' then (bif inB (wr .i64 (j9 - 1)) u0.length then (idx u0 (wr .i64 (j9 - 1))).bind fun x5' =>
 (bif inB j9 u0.length then (idx u0 j9).bind fun x6' =>
 (bif inB j9 u0.length then (idx u0 j9).bind fun x7' =>
 (bif inB (wr .i64 (j9 - 1)) (u0.set (Int.toNat j9) x5').length then (idx (u0.set (Int.toNat j9) x5') (wr .i64 (j9 - 1))).bind fun x8' =>
              f2 a1 b2 i8 (wr .i64 (j9 - 1)) ((u0.set (Int.toNat j9) x5').set (Int.toNat (wr .i64 (j9 - 1))) x6') u1
 else none)
 else none)
 else none)
 else none)
 else f1 a1 b2 (wr .i64 (i8 + 1)) u0 u1)
noncomputable def DL95c87io1001_2 (n : Nat × Nat) (f1 : Int → Int → Int → List Int → (List (Int × Int)) → Option R95c87io1001) (m : Nat) : Int → Int → Int → Int → List Int → (List (Int × Int)) → Option R95c87io1001 := Nat.rec (motive := fun _ => Int → Int → Int → Int → List Int → (List (Int × Int)) → Option R95c87io1001) (fun _ _ _ _ _ _ => none) (fun _ ih => DF95c87io1001_2 n f1 ih) m
theorem DL95c87io1001_2_succ (n : Nat × Nat) (f1 : Int → Int → Int → List Int → (List (Int × Int)) → Option R95c87io1001) (m : Nat) : DL95c87io1001_2 n f1 (m + 1) = DF95c87io1001_2 n f1 (DL95c87io1001_2 n f1 m) := rfl
theorem DL95c87io1001_2_eq (n : Nat × Nat) (hn : n.2 = 1) (m1 : Nat) : ∀ m, L95c87io1001_2 n m1 m = DL95c87io1001_2 n (L95c87io1001_1 n m1) m
  | 0 => by funext a1 b2 i8 j9 u0 u1; kernel_rfl
  | m + 1 => by
    have ih := DL95c87io1001_2_eq n hn m1 m
    funext a1 b2 i8 j9 u0 u1; refine (L95c87io1001_2_eq n m1 m a1 b2 i8 j9 u0 u1).trans ?_
    rw [DL95c87io1001_2_succ]
    unfold DF95c87io1001_2
    (try simp only [ih, S87_D n hn]) <;> first | with_reducible rfl | rfl
noncomputable def DF95c87io1001_1 (n : Nat × Nat) (f1 : Int → Int → Int → List Int → (List (Int × Int)) → Option R95c87io1001) (a1 : Int) (b2 : Int) (i8 : Int) (u0 : List Int) (u1 : List (Int × Int)) : Option R95c87io1001 :=
 (bif decide (i8 < b2) then DL95c87io1001_2 n f1 n.1 a1 b2 i8 i8 u0 u1
 else some ((), u0, u1, ()))
noncomputable def DL95c87io1001_1 (n : Nat × Nat) (m : Nat) : Int → Int → Int → List Int → (List (Int × Int)) → Option R95c87io1001 := Nat.rec (motive := fun _ => Int → Int → Int → List Int → (List (Int × Int)) → Option R95c87io1001) (fun _ _ _ _ _ => none) (fun _ ih => DF95c87io1001_1 n ih) m
theorem DL95c87io1001_1_succ (n : Nat × Nat) (m : Nat) : DL95c87io1001_1 n (m + 1) = DF95c87io1001_1 n (DL95c87io1001_1 n m) := rfl
theorem DL95c87io1001_1_eq (n : Nat × Nat) (hn : n.2 = 1) : ∀ m, L95c87io1001_1 n m = DL95c87io1001_1 n m
  | 0 => by funext a1 b2 i8 u0 u1; kernel_rfl
  | m + 1 => by
    have ih := DL95c87io1001_1_eq n hn m
    funext a1 b2 i8 u0 u1; refine (L95c87io1001_1_eq n m a1 b2 i8 u0 u1).trans ?_
    rw [DL95c87io1001_1_succ]
    unfold DF95c87io1001_1
    (try simp only [ih, DL95c87io1001_2_eq n hn, S87_D n hn]) <;> first | with_reducible rfl | rfl
noncomputable def D95c87io1001 (n : Nat × Nat) (data0 : List Int) (a1 : Int) (b2 : Int) (cp_3_0 : List (Int × Int)) : Option R95c87io1001 :=
    DL95c87io1001_1 n n.1 a1 b2 (wr .i64 (a1 + 1)) data0 cp_3_0
theorem S95c87io1001_D (n : Nat × Nat) (hn : n.2 = 1) : S95c87io1001 n = D95c87io1001 n := by
  funext data0 a1 b2 cp_3_0; refine (S95c87io1001_eq n data0 a1 b2 cp_3_0).trans ?_
  unfold D95c87io1001
  (try simp only [DL95c87io1001_2_eq n hn, DL95c87io1001_1_eq n hn, S87_D n hn]) <;> first | with_reducible rfl | rfl
/-D 98c87io10001 -/
noncomputable def DF98c87io10001_1 (n : Nat × Nat) (f1 : Int → Int → Int → Int → List Int → (List (Int × Int)) → Option R98c87io10001) (a1 : Int) (b2 : Int) (v3 : Int) (i10 : Int) (u0 : List Int) (u1 : List (Int × Int)) : Option R98c87io10001 :=
 (bif decide (i10 < v3) then (bif inB (wr .i64 (b2 + i10)) u0.length then (idx u0 (wr .i64 (b2 + i10))).bind fun x1' =>
 (bif inB (wr .i64 (a1 + i10)) u0.length then (idx u0 (wr .i64 (a1 + i10))).bind fun x2' =>
 (bif inB (wr .i64 (a1 + i10)) u0.length then (idx u0 (wr .i64 (a1 + i10))).bind fun x3' =>
 (bif inB (wr .i64 (b2 + i10)) (u0.set (Int.toNat (wr .i64 (a1 + i10))) x1').length then (idx (u0.set (Int.toNat (wr .i64 (a1 + i10))) x1') (wr .i64 (b2 + i10))).bind fun x4' =>
              f1 a1 b2 v3 (wr .i64 (i10 + 1)) ((u0.set (Int.toNat (wr .i64 (a1 + i10))) x1').set (Int.toNat (wr .i64 (b2 + i10))) x2') u1
 else none)
 else none)
 else none)
 else none)
 else some ((), u0, u1, ()))
noncomputable def DL98c87io10001_1 (n : Nat × Nat) (m : Nat) : Int → Int → Int → Int → List Int → (List (Int × Int)) → Option R98c87io10001 := Nat.rec (motive := fun _ => Int → Int → Int → Int → List Int → (List (Int × Int)) → Option R98c87io10001) (fun _ _ _ _ _ _ => none) (fun _ ih => DF98c87io10001_1 n ih) m
theorem DL98c87io10001_1_succ (n : Nat × Nat) (m : Nat) : DL98c87io10001_1 n (m + 1) = DF98c87io10001_1 n (DL98c87io10001_1 n m) := rfl
theorem DL98c87io10001_1_eq (n : Nat × Nat) (hn : n.2 = 1) : ∀ m, L98c87io10001_1 n m = DL98c87io10001_1 n m
  | 0 => by funext a1 b2 v3 i10 u0 u1; kernel_rfl
  | m + 1 => by
    have ih := DL98c87io10001_1_eq n hn m
    funext a1 b2 v3 i10 u0 u1; refine (L98c87io10001_1_eq n m a1 b2 v3 i10 u0 u1).trans ?_
    rw [DL98c87io10001_1_succ]
    unfold DF98c87io10001_1
    (try simp only [ih]) <;> first | with_reducible rfl | rfl
noncomputable def D98c87io10001 (n : Nat × Nat) (data0 : List Int) (a1 : Int) (b2 : Int) (v3 : Int) (cp_4_0 : List (Int × Int)) : Option R98c87io10001 :=
    DL98c87io10001_1 n n.1 a1 b2 v3 0 data0 cp_4_0
theorem S98c87io10001_D (n : Nat × Nat) (hn : n.2 = 1) : S98c87io10001 n = D98c87io10001 n := by
  funext data0 a1 b2 v3 cp_4_0; refine (S98c87io10001_eq n data0 a1 b2 v3 cp_4_0).trans ?_
  unfold D98c87io10001
  (try simp only [DL98c87io10001_1_eq n hn]) <;> first | with_reducible rfl | rfl
/-D 97c87io10001 -/
noncomputable def DF97c87io10001_1 (n : Nat × Nat) (f1 : Int → Int → Int → List Int → (List (Int × Int)) → Option R97c87io10001) (m2 : Int) (i10 : Int) (j11 : Int) (u0 : List Int) (u1 : List (Int × Int)) : Option R97c87io10001 :=
 (bif (i10 != j11) then (bif decide (i10 > j11) then (D98c87io10001 n u0 (wr .i64 (m2 - i10)) m2 j11 u1).bind fun r1' =>
 (bif Nat.beq r1'.2.1.length u0.length then f1 m2 (wr .i64 (i10 - j11)) j11 r1'.2.1 r1'.2.2.1
 else none)
 else (D98c87io10001 n u0 (wr .i64 (m2 - i10)) (wr .i64 ((wr .i64 (m2 + j11)) - i10)) i10 u1).bind fun r2' =>
 (bif Nat.beq r2'.2.1.length u0.length then f1 m2 i10 (wr .i64 (j11 - i10)) r2'.2.1 r2'.2.2.1
 else none))
 else (D98c87io10001 n u0 (wr .i64 (m2 - i10)) m2 i10 u1).bind fun r3' =>
 (bif Nat.beq r3'.2.1.length u0.length then some ((), r3'.2.1, r3'.2.2.1, ())
 else none))
noncomputable def DL97c87io10001_1 (n : Nat × Nat) (m : Nat) : Int → Int → Int → List Int → (List (Int × Int)) → Option R97c87io10001 := Nat.rec (motive := fun _ => Int → Int → Int → List Int → (List (Int × Int)) → Option R97c87io10001) (fun _ _ _ _ _ => none) (fun _ ih => DF97c87io10001_1 n ih) m
theorem DL97c87io10001_1_succ (n : Nat × Nat) (m : Nat) : DL97c87io10001_1 n (m + 1) = DF97c87io10001_1 n (DL97c87io10001_1 n m) := rfl
theorem DL97c87io10001_1_eq (n : Nat × Nat) (hn : n.2 = 1) : ∀ m, L97c87io10001_1 n m = DL97c87io10001_1 n m
  | 0 => by funext m2 i10 j11 u0 u1; kernel_rfl
  | m + 1 => by
    have ih := DL97c87io10001_1_eq n hn m
    funext m2 i10 j11 u0 u1; refine (L97c87io10001_1_eq n m m2 i10 j11 u0 u1).trans ?_
    rw [DL97c87io10001_1_succ]
    unfold DF97c87io10001_1
    (try simp only [ih, S98c87io10001_D n hn]) <;> first | with_reducible rfl | rfl
noncomputable def D97c87io10001 (n : Nat × Nat) (data0 : List Int) (a1 : Int) (m2 : Int) (b3 : Int) (cp_4_0 : List (Int × Int)) : Option R97c87io10001 :=
    DL97c87io10001_1 n n.1 m2 (wr .i64 (m2 - a1)) (wr .i64 (b3 - m2)) data0 cp_4_0
theorem S97c87io10001_D (n : Nat × Nat) (hn : n.2 = 1) : S97c87io10001 n = D97c87io10001 n := by
  funext data0 a1 m2 b3 cp_4_0; refine (S97c87io10001_eq n data0 a1 m2 b3 cp_4_0).trans ?_
  unfold D97c87io10001
  (try simp only [DL97c87io10001_1_eq n hn, S98c87io10001_D n hn]) <;> first | with_reducible rfl | rfl
/-D 96c87io10001 -/
noncomputable def DF96c87io10001_4 (n : Nat × Nat) (SS : List Int → Int → Int → Int → (List (Int × Int)) → Option R96c87io10001) (f1 : Int → Int → List Int → (List (Int × Int)) → Option R96c87io10001) (i10 : Int) (k13 : Int) (u0 : List Int) (u1 : List (Int × Int)) : Option R96c87io10001 :=
 (bif decide (k13 < wr .i64 (i10 - 1)) then (bif inB (wr .i64 (k13 + 1)) u0.length then (idx u0 (wr .i64 (k13 + 1))).bind fun x24' =>
 (bif inB k13 u0.length then (idx u0 k13).bind fun x25' =>
 (bif inB k13 u0.length then (idx u0 k13).bind fun x26' =>
 (bif inB (wr .i64 (k13 + 1)) (u0.set (Int.toNat k13) x24').length then (idx (u0.set (Int.toNat k13) x24') (wr .i64 (k13 + 1))).bind fun x27' =>
              f1 i10 (wr .i64 (k13 + 1)) ((u0.set (Int.toNat k13) x24').set (Int.toNat (wr .i64 (k13 + 1))) x25') u1
 else none)
 else none)
 else none)
 else none)
 else some ((), u0, u1, ()))
noncomputable def DL96c87io10001_4 (n : Nat × Nat) (SS : List Int → Int → Int → Int → (List (Int × Int)) → Option R96c87io10001) (m : Nat) : Int → Int → List Int → (List (Int × Int)) → Option R96c87io10001 := Nat.rec (motive := fun _ => Int → Int → List Int → (List (Int × Int)) → Option R96c87io10001) (fun _ _ _ _ => none) (fun _ ih => DF96c87io10001_4 n SS ih) m
theorem DL96c87io10001_4_succ (n : Nat × Nat) (SS : List Int → Int → Int → Int → (List (Int × Int)) → Option R96c87io10001) (m : Nat) : DL96c87io10001_4 n SS (m + 1) = DF96c87io10001_4 n SS (DL96c87io10001_4 n SS m) := rfl
theorem DL96c87io10001_4_eq (n : Nat × Nat) (hn : n.2 = 1) (SS : List Int → Int → Int → Int → (List (Int × Int)) → Option R96c87io10001) : ∀ m, L96c87io10001_4 n SS m = DL96c87io10001_4 n SS m
  | 0 => by funext i10 k13 u0 u1; kernel_rfl
  | m + 1 => by
    have ih := DL96c87io10001_4_eq n hn SS m
    funext i10 k13 u0 u1; refine (L96c87io10001_4_eq n SS m i10 k13 u0 u1).trans ?_
    rw [DL96c87io10001_4_succ]
    unfold DF96c87io10001_4
    (try simp only [ih, S87_D n hn, S97c87io10001_D n hn]) <;> first | with_reducible rfl | rfl
noncomputable def DF96c87io10001_1 (n : Nat × Nat) (SS : List Int → Int → Int → Int → (List (Int × Int)) → Option R96c87io10001) (f1 : Int → Int → Int → List Int → (List (Int × Int)) → Option R96c87io10001) (a1 : Int) (i10 : Int) (j11 : Int) (u0 : List Int) (u1 : List (Int × Int)) : Option R96c87io10001 :=
 (bif decide (i10 < j11) then (bif decide (1 < 0) then none
 else (bif inB (wr .i64 (Int.fdiv (wr .u64 (wr .i64 (i10 + j11))) (2 ^ (min (Int.toNat 1) (IntKind.bits .u64))))) u0.length then (idx u0 (wr .i64 (Int.fdiv (wr .u64 (wr .i64 (i10 + j11))) (2 ^ (min (Int.toNat 1) (IntKind.bits .u64)))))).bind fun x1' =>
 (bif inB a1 u0.length then (idx u0 a1).bind fun x2' =>
 (D87 n x1' x2' u1).bind fun r3' =>
 (bif decide (r3' < 0) then f1 a1 (wr .i64 ((wr .i64 (Int.fdiv (wr .u64 (wr .i64 (i10 + j11))) (2 ^ (min (Int.toNat 1) (IntKind.bits .u64))))) + 1)) j11 u0 u1
 else f1 a1 i10 (wr .i64 (Int.fdiv (wr .u64 (wr .i64 (i10 + j11))) (2 ^ (min (Int.toNat 1) (IntKind.bits .u64))))) u0 u1)
 else none)
 else none))
 else DL96c87io10001_4 n SS n.1 i10 a1 u0 u1)
noncomputable def DL96c87io10001_1 (n : Nat × Nat) (SS : List Int → Int → Int → Int → (List (Int × Int)) → Option R96c87io10001) (m : Nat) : Int → Int → Int → List Int → (List (Int × Int)) → Option R96c87io10001 := Nat.rec (motive := fun _ => Int → Int → Int → List Int → (List (Int × Int)) → Option R96c87io10001) (fun _ _ _ _ _ => none) (fun _ ih => DF96c87io10001_1 n SS ih) m
theorem DL96c87io10001_1_succ (n : Nat × Nat) (SS : List Int → Int → Int → Int → (List (Int × Int)) → Option R96c87io10001) (m : Nat) : DL96c87io10001_1 n SS (m + 1) = DF96c87io10001_1 n SS (DL96c87io10001_1 n SS m) := rfl
theorem DL96c87io10001_1_eq (n : Nat × Nat) (hn : n.2 = 1) (SS : List Int → Int → Int → Int → (List (Int × Int)) → Option R96c87io10001) : ∀ m, L96c87io10001_1 n SS m = DL96c87io10001_1 n SS m
  | 0 => by funext a1 i10 j11 u0 u1; kernel_rfl
  | m + 1 => by
    have ih := DL96c87io10001_1_eq n hn SS m
    funext a1 i10 j11 u0 u1; refine (L96c87io10001_1_eq n SS m a1 i10 j11 u0 u1).trans ?_
    rw [DL96c87io10001_1_succ]
    unfold DF96c87io10001_1
    (try simp only [ih, DL96c87io10001_4_eq n hn SS, S87_D n hn, S97c87io10001_D n hn]) <;> first | with_reducible rfl | rfl
noncomputable def DF96c87io10001_5 (n : Nat × Nat) (SS : List Int → Int → Int → Int → (List (Int × Int)) → Option R96c87io10001) (f1 : Int → Int → List Int → (List (Int × Int)) → Option R96c87io10001) (i14 : Int) (k17 : Int) (u0 : List Int) (u1 : List (Int × Int)) : Option R96c87io10001 :=
 (bif decide (k17 > i14) then (bif inB (wr .i64 (k17 - 1)) u0.length then (idx u0 (wr .i64 (k17 - 1))).bind fun x28' =>
 (bif inB k17 u0.length then (idx u0 k17).bind fun x29' =>
 (bif inB k17 u0.length then (idx u0 k17).bind fun x30' =>
 (bif inB (wr .i64 (k17 - 1)) (u0.set (Int.toNat k17) x28').length then (idx (u0.set (Int.toNat k17) x28') (wr .i64 (k17 - 1))).bind fun x31' =>
              f1 i14 (wr .i64 (k17 - 1)) ((u0.set (Int.toNat k17) x28').set (Int.toNat (wr .i64 (k17 - 1))) x29') u1
 else none)
 else none)
 else none)
 else none)
 else some ((), u0, u1, ()))
noncomputable def DL96c87io10001_5 (n : Nat × Nat) (SS : List Int → Int → Int → Int → (List (Int × Int)) → Option R96c87io10001) (m : Nat) : Int → Int → List Int → (List (Int × Int)) → Option R96c87io10001 := Nat.rec (motive := fun _ => Int → Int → List Int → (List (Int × Int)) → Option R96c87io10001) (fun _ _ _ _ => none) (fun _ ih => DF96c87io10001_5 n SS ih) m
theorem DL96c87io10001_5_succ (n : Nat × Nat) (SS : List Int → Int → Int → Int → (List (Int × Int)) → Option R96c87io10001) (m : Nat) : DL96c87io10001_5 n SS (m + 1) = DF96c87io10001_5 n SS (DL96c87io10001_5 n SS m) := rfl
theorem DL96c87io10001_5_eq (n : Nat × Nat) (hn : n.2 = 1) (SS : List Int → Int → Int → Int → (List (Int × Int)) → Option R96c87io10001) : ∀ m, L96c87io10001_5 n SS m = DL96c87io10001_5 n SS m
  | 0 => by funext i14 k17 u0 u1; kernel_rfl
  | m + 1 => by
    have ih := DL96c87io10001_5_eq n hn SS m
    funext i14 k17 u0 u1; refine (L96c87io10001_5_eq n SS m i14 k17 u0 u1).trans ?_
    rw [DL96c87io10001_5_succ]
    unfold DF96c87io10001_5
    (try simp only [ih, DL96c87io10001_4_eq n hn SS, DL96c87io10001_1_eq n hn SS, S87_D n hn, S97c87io10001_D n hn]) <;> first | with_reducible rfl | rfl
noncomputable def DF96c87io10001_2 (n : Nat × Nat) (SS : List Int → Int → Int → Int → (List (Int × Int)) → Option R96c87io10001) (f1 : Int → Int → Int → List Int → (List (Int × Int)) → Option R96c87io10001) (m2 : Int) (i14 : Int) (j15 : Int) (u0 : List Int) (u1 : List (Int × Int)) : Option R96c87io10001 :=
 (bif decide (i14 < j15) then (bif decide (1 < 0) then none
 else (bif inB m2 u0.length then (idx u0 m2).bind fun x4' =>
 (bif inB (wr .i64 (Int.fdiv (wr .u64 (wr .i64 (i14 + j15))) (2 ^ (min (Int.toNat 1) (IntKind.bits .u64))))) u0.length then (idx u0 (wr .i64 (Int.fdiv (wr .u64 (wr .i64 (i14 + j15))) (2 ^ (min (Int.toNat 1) (IntKind.bits .u64)))))).bind fun x5' =>
 (D87 n x4' x5' u1).bind fun r6' =>
 (bif (!(decide (r6' < 0))) then f1 m2 (wr .i64 ((wr .i64 (Int.fdiv (wr .u64 (wr .i64 (i14 + j15))) (2 ^ (min (Int.toNat 1) (IntKind.bits .u64))))) + 1)) j15 u0 u1
 else f1 m2 i14 (wr .i64 (Int.fdiv (wr .u64 (wr .i64 (i14 + j15))) (2 ^ (min (Int.toNat 1) (IntKind.bits .u64))))) u0 u1)
 else none)
 else none))
 else DL96c87io10001_5 n SS n.1 i14 m2 u0 u1)
noncomputable def DL96c87io10001_2 (n : Nat × Nat) (SS : List Int → Int → Int → Int → (List (Int × Int)) → Option R96c87io10001) (m : Nat) : Int → Int → Int → List Int → (List (Int × Int)) → Option R96c87io10001 := Nat.rec (motive := fun _ => Int → Int → Int → List Int → (List (Int × Int)) → Option R96c87io10001) (fun _ _ _ _ _ => none) (fun _ ih => DF96c87io10001_2 n SS ih) m
theorem DL96c87io10001_2_succ (n : Nat × Nat) (SS : List Int → Int → Int → Int → (List (Int × Int)) → Option R96c87io10001) (m : Nat) : DL96c87io10001_2 n SS (m + 1) = DF96c87io10001_2 n SS (DL96c87io10001_2 n SS m) := rfl
theorem DL96c87io10001_2_eq (n : Nat × Nat) (hn : n.2 = 1) (SS : List Int → Int → Int → Int → (List (Int × Int)) → Option R96c87io10001) : ∀ m, L96c87io10001_2 n SS m = DL96c87io10001_2 n SS m
  | 0 => by funext m2 i14 j15 u0 u1; kernel_rfl
  | m + 1 => by
    have ih := DL96c87io10001_2_eq n hn SS m
    funext m2 i14 j15 u0 u1; refine (L96c87io10001_2_eq n SS m m2 i14 j15 u0 u1).trans ?_
    rw [DL96c87io10001_2_succ]
    unfold DF96c87io10001_2
    (try simp only [ih, DL96c87io10001_4_eq n hn SS, DL96c87io10001_1_eq n hn SS, DL96c87io10001_5_eq n hn SS, S87_D n hn, S97c87io10001_D n hn]) <;> first | with_reducible rfl | rfl
noncomputable def DF96c87io10001_3 (n : Nat × Nat) (SS : List Int → Int → Int → Int → (List (Int × Int)) → Option R96c87io10001) (f1 : Int → Int → Int → Int → Int → Int → Int → Int → List Int → (List (Int × Int)) → Option R96c87io10001) (a1 : Int) (m2 : Int) (b3 : Int) (mid18 : Int) (v19 : Int) (start20 : Int) (r21 : Int) (p22 : Int) (u0 : List Int) (u1 : List (Int × Int)) : Option R96c87io10001 :=
 (bif decide (start20 < r21) then (bif decide (1 < 0) then none
 else (bif inB (wr .i64 (p22 - (wr .i64 (Int.fdiv (wr .u64 (wr .i64 (start20 + r21))) (2 ^ (min (Int.toNat 1) (IntKind.bits .u64))))))) u0.length then (idx u0 (wr .i64 (p22 - (wr .i64 (Int.fdiv (wr .u64 (wr .i64 (start20 + r21))) (2 ^ (min (Int.toNat 1) (IntKind.bits .u64)))))))).bind fun x7' =>
 (bif inB (wr .i64 (Int.fdiv (wr .u64 (wr .i64 (start20 + r21))) (2 ^ (min (Int.toNat 1) (IntKind.bits .u64))))) u0.length then (idx u0 (wr .i64 (Int.fdiv (wr .u64 (wr .i64 (start20 + r21))) (2 ^ (min (Int.toNat 1) (IntKind.bits .u64)))))).bind fun x8' =>
 (D87 n x7' x8' u1).bind fun r9' =>
 (bif (!(decide (r9' < 0))) then f1 a1 m2 b3 mid18 v19 (wr .i64 ((wr .i64 (Int.fdiv (wr .u64 (wr .i64 (start20 + r21))) (2 ^ (min (Int.toNat 1) (IntKind.bits .u64))))) + 1)) r21 p22 u0 u1
 else f1 a1 m2 b3 mid18 v19 start20 (wr .i64 (Int.fdiv (wr .u64 (wr .i64 (start20 + r21))) (2 ^ (min (Int.toNat 1) (IntKind.bits .u64))))) p22 u0 u1)
 else none)
 else none))
 else ((bif (decide (start20 < m2) == true) then some (decide (m2 < wr .i64 (v19 - start20)))
 else some false)).bind fun b10' =>
 (bif b10' then (D97c87io10001 n u0 start20 m2 (wr .i64 (v19 - start20)) u1).bind fun r11' =>
 (bif Nat.beq r11'.2.1.length u0.length then ((bif (decide (a1 < start20) == true) then some (decide (start20 < mid18))
 else some false)).bind fun b12' =>
 (bif b12' then (SS r11'.2.1 a1 start20 mid18 r11'.2.2.1).bind fun r13' =>
 (bif Nat.beq r13'.2.1.length r11'.2.1.length then ((bif (decide (mid18 < wr .i64 (v19 - start20)) == true) then some (decide (wr .i64 (v19 - start20) < b3))
 else some false)).bind fun b14' =>
 (bif b14' then (SS r13'.2.1 mid18 (wr .i64 (v19 - start20)) b3 r13'.2.2.1).bind fun r15' =>
 (bif Nat.beq r15'.2.1.length r13'.2.1.length then some ((), r15'.2.1, r15'.2.2.1, ())
 else none)
 else some ((), r13'.2.1, r13'.2.2.1, ()))
 else none)
 else ((bif (decide (mid18 < wr .i64 (v19 - start20)) == true) then some (decide (wr .i64 (v19 - start20) < b3))
 else some false)).bind fun b16' =>
 (bif b16' then (SS r11'.2.1 mid18 (wr .i64 (v19 - start20)) b3 r11'.2.2.1).bind fun r17' =>
 (bif Nat.beq r17'.2.1.length r11'.2.1.length then some ((), r17'.2.1, r17'.2.2.1, ())
 else none)
 else some ((), r11'.2.1, r11'.2.2.1, ())))
 else none)
 else ((bif (decide (a1 < start20) == true) then some (decide (start20 < mid18))
 else some false)).bind fun b18' =>
 (bif b18' then (SS u0 a1 start20 mid18 u1).bind fun r19' =>
 (bif Nat.beq r19'.2.1.length u0.length then ((bif (decide (mid18 < wr .i64 (v19 - start20)) == true) then some (decide (wr .i64 (v19 - start20) < b3))
 else some false)).bind fun b20' =>
 (bif b20' then (SS r19'.2.1 mid18 (wr .i64 (v19 - start20)) b3 r19'.2.2.1).bind fun r21' =>
 (bif Nat.beq r21'.2.1.length r19'.2.1.length then some ((), r21'.2.1, r21'.2.2.1, ())
 else none)
 else some ((), r19'.2.1, r19'.2.2.1, ()))
 else none)
 else ((bif (decide (mid18 < wr .i64 (v19 - start20)) == true) then some (decide (wr .i64 (v19 - start20) < b3))
 else some false)).bind fun b22' =>
 (bif b22' then (SS u0 mid18 (wr .i64 (v19 - start20)) b3 u1).bind fun r23' =>
 (bif Nat.beq r23'.2.1.length u0.length then some ((), r23'.2.1, r23'.2.2.1, ())
 else none)
 else some ((), u0, u1, ())))))
noncomputable def DL96c87io10001_3 (n : Nat × Nat) (SS : List Int → Int → Int → Int → (List (Int × Int)) → Option R96c87io10001) (m : Nat) : Int → Int → Int → Int → Int → Int → Int → Int → List Int → (List (Int × Int)) → Option R96c87io10001 := Nat.rec (motive := fun _ => Int → Int → Int → Int → Int → Int → Int → Int → List Int → (List (Int × Int)) → Option R96c87io10001) (fun _ _ _ _ _ _ _ _ _ _ => none) (fun _ ih => DF96c87io10001_3 n SS ih) m
theorem DL96c87io10001_3_succ (n : Nat × Nat) (SS : List Int → Int → Int → Int → (List (Int × Int)) → Option R96c87io10001) (m : Nat) : DL96c87io10001_3 n SS (m + 1) = DF96c87io10001_3 n SS (DL96c87io10001_3 n SS m) := rfl
theorem DL96c87io10001_3_eq (n : Nat × Nat) (hn : n.2 = 1) (SS : List Int → Int → Int → Int → (List (Int × Int)) → Option R96c87io10001) : ∀ m, L96c87io10001_3 n SS m = DL96c87io10001_3 n SS m
  | 0 => by funext a1 m2 b3 mid18 v19 start20 r21 p22 u0 u1; kernel_rfl
  | m + 1 => by
    have ih := DL96c87io10001_3_eq n hn SS m
    funext a1 m2 b3 mid18 v19 start20 r21 p22 u0 u1; refine (L96c87io10001_3_eq n SS m a1 m2 b3 mid18 v19 start20 r21 p22 u0 u1).trans ?_
    rw [DL96c87io10001_3_succ]
    unfold DF96c87io10001_3
    (try simp only [ih, DL96c87io10001_4_eq n hn SS, DL96c87io10001_1_eq n hn SS, DL96c87io10001_5_eq n hn SS, DL96c87io10001_2_eq n hn SS, S87_D n hn, S97c87io10001_D n hn]) <;> first | with_reducible rfl | rfl
noncomputable def DB96c87io10001 (n : Nat × Nat) (SS : List Int → Int → Int → Int → (List (Int × Int)) → Option R96c87io10001) (data0 : List Int) (a1 : Int) (m2 : Int) (b3 : Int) (cp_4_0 : List (Int × Int)) : Option R96c87io10001 :=
 (bif ((wr .i64 (m2 - a1)) == 1) then DL96c87io10001_1 n SS n.1 a1 m2 b3 data0 cp_4_0
 else (bif ((wr .i64 (b3 - m2)) == 1) then DL96c87io10001_2 n SS n.1 m2 a1 m2 data0 cp_4_0
 else (bif decide (1 < 0) then none
 else (bif decide (m2 > wr .i64 (Int.fdiv (wr .u64 (wr .i64 (a1 + b3))) (2 ^ (min (Int.toNat 1) (IntKind.bits .u64))))) then DL96c87io10001_3 n SS n.1 a1 m2 b3 (wr .i64 (Int.fdiv (wr .u64 (wr .i64 (a1 + b3))) (2 ^ (min (Int.toNat 1) (IntKind.bits .u64))))) (wr .i64 ((wr .i64 (Int.fdiv (wr .u64 (wr .i64 (a1 + b3))) (2 ^ (min (Int.toNat 1) (IntKind.bits .u64))))) + m2)) (wr .i64 ((wr .i64 ((wr .i64 (Int.fdiv (wr .u64 (wr .i64 (a1 + b3))) (2 ^ (min (Int.toNat 1) (IntKind.bits .u64))))) + m2)) - b3)) (wr .i64 (Int.fdiv (wr .u64 (wr .i64 (a1 + b3))) (2 ^ (min (Int.toNat 1) (IntKind.bits .u64))))) (wr .i64 ((wr .i64 ((wr .i64 (Int.fdiv (wr .u64 (wr .i64 (a1 + b3))) (2 ^ (min (Int.toNat 1) (IntKind.bits .u64))))) + m2)) - 1)) data0 cp_4_0
 else DL96c87io10001_3 n SS n.1 a1 m2 b3 (wr .i64 (Int.fdiv (wr .u64 (wr .i64 (a1 + b3))) (2 ^ (min (Int.toNat 1) (IntKind.bits .u64))))) (wr .i64 ((wr .i64 (Int.fdiv (wr .u64 (wr .i64 (a1 + b3))) (2 ^ (min (Int.toNat 1) (IntKind.bits .u64))))) + m2)) a1 m2 (wr .i64 ((wr .i64 ((wr .i64 (Int.fdiv (wr .u64 (wr .i64 (a1 + b3))) (2 ^ (min (Int.toNat 1) (IntKind.bits .u64))))) + m2)) - 1)) data0 cp_4_0))))
theorem DB96c87io10001_eq (n : Nat × Nat) (hn : n.2 = 1) (SS : List Int → Int → Int → Int → (List (Int × Int)) → Option R96c87io10001) : B96c87io10001 n SS = DB96c87io10001 n SS := by
  funext data0 a1 m2 b3 cp_4_0; refine (B96c87io10001_eq n SS data0 a1 m2 b3 cp_4_0).trans ?_
  unfold DB96c87io10001
  (try simp only [DL96c87io10001_4_eq n hn SS, DL96c87io10001_1_eq n hn SS, DL96c87io10001_5_eq n hn SS, DL96c87io10001_2_eq n hn SS, DL96c87io10001_3_eq n hn SS, S87_D n hn, S97c87io10001_D n hn]) <;> first | with_reducible rfl | rfl
noncomputable def DT96c87io10001 (n : Nat × Nat) (d : Nat) : List Int → Int → Int → Int → (List (Int × Int)) → Option R96c87io10001 := Nat.rec (motive := fun _ => List Int → Int → Int → Int → (List (Int × Int)) → Option R96c87io10001) (fun _ _ _ _ _ => none) (fun _ ih => DB96c87io10001 n ih) d
theorem DT96c87io10001_succ (n : Nat × Nat) (d : Nat) : DT96c87io10001 n (d + 1) = DB96c87io10001 n (DT96c87io10001 n d) := rfl
theorem DT96c87io10001_eq (n : Nat × Nat) (hn : n.2 = 1) : ∀ d, T96c87io10001 n d = DT96c87io10001 n d
  | 0 => rfl
  | d + 1 => by
    funext data0 a1 m2 b3 cp_4_0
    rw [T96c87io10001_eq, DT96c87io10001_eq n hn d, DB96c87io10001_eq n hn, DT96c87io10001_succ]
noncomputable def D96c87io10001 (n : Nat × Nat) (data0 : List Int) (a1 : Int) (m2 : Int) (b3 : Int) (cp_4_0 : List (Int × Int)) : Option R96c87io10001 := DT96c87io10001 n n.1 data0 a1 m2 b3 cp_4_0
theorem S96c87io10001_D (n : Nat × Nat) (hn : n.2 = 1) : S96c87io10001 n = D96c87io10001 n := by
  funext data0 a1 m2 b3 cp_4_0; unfold S96c87io10001 D96c87io10001; rw [DT96c87io10001_eq n hn]
/-D 94c87io101 -/
noncomputable def DF94c87io101_3 (n : Nat × Nat) (f1 : Int → Int → List Int → (List (Int × Int)) → Option R94c87io101) (f2 : Int → Int → Int → Int → List Int → (List (Int × Int)) → Option R94c87io101) (v1 : Int) (blockSize6 : Int) (a7 : Int) (b8 : Int) (u0 : List Int) (u1 : List (Int × Int)) : Option R94c87io101 :=
 (bif decide (b8 ≤ v1) then (D96c87io10001 n u0 a7 (wr .i64 (a7 + blockSize6)) b8 u1).bind fun r3' =>
 (bif Nat.beq r3'.2.1.length u0.length then f2 v1 blockSize6 b8 (wr .i64 (b8 + (wr .i64 (2 * blockSize6)))) r3'.2.1 r3'.2.2.1
 else none)
 else (bif decide (wr .i64 (a7 + blockSize6) < v1) then (D96c87io10001 n u0 a7 (wr .i64 (a7 + blockSize6)) v1 u1).bind fun r4' =>
 (bif Nat.beq r4'.2.1.length u0.length then f1 v1 (wr .i64 (blockSize6 * 2)) r4'.2.1 r4'.2.2.1
 else none)
 else f1 v1 (wr .i64 (blockSize6 * 2)) u0 u1))
noncomputable def DL94c87io101_3 (n : Nat × Nat) (f1 : Int → Int → List Int → (List (Int × Int)) → Option R94c87io101) (m : Nat) : Int → Int → Int → Int → List Int → (List (Int × Int)) → Option R94c87io101 := Nat.rec (motive := fun _ => Int → Int → Int → Int → List Int → (List (Int × Int)) → Option R94c87io101) (fun _ _ _ _ _ _ => none) (fun _ ih => DF94c87io101_3 n f1 ih) m
theorem DL94c87io101_3_succ (n : Nat × Nat) (f1 : Int → Int → List Int → (List (Int × Int)) → Option R94c87io101) (m : Nat) : DL94c87io101_3 n f1 (m + 1) = DF94c87io101_3 n f1 (DL94c87io101_3 n f1 m) := rfl
theorem DL94c87io101_3_eq (n : Nat × Nat) (hn : n.2 = 1) (m1 : Nat) : ∀ m, L94c87io101_3 n m1 m = DL94c87io101_3 n (L94c87io101_2 n m1) m
  | 0 => by funext v1 blockSize6 a7 b8 u0 u1; kernel_rfl
  | m + 1 => by
    have ih := DL94c87io101_3_eq n hn m1 m
    funext v1 blockSize6 a7 b8 u0 u1; refine (L94c87io101_3_eq n m1 m v1 blockSize6 a7 b8 u0 u1).trans ?_
    rw [DL94c87io101_3_succ]
    unfold DF94c87io101_3
    (try simp only [ih, S95c87io1001_D n hn, S96c87io10001_D n hn]) <;> first | with_reducible rfl | rfl
noncomputable def DF94c87io101_2 (n : Nat × Nat) (f1 : Int → Int → List Int → (List (Int × Int)) → Option R94c87io101) (v1 : Int) (blockSize6 : Int) (u0 : List Int) (u1 : List (Int × Int)) : Option R94c87io101 :=
 (bif decide (blockSize6 < v1) then DL94c87io101_3 n f1 n.1 v1 blockSize6 0 (wr .i64 (2 * blockSize6)) u0 u1
 else some ((), u0, u1, ()))
noncomputable def DL94c87io101_2 (n : Nat × Nat) (m : Nat) : Int → Int → List Int → (List (Int × Int)) → Option R94c87io101 := Nat.rec (motive := fun _ => Int → Int → List Int → (List (Int × Int)) → Option R94c87io101) (fun _ _ _ _ => none) (fun _ ih => DF94c87io101_2 n ih) m
theorem DL94c87io101_2_succ (n : Nat × Nat) (m : Nat) : DL94c87io101_2 n (m + 1) = DF94c87io101_2 n (DL94c87io101_2 n m) := rfl
theorem DL94c87io101_2_eq (n : Nat × Nat) (hn : n.2 = 1) : ∀ m, L94c87io101_2 n m = DL94c87io101_2 n m
  | 0 => by funext v1 blockSize6 u0 u1; kernel_rfl
  | m + 1 => by
    have ih := DL94c87io101_2_eq n hn m
    funext v1 blockSize6 u0 u1; refine (L94c87io101_2_eq n m v1 blockSize6 u0 u1).trans ?_
    rw [DL94c87io101_2_succ]
    unfold DF94c87io101_2
    (try simp only [ih, DL94c87io101_3_eq n hn, S95c87io1001_D n hn, S96c87io10001_D n hn]) <;> first | with_reducible rfl | rfl
noncomputable def DF94c87io101_1 (n : Nat × Nat) (f1 : Int → Int → Int → Int → List Int → (List (Int × Int)) → Option R94c87io101) (v1 : Int) (blockSize6 : Int) (a7 : Int) (b8 : Int) (u0 : List Int) (u1 : List (Int × Int)) : Option R94c87io101 :=
 (bif decide (b8 ≤ v1) then (D95c87io1001 n u0 a7 b8 u1).bind fun r1' =>
 (bif Nat.beq r1'.2.1.length u0.length then f1 v1 blockSize6 b8 (wr .i64 (b8 + blockSize6)) r1'.2.1 r1'.2.2.1
 else none)
 else (D95c87io1001 n u0 a7 v1 u1).bind fun r2' =>
 (bif Nat.beq r2'.2.1.length u0.length then DL94c87io101_2 n n.1 v1 blockSize6 r2'.2.1 r2'.2.2.1
 else none))
noncomputable def DL94c87io101_1 (n : Nat × Nat) (m : Nat) : Int → Int → Int → Int → List Int → (List (Int × Int)) → Option R94c87io101 := Nat.rec (motive := fun _ => Int → Int → Int → Int → List Int → (List (Int × Int)) → Option R94c87io101) (fun _ _ _ _ _ _ => none) (fun _ ih => DF94c87io101_1 n ih) m
theorem DL94c87io101_1_succ (n : Nat × Nat) (m : Nat) : DL94c87io101_1 n (m + 1) = DF94c87io101_1 n (DL94c87io101_1 n m) := rfl
theorem DL94c87io101_1_eq (n : Nat × Nat) (hn : n.2 = 1) : ∀ m, L94c87io101_1 n m = DL94c87io101_1 n m
  | 0 => by funext v1 blockSize6 a7 b8 u0 u1; kernel_rfl
  | m + 1 => by
    have ih := DL94c87io101_1_eq n hn m
    funext v1 blockSize6 a7 b8 u0 u1; refine (L94c87io101_1_eq n m v1 blockSize6 a7 b8 u0 u1).trans ?_
    rw [DL94c87io101_1_succ]
    unfold DF94c87io101_1
    (try simp only [ih, DL94c87io101_3_eq n hn, DL94c87io101_2_eq n hn, S95c87io1001_D n hn, S96c87io10001_D n hn]) <;> first | with_reducible rfl | rfl
noncomputable def D94c87io101 (n : Nat × Nat) (data0 : List Int) (v1 : Int) (cp_2_0 : List (Int × Int)) : Option R94c87io101 :=
    DL94c87io101_1 n n.1 v1 20 0 20 data0 cp_2_0
theorem S94c87io101_D (n : Nat × Nat) (hn : n.2 = 1) : S94c87io101 n = D94c87io101 n := by
  funext data0 v1 cp_2_0; refine (S94c87io101_eq n data0 v1 cp_2_0).trans ?_
  unfold D94c87io101
  (try simp only [DL94c87io101_3_eq n hn, DL94c87io101_2_eq n hn, DL94c87io101_1_eq n hn, S95c87io1001_D n hn, S96c87io10001_D n hn]) <;> first | with_reducible rfl | rfl
/-D 85c87io11 -/
noncomputable def D85c87io11 (n : Nat × Nat) (x0 : List Int) (cp_1_0 : List (Int × Int)) : Option R85c87io11 :=
 (D94c87io101 n x0 (x0.length : Int) cp_1_0).bind fun r1' =>
 (bif Nat.beq r1'.2.1.length x0.length then some ((), r1'.2.1, r1'.2.2.1, ())
 else none)
theorem S85c87io11_D (n : Nat × Nat) (hn : n.2 = 1) : S85c87io11 n = D85c87io11 n := by
  funext x0 cp_1_0; refine (S85c87io11_eq n x0 cp_1_0).trans ?_
  unfold D85c87io11
  (try simp only [S94c87io101_D n hn]) <;> first | with_reducible rfl | rfl
/-D 69 -/
noncomputable def DL69_2 (n : Nat × Nat) (f1 : (List (Int × Int)) → Int → Int → (List (Int × Int)) → List Int → List Int → Option R69) (v7 : List (Int × Int)) (v8 : Int) (v9 : Int) (sheets1 : List (Int × Int)) (front3 : List Int) (back4 : List Int) : Option R69 :=
    f1 v7 v8 (wr .i64 (v9 + 1)) sheets1 front3 back4
theorem DL69_2_eq (n : Nat × Nat) (hn : n.2 = 1) (m1 : Nat) : L69_2 n m1 = DL69_2 n (L69_1 n m1) := by
  funext v7 v8 v9 sheets1 front3 back4; refine ((held_eq hn _).trans (L69_2_raw n m1 v7 v8 v9 sheets1 front3 back4)).trans ?_
  unfold DL69_2
  (try simp only [S85c86io11_D n hn, S85c87io11_D n hn]) <;> first | with_reducible rfl | rfl
noncomputable def DF69_1 (n : Nat × Nat) (f1 : (List (Int × Int)) → Int → Int → (List (Int × Int)) → List Int → List Int → Option R69) (v7 : List (Int × Int)) (v8 : Int) (v9 : Int) (sheets1 : List (Int × Int)) (front3 : List Int) (back4 : List Int) : Option R69 :=
 (bif decide (v9 < v8) then (idx v7 v9).bind fun x1' =>
 (bif decide (x1'.1 < x1'.2) then (bif decide (front3.length + [v9].length ≤ lim) then DL69_2 n f1 v7 v8 v9 sheets1 (front3 ++ [v9]) back4
 else none)
 else (bif decide (back4.length + [v9].length ≤ lim) then DL69_2 n f1 v7 v8 v9 sheets1 front3 (back4 ++ [v9])
 else none))
 else (D85c86io11 n front3 sheets1).bind fun r2' =>
 (bif Nat.beq r2'.2.1.length front3.length then (D85c87io11 n back4 r2'.2.2.1).bind fun r3' =>
 (bif Nat.beq r3'.2.1.length back4.length then (bif decide (r2'.2.1.length + r3'.2.1.length ≤ lim) then some (r2'.2.1 ++ r3'.2.1)
 else none)
 else none)
 else none))
noncomputable def DL69_1 (n : Nat × Nat) (m : Nat) : (List (Int × Int)) → Int → Int → (List (Int × Int)) → List Int → List Int → Option R69 := Nat.rec (motive := fun _ => (List (Int × Int)) → Int → Int → (List (Int × Int)) → List Int → List Int → Option R69) (fun _ _ _ _ _ _ => none) (fun _ ih => DF69_1 n ih) m
theorem DL69_1_succ (n : Nat × Nat) (m : Nat) : DL69_1 n (m + 1) = DF69_1 n (DL69_1 n m) := rfl
theorem DL69_1_eq (n : Nat × Nat) (hn : n.2 = 1) : ∀ m, L69_1 n m = DL69_1 n m
  | 0 => by funext v7 v8 v9 sheets1 front3 back4; kernel_rfl
  | m + 1 => by
    have ih := DL69_1_eq n hn m
    funext v7 v8 v9 sheets1 front3 back4; refine (L69_1_eq n m v7 v8 v9 sheets1 front3 back4).trans ?_
    rw [DL69_1_succ]
    unfold DF69_1
    (try simp only [ih, DL69_2_eq n hn, S85c86io11_D n hn, S85c87io11_D n hn]) <;> first | with_reducible rfl | rfl
noncomputable def D69 (n : Nat × Nat) (sheets0 : List (Int × Int)) : Option R69 :=
    DL69_1 n n.1 sheets0 (sheets0.length : Int) 0 sheets0 [] []
theorem S69_D (n : Nat × Nat) (hn : n.2 = 1) : S69 n = D69 n := by
  funext sheets0; refine (S69_eq n sheets0).trans ?_
  unfold D69
  (try simp only [DL69_2_eq n hn, DL69_1_eq n hn, S85c86io11_D n hn, S85c87io11_D n hn]) <;> first | with_reducible rfl | rfl
/-D 27 -/
noncomputable def D27 (n : Nat × Nat) (sheets0 : List (Int × Int)) : Option R27 :=
 (D25 n sheets0).bind fun r1' =>
 (bif (r1' != 0) then some ([], r1')
 else (D69 n sheets0).bind fun r2' =>
 some (r2', 0))
theorem S27_D (n : Nat × Nat) (hn : n.2 = 1) : S27 n = D27 n := by
  funext sheets0; refine (S27_eq n sheets0).trans ?_
  unfold D27
  (try simp only [S25_D n hn, S69_D n hn]) <;> first | with_reducible rfl | rfl
/-D 88 -/
noncomputable def D88 (n : Nat × Nat) (sheets0 : List (Int × Int)) : Option R88 :=
 (D69 n sheets0).bind fun r1' =>
 (D58 n sheets0 r1').bind fun r2' =>
 (D61 n r2'.1).bind fun r3' =>
 some r3'
theorem S88_D (n : Nat × Nat) (hn : n.2 = 1) : S88 n = D88 n := by
  funext sheets0; refine (S88_eq n sheets0).trans ?_
  unfold D88
  (try simp only [S58_D n hn, S61_D n hn, S69_D n hn]) <;> first | with_reducible rfl | rfl
/-D 72io01 -/
noncomputable def D72io01 (n : Nat × Nat) (order0 : List Int) (v1 : List Int) : Option R72io01 :=
 some (false, order0, ())
theorem S72io01_D (n : Nat × Nat) (hn : n.2 = 1) : S72io01 n = D72io01 n := by
  funext order0 v1; refine (S72io01_eq n order0 v1).trans ?_
  unfold D72io01
  first | with_reducible rfl | rfl
/-D 89f72io0001110 -/
noncomputable def DL89f72io0001110_2 (n : Nat × Nat) (SS : List Int → Int → Int → (List (Int × Int)) → List Int → Int → Option R89f72io0001110) (f1 : List Int → Int → Int → (List (Int × Int)) → Int → Int → Int → (List (Int × Int)) → List Int → Option R89f72io0001110) (order0 : List Int) (a1 : Int) (b2 : Int) (v23 : List (Int × Int)) (v24 : Int) (v25 : Int) (u2 : Int) (u0 : List (Int × Int)) (u1 : List Int) : Option R89f72io0001110 :=
    f1 order0 a1 b2 v23 v24 (wr .i64 (v25 + 1)) u2 u0 u1
theorem DL89f72io0001110_2_eq (n : Nat × Nat) (hn : n.2 = 1) (SS : List Int → Int → Int → (List (Int × Int)) → List Int → Int → Option R89f72io0001110) (m1 : Nat) : L89f72io0001110_2 n SS m1 = DL89f72io0001110_2 n SS (L89f72io0001110_1 n SS m1) := by
  funext order0 a1 b2 v23 v24 v25 u2 u0 u1; refine ((held_eq hn _).trans (L89f72io0001110_2_raw n SS m1 order0 a1 b2 v23 v24 v25 u2 u0 u1)).trans ?_
  unfold DL89f72io0001110_2
  (try simp only [S80_D n hn, S72io01_D n hn]) <;> first | with_reducible rfl | rfl
noncomputable def DF89f72io0001110_1 (n : Nat × Nat) (SS : List Int → Int → Int → (List (Int × Int)) → List Int → Int → Option R89f72io0001110) (f1 : List Int → Int → Int → (List (Int × Int)) → Int → Int → Int → (List (Int × Int)) → List Int → Option R89f72io0001110) (order0 : List Int) (a1 : Int) (b2 : Int) (v23 : List (Int × Int)) (v24 : Int) (v25 : Int) (u2 : Int) (u0 : List (Int × Int)) (u1 : List Int) : Option R89f72io0001110 :=
 (bif decide (v25 < v24) then (idx v23 v25).bind fun x2' =>
 (D80 n order0 v25).bind fun r3' =>
 (bif r3' then DL89f72io0001110_2 n SS f1 order0 a1 b2 v23 v24 v25 u2 u0 u1
 else (bif (decide (wr .i64 ((if b2 > (wr .i64 (a1 + x2'.1)) then b2 else (wr .i64 (a1 + x2'.1))) + x2'.2) ≤ u2) == true) then (bif ((order0.length : Int) == (order0.length : Int)) && bounds none (some (order0.length : Int)) (some (order0.length : Int)) order0.length then (bif decide ((order0.take (Int.toNat (order0.length : Int))).length + [v25].length ≤ lim) && ((order0.take (Int.toNat (order0.length : Int))).isEmpty || ![v25].isEmpty) then (SS ((order0.take (Int.toNat (order0.length : Int))) ++ [v25]) (wr .i64 (a1 + x2'.1)) (wr .i64 ((if b2 > (wr .i64 (a1 + x2'.1)) then b2 else (wr .i64 (a1 + x2'.1))) + x2'.2)) u0 u1 u2).bind fun r5' =>
 (bif (!r5'.1) then some (false, r5'.2.1, r5'.2.2.1, r5'.2.2.2.1, ())
 else DL89f72io0001110_2 n SS f1 order0 a1 b2 v23 v24 v25 r5'.2.2.2.1 r5'.2.1 r5'.2.2.1)
 else none)
 else none)
 else (bif false then some (false, u0, u1, u2, ())
 else DL89f72io0001110_2 n SS f1 order0 a1 b2 v23 v24 v25 u2 u0 u1)))
 else some (true, u0, u1, u2, ()))
noncomputable def DL89f72io0001110_1 (n : Nat × Nat) (SS : List Int → Int → Int → (List (Int × Int)) → List Int → Int → Option R89f72io0001110) (m : Nat) : List Int → Int → Int → (List (Int × Int)) → Int → Int → Int → (List (Int × Int)) → List Int → Option R89f72io0001110 := Nat.rec (motive := fun _ => List Int → Int → Int → (List (Int × Int)) → Int → Int → Int → (List (Int × Int)) → List Int → Option R89f72io0001110) (fun _ _ _ _ _ _ _ _ _ => none) (fun _ ih => DF89f72io0001110_1 n SS ih) m
theorem DL89f72io0001110_1_succ (n : Nat × Nat) (SS : List Int → Int → Int → (List (Int × Int)) → List Int → Int → Option R89f72io0001110) (m : Nat) : DL89f72io0001110_1 n SS (m + 1) = DF89f72io0001110_1 n SS (DL89f72io0001110_1 n SS m) := rfl
theorem DL89f72io0001110_1_eq (n : Nat × Nat) (hn : n.2 = 1) (SS : List Int → Int → Int → (List (Int × Int)) → List Int → Int → Option R89f72io0001110) : ∀ m, L89f72io0001110_1 n SS m = DL89f72io0001110_1 n SS m
  | 0 => by funext order0 a1 b2 v23 v24 v25 u2 u0 u1; kernel_rfl
  | m + 1 => by
    have ih := DL89f72io0001110_1_eq n hn SS m
    funext order0 a1 b2 v23 v24 v25 u2 u0 u1; refine (L89f72io0001110_1_eq n SS m order0 a1 b2 v23 v24 v25 u2 u0 u1).trans ?_
    rw [DL89f72io0001110_1_succ]
    unfold DF89f72io0001110_1
    (try simp only [ih, DL89f72io0001110_2_eq n hn SS, S80_D n hn, S72io01_D n hn]) <;> first | with_reducible rfl | rfl
noncomputable def DB89f72io0001110 (n : Nat × Nat) (SS : List Int → Int → Int → (List (Int × Int)) → List Int → Int → Option R89f72io0001110) (order0 : List Int) (a1 : Int) (b2 : Int) (v3 : List (Int × Int)) (cp_4_0 : List Int) (v5 : Int) : Option R89f72io0001110 :=
 (bif ((order0.length : Int) == (v3.length : Int)) then (D72io01 n order0 cp_4_0).bind fun r1' =>
 some (r1'.1, v3, r1'.2.1, v5, ())
 else DL89f72io0001110_1 n SS n.1 order0 a1 b2 v3 (v3.length : Int) 0 v5 v3 cp_4_0)
theorem DB89f72io0001110_eq (n : Nat × Nat) (hn : n.2 = 1) (SS : List Int → Int → Int → (List (Int × Int)) → List Int → Int → Option R89f72io0001110) : B89f72io0001110 n SS = DB89f72io0001110 n SS := by
  funext order0 a1 b2 v3 cp_4_0 v5; refine (B89f72io0001110_eq n SS order0 a1 b2 v3 cp_4_0 v5).trans ?_
  unfold DB89f72io0001110
  (try simp only [DL89f72io0001110_2_eq n hn SS, DL89f72io0001110_1_eq n hn SS, S80_D n hn, S72io01_D n hn]) <;> first | with_reducible rfl | rfl
noncomputable def DT89f72io0001110 (n : Nat × Nat) (d : Nat) : List Int → Int → Int → (List (Int × Int)) → List Int → Int → Option R89f72io0001110 := Nat.rec (motive := fun _ => List Int → Int → Int → (List (Int × Int)) → List Int → Int → Option R89f72io0001110) (fun _ _ _ _ _ _ => none) (fun _ ih => DB89f72io0001110 n ih) d
theorem DT89f72io0001110_succ (n : Nat × Nat) (d : Nat) : DT89f72io0001110 n (d + 1) = DB89f72io0001110 n (DT89f72io0001110 n d) := rfl
theorem DT89f72io0001110_eq (n : Nat × Nat) (hn : n.2 = 1) : ∀ d, T89f72io0001110 n d = DT89f72io0001110 n d
  | 0 => rfl
  | d + 1 => by
    funext order0 a1 b2 v3 cp_4_0 v5
    rw [T89f72io0001110_eq, DT89f72io0001110_eq n hn d, DB89f72io0001110_eq n hn, DT89f72io0001110_succ]
noncomputable def D89f72io0001110 (n : Nat × Nat) (order0 : List Int) (a1 : Int) (b2 : Int) (v3 : List (Int × Int)) (cp_4_0 : List Int) (v5 : Int) : Option R89f72io0001110 := DT89f72io0001110 n n.1 order0 a1 b2 v3 cp_4_0 v5
theorem S89f72io0001110_D (n : Nat × Nat) (hn : n.2 = 1) : S89f72io0001110 n = D89f72io0001110 n := by
  funext order0 a1 b2 v3 cp_4_0 v5; unfold S89f72io0001110 D89f72io0001110; rw [DT89f72io0001110_eq n hn]
/-D 71c72io01 -/
noncomputable def D71c72io01 (n : Nat × Nat) (sheets0 : List (Int × Int)) (cp_1_0 : List Int) : Option R71c72io01 :=
 (D88 n sheets0).bind fun r1' =>
 (D89f72io0001110 n [] 0 0 sheets0 cp_1_0 r1').bind fun r2' =>
 some ((), r2'.2.2.1, ())
theorem S71c72io01_D (n : Nat × Nat) (hn : n.2 = 1) : S71c72io01 n = D71c72io01 n := by
  funext sheets0 cp_1_0; refine (S71c72io01_eq n sheets0 cp_1_0).trans ?_
  unfold D71c72io01
  (try simp only [S88_D n hn, S89f72io0001110_D n hn]) <;> first | with_reducible rfl | rfl
/-D 29 -/
noncomputable def D29 (n : Nat × Nat) (sheets0 : List (Int × Int)) : Option R29 :=
 (D25 n sheets0).bind fun r1' =>
 (bif (r1' != 0) then some ([], r1')
 else (D71c72io01 n sheets0 []).bind fun r2' =>
 some (r2'.2.1, 0))
theorem S29_D (n : Nat × Nat) (hn : n.2 = 1) : S29 n = D29 n := by
  funext sheets0; refine (S29_eq n sheets0).trans ?_
  unfold D29
  (try simp only [S25_D n hn, S71c72io01_D n hn]) <;> first | with_reducible rfl | rfl
/-D 74io01 -/
noncomputable def D74io01 (n : Nat × Nat) (v0 : List Int) (v1 : Int) : Option R74io01 :=
 some (true, wr .i64 (v1 + 1), ())
theorem S74io01_D (n : Nat × Nat) (hn : n.2 = 1) : S74io01 n = D74io01 n := by
  funext v0 v1; refine (S74io01_eq n v0 v1).trans ?_
  unfold D74io01
  first | with_reducible rfl | rfl
/-D 89f74io0001110 -/
noncomputable def DL89f74io0001110_2 (n : Nat × Nat) (SS : List Int → Int → Int → (List (Int × Int)) → Int → Int → Option R89f74io0001110) (f1 : List Int → Int → Int → (List (Int × Int)) → Int → Int → Int → (List (Int × Int)) → Int → Option R89f74io0001110) (order0 : List Int) (a1 : Int) (b2 : Int) (v23 : List (Int × Int)) (v24 : Int) (v25 : Int) (u2 : Int) (u0 : List (Int × Int)) (u1 : Int) : Option R89f74io0001110 :=
    f1 order0 a1 b2 v23 v24 (wr .i64 (v25 + 1)) u2 u0 u1
theorem DL89f74io0001110_2_eq (n : Nat × Nat) (hn : n.2 = 1) (SS : List Int → Int → Int → (List (Int × Int)) → Int → Int → Option R89f74io0001110) (m1 : Nat) : L89f74io0001110_2 n SS m1 = DL89f74io0001110_2 n SS (L89f74io0001110_1 n SS m1) := by
  funext order0 a1 b2 v23 v24 v25 u2 u0 u1; refine ((held_eq hn _).trans (L89f74io0001110_2_raw n SS m1 order0 a1 b2 v23 v24 v25 u2 u0 u1)).trans ?_
  unfold DL89f74io0001110_2
  (try simp only [S80_D n hn, S74io01_D n hn]) <;> first | with_reducible rfl | rfl
noncomputable def DF89f74io0001110_1 (n : Nat × Nat) (SS : List Int → Int → Int → (List (Int × Int)) → Int → Int → Option R89f74io0001110) (f1 : List Int → Int → Int → (List (Int × Int)) → Int → Int → Int → (List (Int × Int)) → Int → Option R89f74io0001110) (order0 : List Int) (a1 : Int) (b2 : Int) (v23 : List (Int × Int)) (v24 : Int) (v25 : Int) (u2 : Int) (u0 : List (Int × Int)) (u1 : Int) : Option R89f74io0001110 :=
 (bif decide (v25 < v24) then (idx v23 v25).bind fun x2' =>
 (D80 n order0 v25).bind fun r3' =>
 (bif r3' then DL89f74io0001110_2 n SS f1 order0 a1 b2 v23 v24 v25 u2 u0 u1
 else (bif (decide (wr .i64 ((if b2 > (wr .i64 (a1 + x2'.1)) then b2 else (wr .i64 (a1 + x2'.1))) + x2'.2) ≤ u2) == true) then (bif ((order0.length : Int) == (order0.length : Int)) && bounds none (some (order0.length : Int)) (some (order0.length : Int)) order0.length then (bif decide ((order0.take (Int.toNat (order0.length : Int))).length + [v25].length ≤ lim) && ((order0.take (Int.toNat (order0.length : Int))).isEmpty || ![v25].isEmpty) then (SS ((order0.take (Int.toNat (order0.length : Int))) ++ [v25]) (wr .i64 (a1 + x2'.1)) (wr .i64 ((if b2 > (wr .i64 (a1 + x2'.1)) then b2 else (wr .i64 (a1 + x2'.1))) + x2'.2)) u0 u1 u2).bind fun r5' =>
 (bif (!r5'.1) then some (false, r5'.2.1, r5'.2.2.1, r5'.2.2.2.1, ())
 else DL89f74io0001110_2 n SS f1 order0 a1 b2 v23 v24 v25 r5'.2.2.2.1 r5'.2.1 r5'.2.2.1)
 else none)
 else none)
 else (bif false then some (false, u0, u1, u2, ())
 else DL89f74io0001110_2 n SS f1 order0 a1 b2 v23 v24 v25 u2 u0 u1)))
 else some (true, u0, u1, u2, ()))
noncomputable def DL89f74io0001110_1 (n : Nat × Nat) (SS : List Int → Int → Int → (List (Int × Int)) → Int → Int → Option R89f74io0001110) (m : Nat) : List Int → Int → Int → (List (Int × Int)) → Int → Int → Int → (List (Int × Int)) → Int → Option R89f74io0001110 := Nat.rec (motive := fun _ => List Int → Int → Int → (List (Int × Int)) → Int → Int → Int → (List (Int × Int)) → Int → Option R89f74io0001110) (fun _ _ _ _ _ _ _ _ _ => none) (fun _ ih => DF89f74io0001110_1 n SS ih) m
theorem DL89f74io0001110_1_succ (n : Nat × Nat) (SS : List Int → Int → Int → (List (Int × Int)) → Int → Int → Option R89f74io0001110) (m : Nat) : DL89f74io0001110_1 n SS (m + 1) = DF89f74io0001110_1 n SS (DL89f74io0001110_1 n SS m) := rfl
theorem DL89f74io0001110_1_eq (n : Nat × Nat) (hn : n.2 = 1) (SS : List Int → Int → Int → (List (Int × Int)) → Int → Int → Option R89f74io0001110) : ∀ m, L89f74io0001110_1 n SS m = DL89f74io0001110_1 n SS m
  | 0 => by funext order0 a1 b2 v23 v24 v25 u2 u0 u1; kernel_rfl
  | m + 1 => by
    have ih := DL89f74io0001110_1_eq n hn SS m
    funext order0 a1 b2 v23 v24 v25 u2 u0 u1; refine (L89f74io0001110_1_eq n SS m order0 a1 b2 v23 v24 v25 u2 u0 u1).trans ?_
    rw [DL89f74io0001110_1_succ]
    unfold DF89f74io0001110_1
    (try simp only [ih, DL89f74io0001110_2_eq n hn SS, S80_D n hn, S74io01_D n hn]) <;> first | with_reducible rfl | rfl
noncomputable def DB89f74io0001110 (n : Nat × Nat) (SS : List Int → Int → Int → (List (Int × Int)) → Int → Int → Option R89f74io0001110) (order0 : List Int) (a1 : Int) (b2 : Int) (v3 : List (Int × Int)) (cp_4_0 : Int) (v5 : Int) : Option R89f74io0001110 :=
 (bif ((order0.length : Int) == (v3.length : Int)) then (D74io01 n order0 cp_4_0).bind fun r1' =>
 some (r1'.1, v3, r1'.2.1, v5, ())
 else DL89f74io0001110_1 n SS n.1 order0 a1 b2 v3 (v3.length : Int) 0 v5 v3 cp_4_0)
theorem DB89f74io0001110_eq (n : Nat × Nat) (hn : n.2 = 1) (SS : List Int → Int → Int → (List (Int × Int)) → Int → Int → Option R89f74io0001110) : B89f74io0001110 n SS = DB89f74io0001110 n SS := by
  funext order0 a1 b2 v3 cp_4_0 v5; refine (B89f74io0001110_eq n SS order0 a1 b2 v3 cp_4_0 v5).trans ?_
  unfold DB89f74io0001110
  (try simp only [DL89f74io0001110_2_eq n hn SS, DL89f74io0001110_1_eq n hn SS, S80_D n hn, S74io01_D n hn]) <;> first | with_reducible rfl | rfl
noncomputable def DT89f74io0001110 (n : Nat × Nat) (d : Nat) : List Int → Int → Int → (List (Int × Int)) → Int → Int → Option R89f74io0001110 := Nat.rec (motive := fun _ => List Int → Int → Int → (List (Int × Int)) → Int → Int → Option R89f74io0001110) (fun _ _ _ _ _ _ => none) (fun _ ih => DB89f74io0001110 n ih) d
theorem DT89f74io0001110_succ (n : Nat × Nat) (d : Nat) : DT89f74io0001110 n (d + 1) = DB89f74io0001110 n (DT89f74io0001110 n d) := rfl
theorem DT89f74io0001110_eq (n : Nat × Nat) (hn : n.2 = 1) : ∀ d, T89f74io0001110 n d = DT89f74io0001110 n d
  | 0 => rfl
  | d + 1 => by
    funext order0 a1 b2 v3 cp_4_0 v5
    rw [T89f74io0001110_eq, DT89f74io0001110_eq n hn d, DB89f74io0001110_eq n hn, DT89f74io0001110_succ]
noncomputable def D89f74io0001110 (n : Nat × Nat) (order0 : List Int) (a1 : Int) (b2 : Int) (v3 : List (Int × Int)) (cp_4_0 : Int) (v5 : Int) : Option R89f74io0001110 := DT89f74io0001110 n n.1 order0 a1 b2 v3 cp_4_0 v5
theorem S89f74io0001110_D (n : Nat × Nat) (hn : n.2 = 1) : S89f74io0001110 n = D89f74io0001110 n := by
  funext order0 a1 b2 v3 cp_4_0 v5; unfold S89f74io0001110 D89f74io0001110; rw [DT89f74io0001110_eq n hn]
/-D 71c74io01 -/
noncomputable def D71c74io01 (n : Nat × Nat) (sheets0 : List (Int × Int)) (cp_1_0 : Int) : Option R71c74io01 :=
 (D88 n sheets0).bind fun r1' =>
 (D89f74io0001110 n [] 0 0 sheets0 cp_1_0 r1').bind fun r2' =>
 some ((), r2'.2.2.1, ())
theorem S71c74io01_D (n : Nat × Nat) (hn : n.2 = 1) : S71c74io01 n = D71c74io01 n := by
  funext sheets0 cp_1_0; refine (S71c74io01_eq n sheets0 cp_1_0).trans ?_
  unfold D71c74io01
  (try simp only [S88_D n hn, S89f74io0001110_D n hn]) <;> first | with_reducible rfl | rfl
/-D 31 -/
noncomputable def D31 (n : Nat × Nat) (sheets0 : List (Int × Int)) : Option R31 :=
 (D25 n sheets0).bind fun r1' =>
 (bif (r1' != 0) then some (0, r1')
 else (D71c74io01 n sheets0 0).bind fun r2' =>
 some (r2'.2.1, 0))
theorem S31_D (n : Nat × Nat) (hn : n.2 = 1) : S31 n = D31 n := by
  funext sheets0; refine (S31_eq n sheets0).trans ?_
  unfold D31
  (try simp only [S25_D n hn, S71c74io01_D n hn]) <;> first | with_reducible rfl | rfl
/-D 33 -/
noncomputable def D33 (n : Nat × Nat) (sheets0 : List (Int × Int)) (i1 : Int) (j2 : Int) : Option R33 :=
 (D25 n sheets0).bind fun r1' =>
 (bif (r1' != 0) then some (false, r1')
 else ((bif (decide ((if j2 < i1 then j2 else i1) < 0) == false) then some (decide ((if j2 > i1 then j2 else i1) ≥ (sheets0.length : Int)))
 else some true)).bind fun b2' =>
 (bif b2' then some (false, 2)
 else (idx sheets0 i1).bind fun x3' =>
 (idx sheets0 j2).bind fun x4' =>
 some (decide ((if x4'.2 < x3'.1 then x4'.2 else x3'.1) ≤ (if x3'.2 < x4'.1 then x3'.2 else x4'.1)), 0)))
theorem S33_D (n : Nat × Nat) (hn : n.2 = 1) : S33 n = D33 n := by
  funext sheets0 i1 j2; refine (S33_eq n sheets0 i1 j2).trans ?_
  unfold D33
  (try simp only [S25_D n hn]) <;> first | with_reducible rfl | rfl
/-D 75 -/
noncomputable def DL75_2 (n : Nat × Nat) (f1 : Int → Int → Int → Int → List Int → List Int → Option R75) (k2 : Int) (v9 : Int) (v24 : Int) (v25 : Int) (own7 : List Int) (other8 : List Int) : Option R75 :=
    f1 k2 v9 v24 (wr .i64 (v25 + 1)) own7 other8
theorem DL75_2_eq (n : Nat × Nat) (hn : n.2 = 1) (m1 : Nat) : L75_2 n m1 = DL75_2 n (L75_1 n m1) := by
  funext k2 v9 v24 v25 own7 other8; refine ((held_eq hn _).trans (L75_2_raw n m1 k2 v9 v24 v25 own7 other8)).trans ?_
  unfold DL75_2
  (try simp only [S64_D n hn]) <;> first | with_reducible rfl | rfl
noncomputable def DF75_1 (n : Nat × Nat) (f1 : Int → Int → Int → Int → List Int → List Int → Option R75) (k2 : Int) (v9 : Int) (v24 : Int) (v25 : Int) (own7 : List Int) (other8 : List Int) : Option R75 :=
 (bif decide (v25 < v24) then (bif inB v25 own7.length then (idx own7 v25).bind fun x4' =>
 (bif inB k2 own7.length then (idx own7 k2).bind fun x5' =>
 (bif decide (x4' < x5') then (bif inB v25 other8.length then (idx other8 v25).bind fun x6' =>
              DL75_2 n f1 k2 (wr .i64 (v9 + (if x6' < x4' then x6' else x4'))) v24 v25 own7 other8
 else none)
 else (bif inB v25 other8.length then (idx other8 v25).bind fun x7' =>
              DL75_2 n f1 k2 (wr .i64 (v9 + x7')) v24 v25 own7 other8
 else none))
 else none)
 else none)
 else some v9)
noncomputable def DL75_1 (n : Nat × Nat) (m : Nat) : Int → Int → Int → Int → List Int → List Int → Option R75 := Nat.rec (motive := fun _ => Int → Int → Int → Int → List Int → List Int → Option R75) (fun _ _ _ _ _ _ => none) (fun _ ih => DF75_1 n ih) m
theorem DL75_1_succ (n : Nat × Nat) (m : Nat) : DL75_1 n (m + 1) = DF75_1 n (DL75_1 n m) := rfl
theorem DL75_1_eq (n : Nat × Nat) (hn : n.2 = 1) : ∀ m, L75_1 n m = DL75_1 n m
  | 0 => by funext k2 v9 v24 v25 own7 other8; kernel_rfl
  | m + 1 => by
    have ih := DL75_1_eq n hn m
    funext k2 v9 v24 v25 own7 other8; refine (L75_1_eq n m k2 v9 v24 v25 own7 other8).trans ?_
    rw [DL75_1_succ]
    unfold DF75_1
    (try simp only [ih, DL75_2_eq n hn, S64_D n hn]) <;> first | with_reducible rfl | rfl
noncomputable def D75 (n : Nat × Nat) (sheets0 : List (Int × Int)) (machine1 : Int) (k2 : Int) : Option R75 :=
 (D64 n sheets0 machine1).bind fun r1' =>
 (D64 n sheets0 (wr .i64 (1 - machine1))).bind fun r2' =>
 (bif inB k2 r1'.length then (idx r1' k2).bind fun x3' =>
      DL75_1 n n.1 k2 x3' (r1'.length : Int) 0 r1' r2'
 else none)
theorem S75_D (n : Nat × Nat) (hn : n.2 = 1) : S75 n = D75 n := by
  funext sheets0 machine1 k2; refine (S75_eq n sheets0 machine1 k2).trans ?_
  unfold D75
  (try simp only [DL75_2_eq n hn, DL75_1_eq n hn, S64_D n hn]) <;> first | with_reducible rfl | rfl
/-D 35 -/
noncomputable def D35 (n : Nat × Nat) (sheets0 : List (Int × Int)) (machine1 : Int) (k2 : Int) : Option R35 :=
 (D25 n sheets0).bind fun r1' =>
 (bif (r1' != 0) then some (0, r1')
 else ((bif (decide (machine1 < 0) == false) then some (decide (machine1 > 1))
 else some true)).bind fun b2' =>
 ((bif (b2' == false) then some (decide (k2 < 0))
 else some true)).bind fun b3' =>
 ((bif (b3' == false) then some (decide (k2 ≥ (sheets0.length : Int)))
 else some true)).bind fun b4' =>
 (bif b4' then some (0, 2)
 else (D75 n sheets0 machine1 k2).bind fun r5' =>
 some (r5', 0)))
theorem S35_D (n : Nat × Nat) (hn : n.2 = 1) : S35 n = D35 n := by
  funext sheets0 machine1 k2; refine (S35_eq n sheets0 machine1 k2).trans ?_
  unfold D35
  (try simp only [S25_D n hn, S75_D n hn]) <;> first | with_reducible rfl | rfl
/-D 37 -/
noncomputable def DL37_3 (n : Nat × Nat) (f1 : (List (Int × Int)) → Int → Int → Int → Int → Option R37) (f2 : (List (Int × Int)) → Int → Int → Int → Int → Int → Int → Int → Option R37) (sheets0 : List (Int × Int)) (machine2 : Int) (k3 : Int) (best6 : Int) (m7 : Int) (v15 : Int) (v19 : Int) (v20 : Int) : Option R37 :=
    f2 sheets0 machine2 k3 best6 m7 v15 v19 (wr .i64 (v20 + 1))
theorem DL37_3_eq (n : Nat × Nat) (hn : n.2 = 1) (m1 m2 : Nat) : L37_3 n m1 m2 = DL37_3 n (L37_1 n m1) (L37_2 n m1 m2) := by
  funext sheets0 machine2 k3 best6 m7 v15 v19 v20; refine ((held_eq hn _).trans (L37_3_raw n m1 m2 sheets0 machine2 k3 best6 m7 v15 v19 v20)).trans ?_
  unfold DL37_3
  (try simp only [S25_D n hn, S75_D n hn]) <;> first | with_reducible rfl | rfl
noncomputable def DF37_2 (n : Nat × Nat) (f1 : (List (Int × Int)) → Int → Int → Int → Int → Option R37) (f2 : (List (Int × Int)) → Int → Int → Int → Int → Int → Int → Int → Option R37) (sheets0 : List (Int × Int)) (machine2 : Int) (k3 : Int) (best6 : Int) (m7 : Int) (v15 : Int) (v19 : Int) (v20 : Int) : Option R37 :=
 (bif decide (v20 < v19) then (D75 n sheets0 m7 v20).bind fun r2' =>
 (bif decide (r2' > best6) then DL37_3 n f1 f2 sheets0 m7 v20 r2' m7 v15 v19 v20
 else DL37_3 n f1 f2 sheets0 machine2 k3 best6 m7 v15 v19 v20)
 else f1 sheets0 machine2 k3 best6 (wr .i64 (v15 + 1)))
noncomputable def DL37_2 (n : Nat × Nat) (f1 : (List (Int × Int)) → Int → Int → Int → Int → Option R37) (m : Nat) : (List (Int × Int)) → Int → Int → Int → Int → Int → Int → Int → Option R37 := Nat.rec (motive := fun _ => (List (Int × Int)) → Int → Int → Int → Int → Int → Int → Int → Option R37) (fun _ _ _ _ _ _ _ _ => none) (fun _ ih => DF37_2 n f1 ih) m
theorem DL37_2_succ (n : Nat × Nat) (f1 : (List (Int × Int)) → Int → Int → Int → Int → Option R37) (m : Nat) : DL37_2 n f1 (m + 1) = DF37_2 n f1 (DL37_2 n f1 m) := rfl
theorem DL37_2_eq (n : Nat × Nat) (hn : n.2 = 1) (m1 : Nat) : ∀ m, L37_2 n m1 m = DL37_2 n (L37_1 n m1) m
  | 0 => by funext sheets0 machine2 k3 best6 m7 v15 v19 v20; kernel_rfl
  | m + 1 => by
    have ih := DL37_2_eq n hn m1 m
    funext sheets0 machine2 k3 best6 m7 v15 v19 v20; refine (L37_2_eq n m1 m sheets0 machine2 k3 best6 m7 v15 v19 v20).trans ?_
    rw [DL37_2_succ]
    unfold DF37_2
    (try simp only [ih, DL37_3_eq n hn, S25_D n hn, S75_D n hn]) <;> first | with_reducible rfl | rfl
noncomputable def DF37_1 (n : Nat × Nat) (f1 : (List (Int × Int)) → Int → Int → Int → Int → Option R37) (sheets0 : List (Int × Int)) (machine2 : Int) (k3 : Int) (best6 : Int) (v15 : Int) : Option R37 :=
 (bif decide (v15 < 2) then DL37_2 n f1 n.1 sheets0 machine2 k3 best6 v15 v15 (sheets0.length : Int) 0
 else some (machine2, k3, 0))
noncomputable def DL37_1 (n : Nat × Nat) (m : Nat) : (List (Int × Int)) → Int → Int → Int → Int → Option R37 := Nat.rec (motive := fun _ => (List (Int × Int)) → Int → Int → Int → Int → Option R37) (fun _ _ _ _ _ => none) (fun _ ih => DF37_1 n ih) m
theorem DL37_1_succ (n : Nat × Nat) (m : Nat) : DL37_1 n (m + 1) = DF37_1 n (DL37_1 n m) := rfl
theorem DL37_1_eq (n : Nat × Nat) (hn : n.2 = 1) : ∀ m, L37_1 n m = DL37_1 n m
  | 0 => by funext sheets0 machine2 k3 best6 v15; kernel_rfl
  | m + 1 => by
    have ih := DL37_1_eq n hn m
    funext sheets0 machine2 k3 best6 v15; refine (L37_1_eq n m sheets0 machine2 k3 best6 v15).trans ?_
    rw [DL37_1_succ]
    unfold DF37_1
    (try simp only [ih, DL37_3_eq n hn, DL37_2_eq n hn, S25_D n hn, S75_D n hn]) <;> first | with_reducible rfl | rfl
noncomputable def D37 (n : Nat × Nat) (sheets0 : List (Int × Int)) : Option R37 :=
 (D25 n sheets0).bind fun r1' =>
 (bif (r1' != 0) then some (0, 0, r1')
 else DL37_1 n n.1 sheets0 0 0 (-1) 0)
theorem S37_D (n : Nat × Nat) (hn : n.2 = 1) : S37 n = D37 n := by
  funext sheets0; refine (S37_eq n sheets0).trans ?_
  unfold D37
  (try simp only [DL37_3_eq n hn, DL37_2_eq n hn, DL37_1_eq n hn, S25_D n hn, S75_D n hn]) <;> first | with_reducible rfl | rfl
/-D 39 -/
noncomputable def D39 (n : Nat × Nat) (sheets0 : List (Int × Int)) : Option R39 := HF39 (D25 n) sheets0
theorem S39_D (n : Nat × Nat) (hn : n.2 = 1) : S39 n = D39 n := by unfold S39 D39; rw [S25_D n hn]
/-D 18 -/
noncomputable def DF18_1 (n : Nat × Nat) (f1 : List Int → List Int → Int → Option R18) (a0 : List Int) (b1 : List Int) (i5 : Int) : Option R18 :=
 (bif decide (i5 < (a0.length : Int)) then (idx a0 i5).bind fun x1' =>
 (idx b1 i5).bind fun x2' =>
 (bif (x1' != x2') then some false
 else f1 a0 b1 (wr .i64 (i5 + 1)))
 else some true)
noncomputable def DL18_1 (n : Nat × Nat) (m : Nat) : List Int → List Int → Int → Option R18 := Nat.rec (motive := fun _ => List Int → List Int → Int → Option R18) (fun _ _ _ => none) (fun _ ih => DF18_1 n ih) m
theorem DL18_1_succ (n : Nat × Nat) (m : Nat) : DL18_1 n (m + 1) = DF18_1 n (DL18_1 n m) := rfl
theorem DL18_1_eq (n : Nat × Nat) (hn : n.2 = 1) : ∀ m, L18_1 n m = DL18_1 n m
  | 0 => by funext a0 b1 i5; kernel_rfl
  | m + 1 => by
    have ih := DL18_1_eq n hn m
    funext a0 b1 i5; refine (L18_1_eq n m a0 b1 i5).trans ?_
    rw [DL18_1_succ]
    unfold DF18_1
    (try simp only [ih]) <;> first | with_reducible rfl | rfl
noncomputable def D18 (n : Nat × Nat) (a0 : List Int) (b1 : List Int) : Option R18 :=
 (bif ((a0.length : Int) != (b1.length : Int)) then some false
 else DL18_1 n n.1 a0 b1 0)
theorem S18_D (n : Nat × Nat) (hn : n.2 = 1) : S18 n = D18 n := by
  funext a0 b1; refine (S18_eq n a0 b1).trans ?_
  unfold D18
  (try simp only [DL18_1_eq n hn]) <;> first | with_reducible rfl | rfl
/-D 51 -/
noncomputable def DF51_1 (n : Nat × Nat) (f1 : (List (Int × Int)) → (List (Int × Int)) → Int → Option R51) (a0 : List (Int × Int)) (b1 : List (Int × Int)) (i5 : Int) : Option R51 :=
 (bif decide (i5 < (a0.length : Int)) then (idx a0 i5).bind fun x1' =>
 (idx b1 i5).bind fun x2' =>
 (bif (!((x1'.1 == x2'.1) && ((x1'.2 == x2'.2) && true))) then some false
 else f1 a0 b1 (wr .i64 (i5 + 1)))
 else some true)
noncomputable def DL51_1 (n : Nat × Nat) (m : Nat) : (List (Int × Int)) → (List (Int × Int)) → Int → Option R51 := Nat.rec (motive := fun _ => (List (Int × Int)) → (List (Int × Int)) → Int → Option R51) (fun _ _ _ => none) (fun _ ih => DF51_1 n ih) m
theorem DL51_1_succ (n : Nat × Nat) (m : Nat) : DL51_1 n (m + 1) = DF51_1 n (DL51_1 n m) := rfl
theorem DL51_1_eq (n : Nat × Nat) (hn : n.2 = 1) : ∀ m, L51_1 n m = DL51_1 n m
  | 0 => by funext a0 b1 i5; kernel_rfl
  | m + 1 => by
    have ih := DL51_1_eq n hn m
    funext a0 b1 i5; refine (L51_1_eq n m a0 b1 i5).trans ?_
    rw [DL51_1_succ]
    unfold DF51_1
    (try simp only [ih]) <;> first | with_reducible rfl | rfl
noncomputable def D51 (n : Nat × Nat) (a0 : List (Int × Int)) (b1 : List (Int × Int)) : Option R51 :=
 (bif ((a0.length : Int) != (b1.length : Int)) then some false
 else DL51_1 n n.1 a0 b1 0)
theorem S51_D (n : Nat × Nat) (hn : n.2 = 1) : S51 n = D51 n := by
  funext a0 b1; refine (S51_eq n a0 b1).trans ?_
  unfold D51
  (try simp only [DL51_1_eq n hn]) <;> first | with_reducible rfl | rfl
/-D 41 -/
noncomputable def D41 (n : Nat × Nat) (sheets0 : List (Int × Int)) (order1 : List Int) (machine2 : Int) (k3 : Int) : Option R41 :=
 (D58 n sheets0 order1).bind fun r1' =>
 (bif (r1'.2 != 0) then some r1'.2
 else (D35 n sheets0 machine2 k3).bind fun r2' =>
 (bif (r2'.2 != 0) then some r2'.2
 else (D61 n r1'.1).bind fun r3' =>
 (bif (r2'.1 != r3') then some 14
 else some 0)))
theorem S41_D (n : Nat × Nat) (hn : n.2 = 1) : S41 n = D41 n := by
  funext sheets0 order1 machine2 k3; refine (S41_eq n sheets0 order1 machine2 k3).trans ?_
  unfold D41
  (try simp only [S35_D n hn, S58_D n hn, S61_D n hn]) <;> first | with_reducible rfl | rfl
/-D 14 -/
noncomputable def D14 (n : Nat × Nat) : Option R14 :=
 (D52 n).bind fun r1' =>
 (D16 n r1' [1, 0, 2]).bind fun r2' =>
 (D52 n).bind fun r3' =>
 (D19 n r3' [0, 1, 2]).bind fun r4' =>
 (D52 n).bind fun r5' =>
 (D21 n r5' [0, 1, 2]).bind fun r6' =>
 (D52 n).bind fun r7' =>
 (D23 n r7' [1, 0, 2]).bind fun r8' =>
 (D52 n).bind fun r9' =>
 (D27 n r9').bind fun r10' =>
 (D52 n).bind fun r11' =>
 (D29 n r11').bind fun r12' =>
 (D52 n).bind fun r13' =>
 (D31 n r13').bind fun r14' =>
 ((bif ((r2'.2.2 != 0) == false) then some (r4'.2 != 0)
 else some true)).bind fun b15' =>
 ((bif (b15' == false) then some (r6'.2 != 0)
 else some true)).bind fun b16' =>
 ((bif (b16' == false) then some (r8'.2 != 0)
 else some true)).bind fun b17' =>
 ((bif (b17' == false) then some (r10'.2 != 0)
 else some true)).bind fun b18' =>
 ((bif (b18' == false) then some (r12'.2 != 0)
 else some true)).bind fun b19' =>
 ((bif (b19' == false) then some (r14'.2 != 0)
 else some true)).bind fun b20' =>
 (bif b20' then some false
 else (D52 n).bind fun r21' =>
 (D33 n r21' 1 0).bind fun r22' =>
 (D52 n).bind fun r23' =>
 (D33 n r23' 0 1).bind fun r24' =>
 (D52 n).bind fun r25' =>
 (D35 n r25' 1 2).bind fun r26' =>
 (D52 n).bind fun r27' =>
 (D37 n r27').bind fun r28' =>
 (D52 n).bind fun r29' =>
 (D39 n r29').bind fun r30' =>
 (D52 n).bind fun r31' =>
 (D19 n r31' [0, 1, 1]).bind fun r32' =>
 ((bif ((r22'.2 == 0) == true) then some (r24'.2 == 0)
 else some false)).bind fun b33' =>
 ((bif (b33' == true) then some (r26'.2 == 0)
 else some false)).bind fun b34' =>
 ((bif (b34' == true) then some (r28'.2.2 == 0)
 else some false)).bind fun b35' =>
 ((bif (b35' == true) then some (r30'.2 == 0)
 else some false)).bind fun b36' =>
 ((bif (b36' == true) then some (r32'.2 == 6)
 else some false)).bind fun b37' =>
 ((bif (b37' == true) then (D18 n r2'.1 [1, 4, 9]).bind fun r38' =>
 some r38'
 else some false)).bind fun b39' =>
 ((bif (b39' == true) then (D18 n r2'.2.1 [5, 7, 10]).bind fun r40' =>
 some r40'
 else some false)).bind fun b41' =>
 ((bif (b41' == true) then some (r4'.1 == 10)
 else some false)).bind fun b42' =>
 ((bif (b42' == true) then some (r6'.1 == 3)
 else some false)).bind fun b43' =>
 ((bif (b43' == true) then some (r8'.1 == 2)
 else some false)).bind fun b44' =>
 ((bif (b44' == true) then (D18 n r10'.1 [1, 0, 2]).bind fun r45' =>
 some r45'
 else some false)).bind fun b46' =>
 ((bif (b46' == true) then (D18 n r12'.1 [0, 1, 2]).bind fun r47' =>
 some r47'
 else some false)).bind fun b48' =>
 ((bif (b48' == true) then some (r14'.1 == 2)
 else some false)).bind fun b49' =>
 ((bif (b49' == true) then some r22'.1
 else some false)).bind fun b50' =>
 ((bif (b50' == true) then some (!r24'.1)
 else some false)).bind fun b51' =>
 ((bif (b51' == true) then some (r26'.1 == 10)
 else some false)).bind fun b52' =>
 ((bif (b52' == true) then some (r28'.1 == 1)
 else some false)).bind fun b53' =>
 ((bif (b53' == true) then some (r28'.2.1 == 2)
 else some false)).bind fun b54' =>
 ((bif (b54' == true) then (D55 n [1, 5, 4, 1, 2, 3]).bind fun r55' =>
 (D51 n r30'.1 r55').bind fun r56' =>
 some r56'
 else some false)).bind fun b57' =>
 ((bif (b57' == true) then (D52 n).bind fun r58' =>
 (D41 n r58' [0, 1, 2] 1 2).bind fun r59' =>
 some (r59' == 0)
 else some false)).bind fun b60' =>
 ((bif (b60' == true) then (D52 n).bind fun r61' =>
 (D41 n r61' [2, 1, 0] 1 2).bind fun r62' =>
 some (r62' == 14)
 else some false)).bind fun b63' =>
 some b63')
theorem S14_D (n : Nat × Nat) (hn : n.2 = 1) : S14 n = D14 n := by
  refine (S14_eq n).trans ?_
  unfold D14
  (try simp only [S16_D n hn, S18_D n hn, S19_D n hn, S21_D n hn, S23_D n hn, S27_D n hn, S29_D n hn, S31_D n hn, S33_D n hn, S35_D n hn, S37_D n hn, S39_D n hn, S41_D n hn, S51_D n hn, S52_D n hn, S55_D n hn]) <;> first | with_reducible rfl | rfl
/-D 54 -/
/-D 11 -/
end Go.Proofs.Ytnlbhjmbaedadaa
set_option linter.unusedVariables false
set_option maxRecDepth 100000
namespace Go.Proofs.Ytnlbhjmbaedadaa
open Go.Vi
abbrev N : Nat × Nat := (10000, 1)
theorem works_eq : D14 N = some true := by kernel_rfl
end Go.Proofs.Ytnlbhjmbaedadaa
