/- The functions, step by step: written by program -/
import Derived.Test.YtombednapelokaaViS
import Derived.Test.YtombednapelokaaProg
import Derived.KernelRfl
import Derived.WalkKit
import Derived.Test.YtombednapelokaaDel
import Derived.Test.YtombednapelokaaCG2
set_option linter.unusedVariables false
set_option linter.unusedSimpArgs false
set_option maxRecDepth 100000
namespace Go.Proofs.Ytombednapelokaa
open Go.Vi
variable (n : Nat × Nat)

abbrev R49 := Int
abbrev K49 := St → Option R49
noncomputable def c49 : Code := bodyOf Try.f49
noncomputable def an49 : Ann := (.s .l (.s .l (.s (.j [0] (.j [0,1] (.s (.s .l (.j [0,1] .l .l)) (.j [0,1] .l .l)) .l) .l) .l)))
def pk49 : List PK := [.c (.int .i64),.c (.int .i64)]
def rk49 : List RK := [.c (.int .i64) 4]
noncomputable def rt49 (st : St) : Option R49 := rtG rk49 st
noncomputable def E49 : Env := { T := tab,phi := noPhi,eff := fun _ => false,fuel := n.1,hold := n.2 }
noncomputable def kq49_1 : K49 := run (E49 n) (cB (cB (cB c49))) an49.snd.snd.snd rt49 (fun _ _ => none) rt49
noncomputable def kc49_2 : K49 := fun s => normC [0] s (kq49_1 n)
noncomputable def xb49_3 : Nat → K49 := fun j s => bif Nat.beq j 0 then normC [0] s (kq49_1 n) else (fun _ _ => none) j s
noncomputable def F49_4 : (K49) → K49 := fun K s => run (E49 n) (cA (cA (cA (cB (cB c49))))) an49.snd.snd.fst.fst.fst (fun s => normC [0,1] s K) (xb49_3 n) rt49 s
noncomputable def kq49_5 (m1 : Nat) : K49 := run (E49 n) (cB (cA (cA (cA (cB (cB c49)))))) an49.snd.snd.fst.fst.fst.snd (fun s => normC [0,1] s (loopN (F49_4 n) m1)) (xb49_3 n) rt49
noncomputable def kc49_6 (m1 : Nat) : K49 := fun s => normC [0,1] s (kq49_5 n m1)
noncomputable def kc49_7 (m1 : Nat) : K49 := fun s => normC [0,1] s (fun s => normC [0,1] s (loopN (F49_4 n) m1))
noncomputable def xb49_8 (m1 : Nat) : Nat → K49 := fun j s => bif Nat.beq j 1 then normC [0,1] s (fun s => normC [0,1] s (loopN (F49_4 n) m1)) else (xb49_3 n) j s
noncomputable def L49_1 (m : Nat) (a0 : Int) (b1 : Int) : Option R49 := loopN (F49_4 n) m { tm := [.c (.int .i64 a0),.c (.int .i64 b1),uu,uu,uu,uu,uu,uu,uu,uu,uu,uu,uu,uu,uu,uu,uu,uu,uu,uu],hp := emp }
theorem L49_1_eq (m1 : Nat) (a0 : Int) (b1 : Int) : L49_1 n (m1 + 1) a0 b1 =
    (bif (b1 != 0) then (bif b1 == 0 then none
      else L49_1 n m1 b1 (Int.tmod a0 b1))
    else some a0) := by kernel_rfl
noncomputable def S49 (a0 : Int) (b1 : Int) : Option R49 := run (E49 n) c49 an49 rt49 (fun _ _ => none) rt49 { tm := [.c (.int .i64 a0),.c (.int .i64 b1),uu,uu,uu,uu,uu,uu,uu,uu,uu,uu,uu,uu,uu,uu,uu,uu,uu,uu],hp := emp }
theorem S49_eq (a0 : Int) (b1 : Int) : S49 n a0 b1 =
    L49_1 n n.1 (if (wr .i64 (0 - a0)) > a0 then (wr .i64 (0 - a0)) else a0) (if (wr .i64 (0 - b1)) > b1 then (wr .i64 (0 - b1)) else b1) := by kernel_rfl
theorem S49_run (xs : pksDen pk49) : S49 n xs.1 xs.2.1 = runG (E49 n) noScope c49 an49 (rtG rk49) (fun _ _ => none) (rtG rk49) (st0 pk49 xs Try.f49.ntmps) := by kernel_rfl
noncomputable def P49 := phiOf pk49 rk49 (fun xs => S49 n xs.1 xs.2.1)
theorem call49 : CallOK Try.prog 49 := callOK_of Try.func49 (by kernel_rfl) (by kernel_rfl)
theorem env49 : EnvOK Try.prog (E49 n) := envOK0 noPhi_ok rfl rfl
theorem par49 : EnvPar (E49 n) := envPar0 noPhi_par rfl
theorem FC49 : FCs Try.prog 49 (P49 n) := phiOf_FCs fun xs r h vs hv => FC.of_runG tabOK eqsOK (env49 n) (par49 n) mixed (fun _ => noScope_ok) Try.func49 (c := c49) (an := an49) (pks := pk49) (rks := rk49) (by kernel_rfl) (by kernel_rfl) hv ((S49_run n xs).symm.trans h)
abbrev R53 := Bool
abbrev K53 := St → Option R53
noncomputable def c53 : Code := bodyOf Try.f53
noncomputable def an53 : Ann := .l
def pk53 : List PK := [.c (.pair (.int .i64) (.int .i64)),.c (.int .i64),.c (.int .i64)]
def rk53 : List RK := [.c .bool 6]
noncomputable def rt53 (st : St) : Option R53 := rtG rk53 st
noncomputable def E53 : Env := { T := tab,phi := (consPhi 49 (fun _ => true) (P49 n) noPhi),eff := fun _ => false,fuel := n.1,hold := n.2 }
noncomputable def S53 (f0 : Int × Int) (low1 : Int) (high2 : Int) : Option R53 := run (E53 n) c53 an53 rt53 (fun _ _ => none) rt53 { tm := [.agg [.int .i64 f0.1,.int .i64 f0.2],.c (.int .i64 low1),.c (.int .i64 high2),uu,uu,uu,uu,uu,uu,uu,uu,uu,uu,uu,uu,uu,uu,uu,uu,uu,uu,uu,uu,uu,uu,uu,uu,uu,uu,uu,uu,uu,uu,uu,uu,uu,uu,uu,uu,uu,uu],hp := emp }
theorem S53_eq (f0 : Int × Int) (low1 : Int) (high2 : Int) : S53 n f0 low1 high2 =
    ((bif (decide (f0.2 > 0) == true) then some (decide (f0.2 ≤ 72))
      else some false)).bind fun b1' =>
    ((bif (b1' == true) then some (decide (f0.1 ≥ wr .i64 (low1 * f0.2)))
      else some false)).bind fun b2' =>
    ((bif (b2' == true) then some (decide (f0.1 ≤ wr .i64 (high2 * f0.2)))
      else some false)).bind fun b3' =>
    ((bif (b3' == true) then (S49 n f0.1 f0.2).bind fun r4' =>
        some (r4' == 1)
      else some false)).bind fun b5' =>
    some b5' := by kernel_rfl
theorem S53_run (xs : pksDen pk53) : S53 n xs.1 xs.2.1 xs.2.2.1 = runG (E53 n) noScope c53 an53 (rtG rk53) (fun _ _ => none) (rtG rk53) (st0 pk53 xs Try.f53.ntmps) := by kernel_rfl
noncomputable def P53 := phiOf pk53 rk53 (fun xs => S53 n xs.1 xs.2.1 xs.2.2.1)
theorem call53 : CallOK Try.prog 53 := callOK_of Try.func53 (by kernel_rfl) (by kernel_rfl)
theorem env53 : EnvOK Try.prog (E53 n) := envOK0 (consPhi_ok (FC49 n) call49 noPhi_ok) rfl rfl
theorem par53 : EnvPar (E53 n) := envPar0 (consPhi_par phiOf_Par1 noPhi_par) rfl
theorem FC53 : FCs Try.prog 53 (P53 n) := phiOf_FCs fun xs r h vs hv => FC.of_runG tabOK eqsOK (env53 n) (par53 n) mixed (fun _ => noScope_ok) Try.func53 (c := c53) (an := an53) (pks := pk53) (rks := rk53) (by kernel_rfl) (by kernel_rfl) hv ((S53_run n xs).symm.trans h)
abbrev R92 := Bool
abbrev K92 := St → Option R92
noncomputable def c92 : Code := bodyOf Try.f92
noncomputable def an92 : Ann := .l
def pk92 : List PK := [.c (.pair (.int .i64) (.int .i64))]
def rk92 : List RK := [.c .bool 2]
noncomputable def rt92 (st : St) : Option R92 := rtG rk92 st
noncomputable def E92 : Env := { T := tab,phi := (consPhi 53 (fun _ => true) (P53 n) noPhi),eff := fun _ => false,fuel := n.1,hold := n.2 }
noncomputable def S92 (f0 : Int × Int) : Option R92 := run (E92 n) c92 an92 rt92 (fun _ _ => none) rt92 { tm := [.agg [.int .i64 f0.1,.int .i64 f0.2],uu,uu,uu,uu,uu],hp := emp }
theorem S92_eq (f0 : Int × Int) : S92 n f0 =
    (S53 n f0 0 100).bind fun r1' =>
    some (!r1') := by kernel_rfl
theorem S92_run (xs : pksDen pk92) : S92 n xs.1 = runG (E92 n) noScope c92 an92 (rtG rk92) (fun _ _ => none) (rtG rk92) (st0 pk92 xs Try.f92.ntmps) := by kernel_rfl
noncomputable def P92 := phiOf pk92 rk92 (fun xs => S92 n xs.1)
theorem call92 : CallOK Try.prog 92 := callOK_of Try.func92 (by kernel_rfl) (by kernel_rfl)
theorem env92 : EnvOK Try.prog (E92 n) := envOK0 (consPhi_ok (FC53 n) call53 noPhi_ok) rfl rfl
theorem par92 : EnvPar (E92 n) := envPar0 (consPhi_par phiOf_Par1 noPhi_par) rfl
theorem FC92 : FCs Try.prog 92 (P92 n) := phiOf_FCs fun xs r h vs hv => FC.of_runG tabOK eqsOK (env92 n) (par92 n) mixed (fun _ => noScope_ok) Try.func92 (c := c92) (an := an92) (pks := pk92) (rks := rk92) (by kernel_rfl) (by kernel_rfl) hv ((S92_run n xs).symm.trans h)
abbrev R106c92 := Int
abbrev K106c92 := St → Option R106c92
noncomputable def c106c92 : Code := bodyOf Try.f106
noncomputable def an106c92 : Ann := (.s .l (.s (.s .l (.j [] (.j [0,1,7,8] (.s .l (.s (.j [0,1,7,8] .l .l) (.s (.j [0,1,7,8] (.s .l (.s .l (.j [0,1,7,8] .l .l))) .l) .l))) .l) .l)) .l))
def pk106c92 : List PK := [.c (.sl (.pair (.int .i64) (.int .i64))),.f 92 []]
def rk106c92 : List RK := [.c (.int .i64) 4]
noncomputable def rt106c92 (st : St) : Option R106c92 := rtG rk106c92 st
noncomputable def E106c92 : Env := { T := tab,phi := (consPhi 92 (fun _ => true) (P92 n) noPhi),eff := fun _ => false,fuel := n.1,hold := n.2 }
noncomputable def kq106c92_1 : K106c92 := run (E106c92 n) (cB (cB c106c92)) an106c92.snd.snd rt106c92 (fun _ _ => none) rt106c92
noncomputable def kc106c92_2 : K106c92 := fun s => normC [] s (kq106c92_1 n)
noncomputable def xb106c92_3 : Nat → K106c92 := fun j s => bif Nat.beq j 0 then normC [] s (kq106c92_1 n) else (fun _ _ => none) j s
noncomputable def F106c92_4 : (K106c92) → K106c92 := fun K s => run (E106c92 n) (cA (cA (cB (cA (cB c106c92))))) an106c92.snd.fst.snd.fst.fst (fun s => normC [0,1,7,8] s K) (xb106c92_3 n) rt106c92 s
noncomputable def kq106c92_5 (m1 : Nat) : K106c92 := run (E106c92 n) (cB (cB (cA (cA (cB (cA (cB c106c92))))))) an106c92.snd.fst.snd.fst.fst.snd.snd (fun s => normC [0,1,7,8] s (loopN (F106c92_4 n) m1)) (xb106c92_3 n) rt106c92
noncomputable def kc106c92_6 (m1 : Nat) : K106c92 := fun s => normC [0,1,7,8] s (kq106c92_5 n m1)
noncomputable def kq106c92_7 (m1 : Nat) : K106c92 := run (E106c92 n) (cB (cB (cB (cA (cA (cB (cA (cB c106c92)))))))) an106c92.snd.fst.snd.fst.fst.snd.snd.snd (fun s => normC [0,1,7,8] s (loopN (F106c92_4 n) m1)) (xb106c92_3 n) rt106c92
noncomputable def kc106c92_8 (m1 : Nat) : K106c92 := fun s => normC [0,1,7,8] s (kq106c92_7 n m1)
noncomputable def xb106c92_9 (m1 : Nat) : Nat → K106c92 := fun j s => bif Nat.beq j 1 then normC [0,1,7,8] s (kq106c92_7 n m1) else (xb106c92_3 n) j s
noncomputable def kc106c92_10 (m1 : Nat) : K106c92 := fun s => normC [0,1,7,8] s (kc106c92_8 n m1)
noncomputable def L106c92_1 (m : Nat) (s0 : LP) (v7 : Int) (v8 : Int) : Option R106c92 := loopN (F106c92_4 n) m { tm := [.c (.sl (.pair (.int .i64) (.int .i64)) s0 false),.fn 92 [],uu,uu,uu,uu,uu,.c (.int .i64 v7),.c (.int .i64 v8),uu,uu,uu,uu,uu,uu,uu,uu,uu,uu],hp := emp }
theorem L106c92_1_eq (m1 : Nat) (s0 : LP) (v7 : Int) (v8 : Int) : L106c92_1 n (m1 + 1) s0 v7 v8 =
    (bif decide (v8 < v7) then (idx s0 v8).bind fun x1' =>
      (S92 n x1').bind fun r2' =>
      (bif r2' then some v8
      else L106c92_1 n m1 s0 v7 (wr .i64 (v8 + 1)))
    else some (-1)) := by kernel_rfl
noncomputable def S106c92 (s0 : LP) : Option R106c92 := run (E106c92 n) c106c92 an106c92 rt106c92 (fun _ _ => none) rt106c92 { tm := [.c (.sl (.pair (.int .i64) (.int .i64)) s0 false),.fn 92 [],uu,uu,uu,uu,uu,uu,uu,uu,uu,uu,uu,uu,uu,uu,uu,uu,uu],hp := emp }
theorem S106c92_eq (s0 : LP) : S106c92 n s0 =
    L106c92_1 n n.1 s0 (s0.length : Int) 0 := by kernel_rfl
theorem S106c92_run (xs : pksDen pk106c92) : S106c92 n xs.1 = runG (E106c92 n) noScope c106c92 an106c92 (rtG rk106c92) (fun _ _ => none) (rtG rk106c92) (st0 pk106c92 xs Try.f106.ntmps) := by kernel_rfl
noncomputable def P106c92 := phiOf pk106c92 rk106c92 (fun xs => S106c92 n xs.1)
theorem env106c92 : EnvOK Try.prog (E106c92 n) := envOK0 (consPhi_ok (FC92 n) call92 noPhi_ok) rfl rfl
theorem par106c92 : EnvPar (E106c92 n) := envPar0 (consPhi_par phiOf_Par1 noPhi_par) rfl
theorem FC106c92 : FCs Try.prog 106 (P106c92 n) := phiOf_FCs fun xs r h vs hv => FC.of_runG tabOK eqsOK (env106c92 n) (par106c92 n) mixed (fun _ => noScope_ok) Try.func106 (c := c106c92) (an := an106c92) (pks := pk106c92) (rks := rk106c92) (by kernel_rfl) (by kernel_rfl) hv ((S106c92_run n xs).symm.trans h)
abbrev R85c92 := Bool
abbrev K85c92 := St → Option R85c92
noncomputable def c85c92 : Code := bodyOf Try.f85
noncomputable def an85c92 : Ann := .l
def pk85c92 : List PK := [.c (.sl (.pair (.int .i64) (.int .i64))),.f 92 []]
def rk85c92 : List RK := [.c .bool 4]
noncomputable def rt85c92 (st : St) : Option R85c92 := rtG rk85c92 st
noncomputable def E85c92 : Env := { T := tab,phi := (consPhi 106 (isFns [none,some 92]) (P106c92 n) noPhi),eff := fun _ => false,fuel := n.1,hold := n.2 }
noncomputable def S85c92 (s0 : LP) : Option R85c92 := run (E85c92 n) c85c92 an85c92 rt85c92 (fun _ _ => none) rt85c92 { tm := [.c (.sl (.pair (.int .i64) (.int .i64)) s0 false),.fn 92 [],uu,uu,uu,uu,uu,uu,uu],hp := emp }
theorem S85c92_eq (s0 : LP) : S85c92 n s0 =
    (S106c92 n s0).bind fun r1' =>
    some (decide (r1' ≥ 0)) := by kernel_rfl
theorem S85c92_run (xs : pksDen pk85c92) : S85c92 n xs.1 = runG (E85c92 n) noScope c85c92 an85c92 (rtG rk85c92) (fun _ _ => none) (rtG rk85c92) (st0 pk85c92 xs Try.f85.ntmps) := by kernel_rfl
noncomputable def P85c92 := phiOf pk85c92 rk85c92 (fun xs => S85c92 n xs.1)
theorem env85c92 : EnvOK Try.prog (E85c92 n) := envOK0 (consPhi_ok (FC106c92 n) call106 noPhi_ok) rfl rfl
theorem par85c92 : EnvPar (E85c92 n) := envPar0 (consPhi_par phiOf_Par1 noPhi_par) rfl
theorem FC85c92 : FCs Try.prog 85 (P85c92 n) := phiOf_FCs fun xs r h vs hv => FC.of_runG tabOK eqsOK (env85c92 n) (par85c92 n) mixed (fun _ => noScope_ok) Try.func85 (c := c85c92) (an := an85c92) (pks := pk85c92) (rks := rk85c92) (by kernel_rfl) (by kernel_rfl) hv ((S85c92_run n xs).symm.trans h)
abbrev R48 := Bool
abbrev K48 := St → Option R48
noncomputable def c48 : Code := bodyOf Try.f48
noncomputable def an48 : Ann := .l
def pk48 : List PK := [.c (.sl (.pair (.int .i64) (.int .i64))),.c (.int .i64)]
def rk48 : List RK := [.c .bool 4]
noncomputable def rt48 (st : St) : Option R48 := rtG rk48 st
noncomputable def E48 : Env := { T := tab,phi := (consPhi 85 (isFns [none,some 92]) (P85c92 n) noPhi),eff := fun _ => false,fuel := n.1,hold := n.2 }
noncomputable def S48 (l0 : LP) (v1 : Int) : Option R48 := run (E48 n) c48 an48 rt48 (fun _ _ => none) rt48 { tm := [.c (.sl (.pair (.int .i64) (.int .i64)) l0 false),.c (.int .i64 v1),uu,uu,uu,uu,uu,uu,uu,uu,uu,uu,uu,uu],hp := emp }
theorem S48_eq (l0 : LP) (v1 : Int) : S48 n l0 v1 =
    ((bif (((l0.length : Int) == v1) == true) then (S85c92 n l0).bind fun r1' =>
        some (!r1')
      else some false)).bind fun b2' =>
    some b2' := by kernel_rfl
theorem S48_run (xs : pksDen pk48) : S48 n xs.1 xs.2.1 = runG (E48 n) noScope c48 an48 (rtG rk48) (fun _ _ => none) (rtG rk48) (st0 pk48 xs Try.f48.ntmps) := by kernel_rfl
noncomputable def P48 := phiOf pk48 rk48 (fun xs => S48 n xs.1 xs.2.1)
theorem call48 : CallOK Try.prog 48 := callOK_of Try.func48 (by kernel_rfl) (by kernel_rfl)
theorem env48 : EnvOK Try.prog (E48 n) := envOK0 (consPhi_ok (FC85c92 n) call85 noPhi_ok) rfl rfl
theorem par48 : EnvPar (E48 n) := envPar0 (consPhi_par phiOf_Par1 noPhi_par) rfl
theorem FC48 : FCs Try.prog 48 (P48 n) := phiOf_FCs fun xs r h vs hv => FC.of_runG tabOK eqsOK (env48 n) (par48 n) mixed (fun _ => noScope_ok) Try.func48 (c := c48) (an := an48) (pks := pk48) (rks := rk48) (by kernel_rfl) (by kernel_rfl) hv ((S48_run n xs).symm.trans h)
abbrev R66 := Int × Int
abbrev K66 := St → Option R66
noncomputable def c66 : Code := bodyOf Try.f66
noncomputable def an66 : Ann := (.s .l (.s .l (.s (.s .l (.j [4,5] (.j [4,5,8,9,10] (.s .l (.s (.j [4,5,8,9,10] .l .l) (.s (.j [4,5,8,9,10] .l .l) .l))) .l) .l)) .l)))
def pk66 : List PK := [.c (.sl (.pair (.int .i64) (.int .i64)))]
def rk66 : List RK := [.c (.int .i64) 2,.c (.int .i64) 3]
noncomputable def rt66 (st : St) : Option R66 := rtG rk66 st
noncomputable def E66 : Env := { T := tab,phi := noPhi,eff := fun _ => false,fuel := n.1,hold := n.2 }
noncomputable def kq66_1 : K66 := run (E66 n) (cB (cB (cB c66))) an66.snd.snd.snd rt66 (fun _ _ => none) rt66
noncomputable def kc66_2 : K66 := fun s => normC [4,5] s (kq66_1 n)
noncomputable def xb66_3 : Nat → K66 := fun j s => bif Nat.beq j 0 then normC [4,5] s (kq66_1 n) else (fun _ _ => none) j s
noncomputable def F66_4 : (K66) → K66 := fun K s => run (E66 n) (cA (cA (cB (cA (cB (cB c66)))))) an66.snd.snd.fst.snd.fst.fst (fun s => normC [4,5,8,9,10] s K) (xb66_3 n) rt66 s
noncomputable def kq66_5 (m1 : Nat) : K66 := run (E66 n) (cB (cB (cA (cA (cB (cA (cB (cB c66)))))))) an66.snd.snd.fst.snd.fst.fst.snd.snd (fun s => normC [4,5,8,9,10] s (loopN (F66_4 n) m1)) (xb66_3 n) rt66
noncomputable def kc66_6 (m1 : Nat) : K66 := fun s => normC [4,5,8,9,10] s (kq66_5 n m1)
noncomputable def kq66_7 (m1 : Nat) : K66 := run (E66 n) (cB (cB (cB (cA (cA (cB (cA (cB (cB c66))))))))) an66.snd.snd.fst.snd.fst.fst.snd.snd.snd (fun s => normC [4,5,8,9,10] s (loopN (F66_4 n) m1)) (xb66_3 n) rt66
noncomputable def kc66_8 (m1 : Nat) : K66 := fun s => normC [4,5,8,9,10] s (kq66_7 n m1)
noncomputable def xb66_9 (m1 : Nat) : Nat → K66 := fun j s => bif Nat.beq j 1 then normC [4,5,8,9,10] s (kq66_7 n m1) else (xb66_3 n) j s
noncomputable def L66_1 (m : Nat) (v4 : Int) (t5 : Int) (v8 : LP) (v9 : Int) (v10 : Int) : Option R66 := loopN (F66_4 n) m { tm := [uu,uu,uu,uu,.c (.int .i64 v4),.c (.int .i64 t5),uu,uu,.c (.sl (.pair (.int .i64) (.int .i64)) v8 false),.c (.int .i64 v9),.c (.int .i64 v10),uu,uu,uu,uu,uu,uu,uu,uu,uu,uu,uu,uu,uu,uu,uu,uu,uu],hp := emp }
theorem L66_1_eq (m1 : Nat) (v4 : Int) (t5 : Int) (v8 : LP) (v9 : Int) (v10 : Int) : L66_1 n (m1 + 1) v4 t5 v8 v9 v10 =
    (bif decide (v10 < v9) then (idx v8 v10).bind fun x1' =>
      L66_1 n m1 (wr .i64 (v4 + (wr .i64 (x1'.1 * x1'.2)))) (wr .i64 (t5 + x1'.2)) v8 v9 (wr .i64 (v10 + 1))
    else some (v4,t5)) := by kernel_rfl
noncomputable def S66 (l0 : LP) : Option R66 := run (E66 n) c66 an66 rt66 (fun _ _ => none) rt66 { tm := [.c (.sl (.pair (.int .i64) (.int .i64)) l0 false),uu,uu,uu,uu,uu,uu,uu,uu,uu,uu,uu,uu,uu,uu,uu,uu,uu,uu,uu,uu,uu,uu,uu,uu,uu,uu,uu],hp := emp }
theorem S66_eq (l0 : LP) : S66 n l0 =
    L66_1 n n.1 0 0 l0 (l0.length : Int) 0 := by kernel_rfl
theorem S66_run (xs : pksDen pk66) : S66 n xs.1 = runG (E66 n) noScope c66 an66 (rtG rk66) (fun _ _ => none) (rtG rk66) (st0 pk66 xs Try.f66.ntmps) := by kernel_rfl
noncomputable def P66 := phiOf pk66 rk66 (fun xs => S66 n xs.1)
theorem call66 : CallOK Try.prog 66 := callOK_of Try.func66 (by kernel_rfl) (by kernel_rfl)
theorem env66 : EnvOK Try.prog (E66 n) := envOK0 noPhi_ok rfl rfl
theorem par66 : EnvPar (E66 n) := envPar0 noPhi_par rfl
theorem FC66 : FCs Try.prog 66 (P66 n) := phiOf_FCs fun xs r h vs hv => FC.of_runG tabOK eqsOK (env66 n) (par66 n) mixed (fun _ => noScope_ok) Try.func66 (c := c66) (an := an66) (pks := pk66) (rks := rk66) (by kernel_rfl) (by kernel_rfl) hv ((S66_run n xs).symm.trans h)
abbrev R50 := Int × Int
abbrev K50 := St → Option R50
noncomputable def c50 : Code := bodyOf Try.f50
noncomputable def an50 : Ann := .l
def pk50 : List PK := [.c (.sl (.pair (.int .i64) (.int .i64)))]
def rk50 : List RK := [.box (.pair (.int .i64) (.int .i64)) 2]
noncomputable def rt50 (st : St) : Option R50 := rtG rk50 st
noncomputable def E50 : Env := { T := tab,phi := (consPhi 49 (fun _ => true) (P49 n) (consPhi 52 (fun _ => true) (P52 n) (consPhi 66 (fun _ => true) (P66 n) noPhi))),eff := fun _ => false,fuel := n.1,hold := n.2 }
noncomputable def S50 (l0 : LP) : Option R50 := run (E50 n) c50 an50 rt50 (fun _ _ => none) rt50 { tm := [.c (.sl (.pair (.int .i64) (.int .i64)) l0 false),uu,uu,uu,uu,uu,uu,uu,uu,uu,uu,uu,uu,uu,uu,uu,uu,uu,uu,uu,uu],hp := emp }
theorem S50_eq (l0 : LP) : S50 n l0 =
    (S66 n l0).bind fun r1' =>
    (S49 n r1'.1 r1'.2).bind fun r2' =>
    (bif r2' == 0 then none
    else (bif r2' == 0 then none
      else (S52 n (wr .i64 (Int.tdiv r1'.1 r2')) (wr .i64 (Int.tdiv r1'.2 r2'))).bind fun r3' =>
        some r3')) := by kernel_rfl
theorem S50_run (xs : pksDen pk50) : S50 n xs.1 = runG (E50 n) noScope c50 an50 (rtG rk50) (fun _ _ => none) (rtG rk50) (st0 pk50 xs Try.f50.ntmps) := by kernel_rfl
noncomputable def P50 := phiOf pk50 rk50 (fun xs => S50 n xs.1)
theorem call50 : CallOK Try.prog 50 := callOK_of Try.func50 (by kernel_rfl) (by kernel_rfl)
theorem env50 : EnvOK Try.prog (E50 n) := envOK0 (consPhi_ok (FC49 n) call49 (consPhi_ok (FC52 n) call52 (consPhi_ok (FC66 n) call66 noPhi_ok))) rfl rfl
theorem par50 : EnvPar (E50 n) := envPar0 (consPhi_par phiOf_Par1 (consPhi_par phiOf_Par1 (consPhi_par phiOf_Par1 noPhi_par))) rfl
theorem FC50 : FCs Try.prog 50 (P50 n) := phiOf_FCs fun xs r h vs hv => FC.of_runG tabOK eqsOK (env50 n) (par50 n) mixed (fun _ => noScope_ok) Try.func50 (c := c50) (an := an50) (pks := pk50) (rks := rk50) (by kernel_rfl) (by kernel_rfl) hv ((S50_run n xs).symm.trans h)
abbrev R61 := LP
abbrev K61 := St → Option R61
noncomputable def c61 : Code := bodyOf Try.f61
noncomputable def an61 : Ann := (.s .l (.s (.s .l (.j [0] .l .l)) .l))
def pk61 : List PK := [.c (.sl (.pair (.int .i64) (.int .i64)))]
def rk61 : List RK := [.own (.pair (.int .i64) (.int .i64)) 2]
noncomputable def rt61 (st : St) : Option R61 := rtG rk61 st
noncomputable def E61 : Env := { T := tab,phi := noPhi,eff := fun _ => false,fuel := n.1,hold := n.2 }
noncomputable def kq61_1 : K61 := run (E61 n) (cB (cB c61)) an61.snd.snd rt61 (fun _ _ => none) rt61
noncomputable def kc61_2 : K61 := fun s => normC [0] s (kq61_1 n)
noncomputable def S61 (s0 : LP) : Option R61 := run (E61 n) c61 an61 rt61 (fun _ _ => none) rt61 { tm := [.c (.sl (.pair (.int .i64) (.int .i64)) s0 false),uu,uu,uu,uu,uu,uu,uu],hp := emp }
theorem S61_eq (s0 : LP) : S61 n s0 =
    (bif !s0.isEmpty then (bif false then some []
      else (bif decide (([] : LP).length + s0.length ≤ lim) then some ([] ++ s0)
        else none))
    else none) := by kernel_rfl
theorem S61_run (xs : pksDen pk61) : S61 n xs.1 = runG (E61 n) noScope c61 an61 (rtG rk61) (fun _ _ => none) (rtG rk61) (st0 pk61 xs Try.f61.ntmps) := by kernel_rfl
noncomputable def P61 := phiOf pk61 rk61 (fun xs => S61 n xs.1)
theorem call61 : CallOK Try.prog 61 := callOK_of Try.func61 (by kernel_rfl) (by kernel_rfl)
theorem env61 : EnvOK Try.prog (E61 n) := envOK0 noPhi_ok rfl rfl
theorem par61 : EnvPar (E61 n) := envPar0 noPhi_par rfl
theorem FC61 : FCs Try.prog 61 (P61 n) := phiOf_FCs fun xs r h vs hv => FC.of_runG tabOK eqsOK (env61 n) (par61 n) mixed (fun _ => noScope_ok) Try.func61 (c := c61) (an := an61) (pks := pk61) (rks := rk61) (by kernel_rfl) (by kernel_rfl) hv ((S61_run n xs).symm.trans h)
abbrev R62 := Int
abbrev K62 := St → Option R62
noncomputable def c62 : Code := bodyOf Try.f62
noncomputable def an62 : Ann := .l
def pk62 : List PK := [.c (.pair (.int .i64) (.int .i64)),.c (.pair (.int .i64) (.int .i64))]
def rk62 : List RK := [.c (.int .i64) 4]
noncomputable def rt62 (st : St) : Option R62 := rtG rk62 st
noncomputable def E62 : Env := { T := tab,phi := noPhi,eff := fun _ => false,fuel := n.1,hold := n.2 }
noncomputable def S62 (a0 : Int × Int) (b1 : Int × Int) : Option R62 := run (E62 n) c62 an62 rt62 (fun _ _ => none) rt62 { tm := [.agg [.int .i64 a0.1,.int .i64 a0.2],.agg [.int .i64 b1.1,.int .i64 b1.2],uu,uu,uu,uu,uu,uu,uu,uu,uu,uu,uu,uu,uu,uu],hp := emp }
theorem S62_eq (a0 : Int × Int) (b1 : Int × Int) : S62 n a0 b1 =
    some (wr .i64 ((wr .i64 (a0.1 * b1.2)) - (wr .i64 (b1.1 * a0.2)))) := by kernel_rfl
theorem S62_run (xs : pksDen pk62) : S62 n xs.1 xs.2.1 = runG (E62 n) noScope c62 an62 (rtG rk62) (fun _ _ => none) (rtG rk62) (st0 pk62 xs Try.f62.ntmps) := by kernel_rfl
noncomputable def P62 := phiOf pk62 rk62 (fun xs => S62 n xs.1 xs.2.1)
theorem call62 : CallOK Try.prog 62 := callOK_of Try.func62 (by kernel_rfl) (by kernel_rfl)
theorem env62 : EnvOK Try.prog (E62 n) := envOK0 noPhi_ok rfl rfl
theorem par62 : EnvPar (E62 n) := envPar0 noPhi_par rfl
theorem FC62 : FCs Try.prog 62 (P62 n) := phiOf_FCs fun xs r h vs hv => FC.of_runG tabOK eqsOK (env62 n) (par62 n) mixed (fun _ => noScope_ok) Try.func62 (c := c62) (an := an62) (pks := pk62) (rks := rk62) (by kernel_rfl) (by kernel_rfl) hv ((S62_run n xs).symm.trans h)
abbrev R63io1 := (Unit) × LP × Unit
abbrev K63io1 := St → Option R63io1
noncomputable def c63io1 : Code := bodyOf Try.f63
noncomputable def an63io1 : Ann := (.s .l (.j [1000000000] (.j [0,2,3,1000000000] (.s (.s .l (.j [0,2,3,1000000000] .l .l)) (.s (.j [0,2,3,1000000000] .l .l) .l)) .l) .l))
def pk63io1 : List QK := [.oa (.pair (.int .i64) (.int .i64))]
def rk63io1 : List RK := []
noncomputable def rt63io1 (st : St) : Option R63io1 := rtIO rk63io1 (pk63io1.flatMap QK.ods) st
noncomputable def E63io1 : Env := { T := tab,phi := noPhi,eff := fun _ => false,fuel := n.1,hold := n.2 }
noncomputable def kc63io1_1 (n : Nat × Nat) : K63io1 := fun s => normC [1000000000] s rt63io1
noncomputable def xb63io1_2 (n : Nat × Nat) : Nat → K63io1 := fun j s => bif Nat.beq j 0 then normC [1000000000] s rt63io1 else (fun _ _ => none) j s
noncomputable def F63io1_3 : (K63io1) → K63io1 := fun K s => run (E63io1 n) (cA (cA (cB c63io1))) an63io1.snd.fst.fst (fun s => normC [0,2,3,1000000000] s K) (xb63io1_2 n) rt63io1 s
noncomputable def kq63io1_4 (m1 : Nat) : K63io1 := run (E63io1 n) (cB (cA (cA (cB c63io1)))) an63io1.snd.fst.fst.snd (fun s => normC [0,2,3,1000000000] s (loopN (F63io1_3 n) m1)) (xb63io1_2 n) rt63io1
noncomputable def kc63io1_5 (m1 : Nat) : K63io1 := fun s => normC [0,2,3,1000000000] s (kq63io1_4 n m1)
noncomputable def kq63io1_6 (m1 : Nat) : K63io1 := run (E63io1 n) (cB (cB (cA (cA (cB c63io1))))) an63io1.snd.fst.fst.snd.snd (fun s => normC [0,2,3,1000000000] s (loopN (F63io1_3 n) m1)) (xb63io1_2 n) rt63io1
noncomputable def kc63io1_7 (m1 : Nat) : K63io1 := fun s => normC [0,2,3,1000000000] s (kq63io1_6 n m1)
noncomputable def xb63io1_8 (m1 : Nat) : Nat → K63io1 := fun j s => bif Nat.beq j 1 then normC [0,2,3,1000000000] s (kq63io1_6 n m1) else (xb63io1_2 n) j s
noncomputable def L63io1_1 (m : Nat) (i2 : Int) (j3 : Int) (v1000000000 : LP) : Option R63io1 := loopN (F63io1_3 n) m { tm := [.own 1000000000 none false,uu,.c (.int .i64 i2),.c (.int .i64 j3),uu,uu,uu,uu,uu,uu,uu,uu,uu,uu,uu,uu,uu,uu,uu,uu,uu,uu,uu,uu,uu,uu,uu,uu],hp := (upd emp 1000000000 (.arr (.pair (.int .i64) (.int .i64)) v1000000000 false)) }
theorem L63io1_1_eq (m1 : Nat) (i2 : Int) (j3 : Int) (v1000000000 : LP) : L63io1_1 n (m1 + 1) i2 j3 v1000000000 =
    (bif decide (i2 < j3) then (bif inB j3 v1000000000.length then (idx v1000000000 j3).bind fun x1' =>
        (bif inB i2 v1000000000.length then (idx v1000000000 i2).bind fun x2' =>
          (bif inB i2 v1000000000.length then (idx v1000000000 i2).bind fun x3' =>
            (bif inB j3 (v1000000000.set (Int.toNat i2) x1').length then (idx (v1000000000.set (Int.toNat i2) x1') j3).bind fun x4' =>
              L63io1_1 n m1 (wr .i64 (i2 + 1)) (wr .i64 (j3 - 1)) ((v1000000000.set (Int.toNat i2) x1').set (Int.toNat j3) x2')
            else none)
          else none)
        else none)
      else none)
    else some ((),v1000000000,())) := by kernel_rfl
noncomputable def S63io1 (s0 : LP) : Option R63io1 := run (E63io1 n) c63io1 an63io1 rt63io1 (fun _ _ => none) rt63io1 { tm := [.own 1000000000 none false,uu,uu,uu,uu,uu,uu,uu,uu,uu,uu,uu,uu,uu,uu,uu,uu,uu,uu,uu,uu,uu,uu,uu,uu,uu,uu,uu],hp := (upd emp 1000000000 (.arr (.pair (.int .i64) (.int .i64)) s0 false)) }
theorem S63io1_eq (s0 : LP) : S63io1 n s0 =
    L63io1_1 n n.1 0 (wr .i64 ((s0.length : Int) - 1)) s0 := by kernel_rfl
theorem S63io1_run (xs : qksDen pk63io1) : S63io1 n xs.1 = runG (E63io1 n) noScope c63io1 an63io1 (rtIO rk63io1 (pk63io1.flatMap QK.ods)) (fun _ _ => none) (rtIO rk63io1 (pk63io1.flatMap QK.ods)) (st1 pk63io1 xs Try.f63.ntmps) := by kernel_rfl
noncomputable def P63io1 := phioOf pk63io1 rk63io1 (pk63io1.flatMap QK.ods) (fun xs => S63io1 n xs.1)
theorem call63 : CallOK Try.prog 63 := callOK_of Try.func63 (by kernel_rfl) (by kernel_rfl)
theorem env63io1 : EnvOK Try.prog (E63io1 n) := envOK0 noPhi_ok rfl rfl
theorem par63io1 : EnvPar (E63io1 n) := envPar0 noPhi_par rfl
theorem FC63io1 : FCios Try.prog 63 (pk63io1.map QK.flag) (P63io1 n) := phioOf_FCios fun xs r h vs hv => FCio.of_runG tabOK eqsOK (env63io1 n) (par63io1 n) mixed (fun _ => noScope_ok) Try.func63 (c := c63io1) (an := an63io1) (qks := pk63io1) (rks := rk63io1) (by kernel_rfl) (by kernel_rfl) hv ((S63io1_run n xs).symm.trans h)
abbrev R65 := LP
abbrev K65 := St → Option R65
noncomputable def c65 : Code := bodyOf Try.f65
noncomputable def an65 : Ann := (.s .l (.s (.s .l (.s (.s .l (.j [0,3] (.j [0,3,12,13] (.s .l (.s (.j [0,3,12,13] .l .l) (.s (.j [0,3,12,13] .l .l) .l))) .l) .l)) (.s .l (.s (.s .l (.j [0,3] (.j [0,3,5] (.s (.s .l (.j [0,3,5] .l .l)) (.s (.j [0,3,5] (.s .l (.s (.s .l (.j [0,3,5,6] .l .l)) (.s .l (.j [0,3,5] .l .l)))) .l) .l)) .l) .l)) (.s .l (.s .l (.s (.s .l (.j [7] (.j [0,7,8,63,64,65] (.s .l (.s (.j [0,7,8,63,64,65] .l .l) (.s (.j [0,7,8,63,64,65] (.s .l (.s (.s .l (.j [0,7,10,63,64,65] (.j [0,7,8,10,63,64,65,71,72] (.s .l (.s (.j [0,7,8,10,63,64,65,71,72] .l .l) (.s (.j [0,7,8,10,63,64,65,71,72] .l .l) .l))) .l) .l)) .l)) .l) .l))) .l) .l)) .l))))))) (.g 0 [0,3] (.s .l (.s (.s .l (.j [0,3] (.j [0,3,5] (.s (.s .l (.j [0,3,5] .l .l)) (.s (.j [0,3,5] (.s .l (.s (.s .l (.j [0,3,5,6] .l .l)) (.s .l (.j [0,3,5] .l .l)))) .l) .l)) .l) .l)) (.s .l (.s .l (.s (.s .l (.j [7] (.j [0,7,8,63,64,65] (.s .l (.s (.j [0,7,8,63,64,65] .l .l) (.s (.j [0,7,8,63,64,65] (.s .l (.s (.s .l (.j [0,7,10,63,64,65] (.j [0,7,8,10,63,64,65,71,72] (.s .l (.s (.j [0,7,8,10,63,64,65,71,72] .l .l) (.s (.j [0,7,8,10,63,64,65,71,72] .l .l) .l))) .l) .l)) .l)) .l) .l))) .l) .l)) .l))))) .l)))
def pk65 : List PK := [.c (.sl (.pair (.int .i64) (.int .i64)))]
def rk65 : List RK := [.own (.pair (.int .i64) (.int .i64)) 2]
noncomputable def rt65 (st : St) : Option R65 := rtG rk65 st
noncomputable def E65 : Env := { T := tab,phi := (consPhi 50 (fun _ => true) (P50 n) (consPhi 62 (fun _ => true) (P62 n) noPhi)),eff := fun g => Nat.beq g 94,fuel := n.1,hold := n.2 }
noncomputable def PF65_1 : (Nat × St → Option R65) → Nat × St → Option R65 := passF (E65 n) (cA (cB c65)) (Ann.labels an65.snd.snd) rt65 (fun _ _ => none) rt65
noncomputable def kq65_2 : K65 := run (E65 n) (cB (cB (cA (cB c65)))) an65.snd.fst.snd.snd rt65 (jumpTo (Ann.labels an65.snd.snd) (loopN (PF65_1 n) n.1) (fun _ _ => none)) rt65
noncomputable def kc65_3 : K65 := fun s => normC [0,3] s (kq65_2 n)
noncomputable def xb65_4 : Nat → K65 := fun j s => bif Nat.beq j 0 then normC [0,3] s (kq65_2 n) else (jumpTo (Ann.labels an65.snd.snd) (loopN (PF65_1 n) n.1) (fun _ _ => none)) j s
noncomputable def F65_5 : (K65) → K65 := fun K s => run (E65 n) (cA (cA (cB (cA (cB (cA (cB c65))))))) an65.snd.fst.snd.fst.snd.fst.fst (fun s => normC [0,3,12,13] s K) (xb65_4 n) rt65 s
noncomputable def kq65_6 (m1 : Nat) : K65 := run (E65 n) (cB (cB (cA (cA (cB (cA (cB (cA (cB c65))))))))) an65.snd.fst.snd.fst.snd.fst.fst.snd.snd (fun s => normC [0,3,12,13] s (loopN (F65_5 n) m1)) (xb65_4 n) rt65
noncomputable def kc65_7 (m1 : Nat) : K65 := fun s => normC [0,3,12,13] s (kq65_6 n m1)
noncomputable def kq65_8 (m1 : Nat) : K65 := run (E65 n) (cB (cB (cB (cA (cA (cB (cA (cB (cA (cB c65)))))))))) an65.snd.fst.snd.fst.snd.fst.fst.snd.snd.snd (fun s => normC [0,3,12,13] s (loopN (F65_5 n) m1)) (xb65_4 n) rt65
noncomputable def kc65_9 (m1 : Nat) : K65 := fun s => normC [0,3,12,13] s (kq65_8 n m1)
noncomputable def xb65_10 (m1 : Nat) : Nat → K65 := fun j s => bif Nat.beq j 1 then normC [0,3,12,13] s (kq65_8 n m1) else (xb65_4 n) j s
noncomputable def kq65_11 : K65 := run (E65 n) (cB (cB (cB (cB (cA (cB c65)))))) an65.snd.fst.snd.snd.snd.snd rt65 (jumpTo (Ann.labels an65.snd.snd) (loopN (PF65_1 n) n.1) (fun _ _ => none)) rt65
noncomputable def kc65_12 : K65 := fun s => normC [0,3] s (kq65_11 n)
noncomputable def xb65_13 : Nat → K65 := fun j s => bif Nat.beq j 2 then normC [0,3] s (kq65_11 n) else (jumpTo (Ann.labels an65.snd.snd) (loopN (PF65_1 n) n.1) (fun _ _ => none)) j s
noncomputable def F65_14 : (K65) → K65 := fun K s => run (E65 n) (cA (cA (cB (cA (cB (cB (cB (cA (cB c65))))))))) an65.snd.fst.snd.snd.snd.fst.snd.fst.fst (fun s => normC [0,3,5] s K) (xb65_13 n) rt65 s
noncomputable def kq65_15 (m1 : Nat) : K65 := run (E65 n) (cB (cA (cA (cB (cA (cB (cB (cB (cA (cB c65)))))))))) an65.snd.fst.snd.snd.snd.fst.snd.fst.fst.snd (fun s => normC [0,3,5] s (loopN (F65_14 n) m1)) (xb65_13 n) rt65
noncomputable def kc65_16 (m1 : Nat) : K65 := fun s => normC [0,3,5] s (kq65_15 n m1)
noncomputable def kq65_17 (m1 : Nat) : K65 := run (E65 n) (cB (cB (cA (cA (cB (cA (cB (cB (cB (cA (cB c65))))))))))) an65.snd.fst.snd.snd.snd.fst.snd.fst.fst.snd.snd (fun s => normC [0,3,5] s (loopN (F65_14 n) m1)) (xb65_13 n) rt65
noncomputable def kc65_18 (m1 : Nat) : K65 := fun s => normC [0,3,5] s (kq65_17 n m1)
noncomputable def xb65_19 (m1 : Nat) : Nat → K65 := fun j s => bif Nat.beq j 3 then normC [0,3,5] s (kq65_17 n m1) else (xb65_13 n) j s
noncomputable def kq65_20 (m1 : Nat) : K65 := run (E65 n) (cB (cB (cA (cA (cB (cA (cA (cB (cA (cB (cB (cB (cA (cB c65)))))))))))))) an65.snd.fst.snd.snd.snd.fst.snd.fst.fst.snd.fst.fst.snd.snd (kc65_18 n m1) (xb65_19 n m1) rt65
noncomputable def kc65_21 (m1 : Nat) : K65 := fun s => normC [0,3,5,6] s (kq65_20 n m1)
noncomputable def kc65_22 (m1 : Nat) : K65 := fun s => normC [0,3,5] s (kc65_18 n m1)
noncomputable def kq65_23 : K65 := run (E65 n) (cB (cB (cB (cB (cB (cB (cB (cA (cB c65))))))))) an65.snd.fst.snd.snd.snd.snd.snd.snd.snd rt65 (jumpTo (Ann.labels an65.snd.snd) (loopN (PF65_1 n) n.1) (fun _ _ => none)) rt65
noncomputable def kc65_24 : K65 := fun s => normC [7] s (kq65_23 n)
noncomputable def xb65_25 : Nat → K65 := fun j s => bif Nat.beq j 4 then normC [7] s (kq65_23 n) else (jumpTo (Ann.labels an65.snd.snd) (loopN (PF65_1 n) n.1) (fun _ _ => none)) j s
noncomputable def F65_26 : (K65) → K65 := fun K s => run (E65 n) (cA (cA (cB (cA (cB (cB (cB (cB (cB (cB (cA (cB c65)))))))))))) an65.snd.fst.snd.snd.snd.snd.snd.snd.fst.snd.fst.fst (fun s => normC [0,7,8,63,64,65] s K) (xb65_25 n) rt65 s
noncomputable def kq65_27 (m1 : Nat) : K65 := run (E65 n) (cB (cB (labOf 0 (cA (cB c65))))) (Ann.snd (Ann.snd (annOf (Ann.labels an65.snd.snd) 0))) rt65 (jumpTo (Ann.labels an65.snd.snd) (loopN (PF65_1 n) m1) (fun _ _ => none)) rt65
noncomputable def kc65_28 (m1 : Nat) : K65 := fun s => normC [0,3] s (kq65_27 n m1)
noncomputable def xb65_29 (m1 : Nat) : Nat → K65 := fun j s => bif Nat.beq j 2 then normC [0,3] s (kq65_27 n m1) else (jumpTo (Ann.labels an65.snd.snd) (loopN (PF65_1 n) m1) (fun _ _ => none)) j s
noncomputable def F65_30 (m1 : Nat) : (K65) → K65 := fun K s => run (E65 n) (cA (cA (cB (cA (cB (labOf 0 (cA (cB c65)))))))) (Ann.fst (Ann.fst (Ann.snd (Ann.fst (Ann.snd (annOf (Ann.labels an65.snd.snd) 0)))))) (fun s => normC [0,3,5] s K) (xb65_29 n m1) rt65 s
noncomputable def kq65_31 (m1 : Nat) : K65 := run (E65 n) (cB (cB (cA (cA (cB (cA (cB (cB (cB (cB (cB (cB (cA (cB c65)))))))))))))) an65.snd.fst.snd.snd.snd.snd.snd.snd.fst.snd.fst.fst.snd.snd (fun s => normC [0,7,8,63,64,65] s (loopN (F65_26 n) m1)) (xb65_25 n) rt65
noncomputable def kc65_32 (m1 : Nat) : K65 := fun s => normC [0,7,8,63,64,65] s (kq65_31 n m1)
noncomputable def kq65_33 (m1 : Nat) : K65 := run (E65 n) (cB (cB (cB (cA (cA (cB (cA (cB (cB (cB (cB (cB (cB (cA (cB c65))))))))))))))) an65.snd.fst.snd.snd.snd.snd.snd.snd.fst.snd.fst.fst.snd.snd.snd (fun s => normC [0,7,8,63,64,65] s (loopN (F65_26 n) m1)) (xb65_25 n) rt65
noncomputable def kc65_34 (m1 : Nat) : K65 := fun s => normC [0,7,8,63,64,65] s (kq65_33 n m1)
noncomputable def xb65_35 (m1 : Nat) : Nat → K65 := fun j s => bif Nat.beq j 5 then normC [0,7,8,63,64,65] s (kq65_33 n m1) else (xb65_25 n) j s
noncomputable def kq65_36 (m1 : Nat) : K65 := run (E65 n) (cB (cB (cA (cA (cB (cB (cA (cA (cB (cA (cB (cB (cB (cB (cB (cB (cA (cB c65)))))))))))))))))) an65.snd.fst.snd.snd.snd.snd.snd.snd.fst.snd.fst.fst.snd.snd.fst.fst.snd.snd (kc65_34 n m1) (xb65_35 n m1) rt65
noncomputable def kc65_37 (m1 : Nat) : K65 := fun s => normC [0,7,10,63,64,65] s (kq65_36 n m1)
noncomputable def xb65_38 (m1 : Nat) : Nat → K65 := fun j s => bif Nat.beq j 6 then normC [0,7,10,63,64,65] s (kq65_36 n m1) else (xb65_35 n m1) j s
noncomputable def F65_39 (m1 : Nat) : (K65) → K65 := fun K s => run (E65 n) (cA (cA (cB (cA (cB (cA (cA (cB (cB (cA (cA (cB (cA (cB (cB (cB (cB (cB (cB (cA (cB c65))))))))))))))))))))) an65.snd.fst.snd.snd.snd.snd.snd.snd.fst.snd.fst.fst.snd.snd.fst.fst.snd.fst.snd.fst.fst (fun s => normC [0,7,8,10,63,64,65,71,72] s K) (xb65_38 n m1) rt65 s
noncomputable def kq65_40 (m1 m2 : Nat) : K65 := run (E65 n) (cB (cA (cA (cB (cA (cB (labOf 0 (cA (cB c65))))))))) (Ann.snd (Ann.fst (Ann.fst (Ann.snd (Ann.fst (Ann.snd (annOf (Ann.labels an65.snd.snd) 0))))))) (fun s => normC [0,3,5] s (loopN (F65_30 n m1) m2)) (xb65_29 n m1) rt65
noncomputable def kc65_41 (m1 m2 : Nat) : K65 := fun s => normC [0,3,5] s (kq65_40 n m1 m2)
noncomputable def kq65_42 (m1 m2 : Nat) : K65 := run (E65 n) (cB (cB (cA (cA (cB (cA (cB (labOf 0 (cA (cB c65)))))))))) (Ann.snd (Ann.snd (Ann.fst (Ann.fst (Ann.snd (Ann.fst (Ann.snd (annOf (Ann.labels an65.snd.snd) 0)))))))) (fun s => normC [0,3,5] s (loopN (F65_30 n m1) m2)) (xb65_29 n m1) rt65
noncomputable def kc65_43 (m1 m2 : Nat) : K65 := fun s => normC [0,3,5] s (kq65_42 n m1 m2)
noncomputable def xb65_44 (m1 m2 : Nat) : Nat → K65 := fun j s => bif Nat.beq j 3 then normC [0,3,5] s (kq65_42 n m1 m2) else (xb65_29 n m1) j s
noncomputable def kq65_45 (m1 m2 : Nat) : K65 := run (E65 n) (cB (cB (cA (cA (cB (cA (cA (cB (cA (cB (labOf 0 (cA (cB c65))))))))))))) (Ann.snd (Ann.snd (Ann.fst (Ann.fst (Ann.snd (Ann.fst (Ann.fst (Ann.snd (Ann.fst (Ann.snd (annOf (Ann.labels an65.snd.snd) 0))))))))))) (kc65_43 n m1 m2) (xb65_44 n m1 m2) rt65
noncomputable def kc65_46 (m1 m2 : Nat) : K65 := fun s => normC [0,3,5,6] s (kq65_45 n m1 m2)
noncomputable def kc65_47 (m1 m2 : Nat) : K65 := fun s => normC [0,3,5] s (kc65_43 n m1 m2)
noncomputable def kq65_48 (m1 : Nat) : K65 := run (E65 n) (cB (cB (cB (cB (cB (labOf 0 (cA (cB c65)))))))) (Ann.snd (Ann.snd (Ann.snd (Ann.snd (Ann.snd (annOf (Ann.labels an65.snd.snd) 0)))))) rt65 (jumpTo (Ann.labels an65.snd.snd) (loopN (PF65_1 n) m1) (fun _ _ => none)) rt65
noncomputable def kc65_49 (m1 : Nat) : K65 := fun s => normC [7] s (kq65_48 n m1)
noncomputable def xb65_50 (m1 : Nat) : Nat → K65 := fun j s => bif Nat.beq j 4 then normC [7] s (kq65_48 n m1) else (jumpTo (Ann.labels an65.snd.snd) (loopN (PF65_1 n) m1) (fun _ _ => none)) j s
noncomputable def F65_51 (m1 : Nat) : (K65) → K65 := fun K s => run (E65 n) (cA (cA (cB (cA (cB (cB (cB (cB (labOf 0 (cA (cB c65))))))))))) (Ann.fst (Ann.fst (Ann.snd (Ann.fst (Ann.snd (Ann.snd (Ann.snd (Ann.snd (annOf (Ann.labels an65.snd.snd) 0))))))))) (fun s => normC [0,7,8,63,64,65] s K) (xb65_50 n m1) rt65 s
noncomputable def kq65_52 (m1 m2 : Nat) : K65 := run (E65 n) (cB (cB (cA (cA (cB (cA (cB (cA (cA (cB (cB (cA (cA (cB (cA (cB (cB (cB (cB (cB (cB (cA (cB c65))))))))))))))))))))))) an65.snd.fst.snd.snd.snd.snd.snd.snd.fst.snd.fst.fst.snd.snd.fst.fst.snd.fst.snd.fst.fst.snd.snd (fun s => normC [0,7,8,10,63,64,65,71,72] s (loopN (F65_39 n m1) m2)) (xb65_38 n m1) rt65
noncomputable def kc65_53 (m1 m2 : Nat) : K65 := fun s => normC [0,7,8,10,63,64,65,71,72] s (kq65_52 n m1 m2)
noncomputable def kq65_54 (m1 m2 : Nat) : K65 := run (E65 n) (cB (cB (cB (cA (cA (cB (cA (cB (cA (cA (cB (cB (cA (cA (cB (cA (cB (cB (cB (cB (cB (cB (cA (cB c65)))))))))))))))))))))))) an65.snd.fst.snd.snd.snd.snd.snd.snd.fst.snd.fst.fst.snd.snd.fst.fst.snd.fst.snd.fst.fst.snd.snd.snd (fun s => normC [0,7,8,10,63,64,65,71,72] s (loopN (F65_39 n m1) m2)) (xb65_38 n m1) rt65
noncomputable def kc65_55 (m1 m2 : Nat) : K65 := fun s => normC [0,7,8,10,63,64,65,71,72] s (kq65_54 n m1 m2)
noncomputable def xb65_56 (m1 m2 : Nat) : Nat → K65 := fun j s => bif Nat.beq j 7 then normC [0,7,8,10,63,64,65,71,72] s (kq65_54 n m1 m2) else (xb65_38 n m1) j s
noncomputable def kq65_57 (m1 m2 : Nat) : K65 := run (E65 n) (cB (cB (cA (cA (cB (cA (cB (cB (cB (cB (labOf 0 (cA (cB c65))))))))))))) (Ann.snd (Ann.snd (Ann.fst (Ann.fst (Ann.snd (Ann.fst (Ann.snd (Ann.snd (Ann.snd (Ann.snd (annOf (Ann.labels an65.snd.snd) 0))))))))))) (fun s => normC [0,7,8,63,64,65] s (loopN (F65_51 n m1) m2)) (xb65_50 n m1) rt65
noncomputable def kc65_58 (m1 m2 : Nat) : K65 := fun s => normC [0,7,8,63,64,65] s (kq65_57 n m1 m2)
noncomputable def kq65_59 (m1 m2 : Nat) : K65 := run (E65 n) (cB (cB (cB (cA (cA (cB (cA (cB (cB (cB (cB (labOf 0 (cA (cB c65)))))))))))))) (Ann.snd (Ann.snd (Ann.snd (Ann.fst (Ann.fst (Ann.snd (Ann.fst (Ann.snd (Ann.snd (Ann.snd (Ann.snd (annOf (Ann.labels an65.snd.snd) 0)))))))))))) (fun s => normC [0,7,8,63,64,65] s (loopN (F65_51 n m1) m2)) (xb65_50 n m1) rt65
noncomputable def kc65_60 (m1 m2 : Nat) : K65 := fun s => normC [0,7,8,63,64,65] s (kq65_59 n m1 m2)
noncomputable def xb65_61 (m1 m2 : Nat) : Nat → K65 := fun j s => bif Nat.beq j 5 then normC [0,7,8,63,64,65] s (kq65_59 n m1 m2) else (xb65_50 n m1) j s
noncomputable def kq65_62 (m1 m2 : Nat) : K65 := run (E65 n) (cB (cB (cA (cA (cB (cB (cA (cA (cB (cA (cB (cB (cB (cB (labOf 0 (cA (cB c65))))))))))))))))) (Ann.snd (Ann.snd (Ann.fst (Ann.fst (Ann.snd (Ann.snd (Ann.fst (Ann.fst (Ann.snd (Ann.fst (Ann.snd (Ann.snd (Ann.snd (Ann.snd (annOf (Ann.labels an65.snd.snd) 0))))))))))))))) (kc65_60 n m1 m2) (xb65_61 n m1 m2) rt65
noncomputable def kc65_63 (m1 m2 : Nat) : K65 := fun s => normC [0,7,10,63,64,65] s (kq65_62 n m1 m2)
noncomputable def xb65_64 (m1 m2 : Nat) : Nat → K65 := fun j s => bif Nat.beq j 6 then normC [0,7,10,63,64,65] s (kq65_62 n m1 m2) else (xb65_61 n m1 m2) j s
noncomputable def F65_65 (m1 m2 : Nat) : (K65) → K65 := fun K s => run (E65 n) (cA (cA (cB (cA (cB (cA (cA (cB (cB (cA (cA (cB (cA (cB (cB (cB (cB (labOf 0 (cA (cB c65)))))))))))))))))))) (Ann.fst (Ann.fst (Ann.snd (Ann.fst (Ann.snd (Ann.fst (Ann.fst (Ann.snd (Ann.snd (Ann.fst (Ann.fst (Ann.snd (Ann.fst (Ann.snd (Ann.snd (Ann.snd (Ann.snd (annOf (Ann.labels an65.snd.snd) 0)))))))))))))))))) (fun s => normC [0,7,8,10,63,64,65,71,72] s K) (xb65_64 n m1 m2) rt65 s
noncomputable def kq65_66 (m1 m2 m3 : Nat) : K65 := run (E65 n) (cB (cB (cA (cA (cB (cA (cB (cA (cA (cB (cB (cA (cA (cB (cA (cB (cB (cB (cB (labOf 0 (cA (cB c65)))))))))))))))))))))) (Ann.snd (Ann.snd (Ann.fst (Ann.fst (Ann.snd (Ann.fst (Ann.snd (Ann.fst (Ann.fst (Ann.snd (Ann.snd (Ann.fst (Ann.fst (Ann.snd (Ann.fst (Ann.snd (Ann.snd (Ann.snd (Ann.snd (annOf (Ann.labels an65.snd.snd) 0)))))))))))))))))))) (fun s => normC [0,7,8,10,63,64,65,71,72] s (loopN (F65_65 n m1 m2) m3)) (xb65_64 n m1 m2) rt65
noncomputable def kc65_67 (m1 m2 m3 : Nat) : K65 := fun s => normC [0,7,8,10,63,64,65,71,72] s (kq65_66 n m1 m2 m3)
noncomputable def kq65_68 (m1 m2 m3 : Nat) : K65 := run (E65 n) (cB (cB (cB (cA (cA (cB (cA (cB (cA (cA (cB (cB (cA (cA (cB (cA (cB (cB (cB (cB (labOf 0 (cA (cB c65))))))))))))))))))))))) (Ann.snd (Ann.snd (Ann.snd (Ann.fst (Ann.fst (Ann.snd (Ann.fst (Ann.snd (Ann.fst (Ann.fst (Ann.snd (Ann.snd (Ann.fst (Ann.fst (Ann.snd (Ann.fst (Ann.snd (Ann.snd (Ann.snd (Ann.snd (annOf (Ann.labels an65.snd.snd) 0))))))))))))))))))))) (fun s => normC [0,7,8,10,63,64,65,71,72] s (loopN (F65_65 n m1 m2) m3)) (xb65_64 n m1 m2) rt65
noncomputable def kc65_69 (m1 m2 m3 : Nat) : K65 := fun s => normC [0,7,8,10,63,64,65,71,72] s (kq65_68 n m1 m2 m3)
noncomputable def xb65_70 (m1 m2 m3 : Nat) : Nat → K65 := fun j s => bif Nat.beq j 7 then normC [0,7,8,10,63,64,65,71,72] s (kq65_68 n m1 m2 m3) else (xb65_64 n m1 m2) j s
noncomputable def L65_1 (m : Nat) (l0 : LP) (v12 : Int) (v13 : Int) (ends3 : List Int) : Option R65 := loopN (F65_5 n) m { tm := [.c (.sl (.pair (.int .i64) (.int .i64)) l0 false),uu,uu,.own 3 none false,uu,uu,uu,uu,uu,uu,uu,uu,.c (.int .i64 v12),.c (.int .i64 v13),uu,uu,uu,uu,uu,uu,uu,uu,uu,uu,uu,uu,uu,uu,uu,uu,uu,uu,uu,uu,uu,uu,uu,uu,uu,uu,uu,uu,uu,uu,uu,uu,uu,uu,uu,uu,uu,uu,uu,uu,uu,uu,uu,uu,uu,uu,uu,uu,uu,uu,uu,uu,uu,uu,uu,uu,uu,uu,uu,uu,uu,uu,uu,uu,uu,uu,uu,uu,uu,uu,uu,uu],hp := (upd emp 3 (.arr (.int .i64) ends3 true)) }
noncomputable def L65_2 (m : Nat) (l0 : LP) (k5 : Int) (ends3 : List Int) : Option R65 := loopN (F65_14 n) m { tm := [.c (.sl (.pair (.int .i64) (.int .i64)) l0 false),uu,uu,.own 3 none false,uu,.c (.int .i64 k5),uu,uu,uu,uu,uu,uu,uu,uu,uu,uu,uu,uu,uu,uu,uu,uu,uu,uu,uu,uu,uu,uu,uu,uu,uu,uu,uu,uu,uu,uu,uu,uu,uu,uu,uu,uu,uu,uu,uu,uu,uu,uu,uu,uu,uu,uu,uu,uu,uu,uu,uu,uu,uu,uu,uu,uu,uu,uu,uu,uu,uu,uu,uu,uu,uu,uu,uu,uu,uu,uu,uu,uu,uu,uu,uu,uu,uu,uu,uu,uu],hp := (upd emp 3 (.arr (.int .i64) ends3 true)) }
noncomputable def L65_3 (m : Nat) (l0 : LP) (ends3 : List Int) : Option R65 := loopN (PF65_1 n) m (0,{ tm := [.c (.sl (.pair (.int .i64) (.int .i64)) l0 false),uu,uu,.own 3 none false,uu,uu,uu,uu,uu,uu,uu,uu,uu,uu,uu,uu,uu,uu,uu,uu,uu,uu,uu,uu,uu,uu,uu,uu,uu,uu,uu,uu,uu,uu,uu,uu,uu,uu,uu,uu,uu,uu,uu,uu,uu,uu,uu,uu,uu,uu,uu,uu,uu,uu,uu,uu,uu,uu,uu,uu,uu,uu,uu,uu,uu,uu,uu,uu,uu,uu,uu,uu,uu,uu,uu,uu,uu,uu,uu,uu,uu,uu,uu,uu,uu,uu],hp := (upd emp 3 (.arr (.int .i64) ends3 false)) })
noncomputable def L65_4 (m : Nat) (l0 : LP) (begin8 : Int) (v64 : Int) (v65 : Int) (out7 : LP) (v63 : List Int) : Option R65 := loopN (F65_26 n) m { tm := [.c (.sl (.pair (.int .i64) (.int .i64)) l0 false),uu,uu,uu,uu,uu,uu,.own 7 none false,.c (.int .i64 begin8),uu,uu,uu,uu,uu,uu,uu,uu,uu,uu,uu,uu,uu,uu,uu,uu,uu,uu,uu,uu,uu,uu,uu,uu,uu,uu,uu,uu,uu,uu,uu,uu,uu,uu,uu,uu,uu,uu,uu,uu,uu,uu,uu,uu,uu,uu,uu,uu,uu,uu,uu,uu,uu,uu,.own 63 none false,.c (.int .i64 v64),.c (.int .i64 v65),uu,uu,uu,uu,uu,uu,uu,uu,uu,uu,uu,uu,uu,uu,uu,uu,uu,uu,uu,uu],hp := (upd (upd emp 63 (.arr (.int .i64) v63 true)) 7 (.arr (.pair (.int .i64) (.int .i64)) out7 true)) }
noncomputable def L65_5 (m1 : Nat) (m : Nat) (l0 : LP) (k5 : Int) (ends3 : List Int) : Option R65 := loopN (F65_30 n m1) m { tm := [.c (.sl (.pair (.int .i64) (.int .i64)) l0 false),uu,uu,.own 3 none false,uu,.c (.int .i64 k5),uu,uu,uu,uu,uu,uu,uu,uu,uu,uu,uu,uu,uu,uu,uu,uu,uu,uu,uu,uu,uu,uu,uu,uu,uu,uu,uu,uu,uu,uu,uu,uu,uu,uu,uu,uu,uu,uu,uu,uu,uu,uu,uu,uu,uu,uu,uu,uu,uu,uu,uu,uu,uu,uu,uu,uu,uu,uu,uu,uu,uu,uu,uu,uu,uu,uu,uu,uu,uu,uu,uu,uu,uu,uu,uu,uu,uu,uu,uu,uu],hp := (upd emp 3 (.arr (.int .i64) ends3 false)) }
noncomputable def L65_6 (m1 : Nat) (m : Nat) (l0 : LP) (begin8 : Int) (v10 : Int) (v64 : Int) (v65 : Int) (v71 : Int) (v72 : Int) (out7 : LP) (v63 : List Int) : Option R65 := loopN (F65_39 n m1) m { tm := [.c (.sl (.pair (.int .i64) (.int .i64)) l0 false),uu,uu,uu,uu,uu,uu,.own 7 none false,.c (.int .i64 begin8),uu,.c (.int .i64 v10),uu,uu,uu,uu,uu,uu,uu,uu,uu,uu,uu,uu,uu,uu,uu,uu,uu,uu,uu,uu,uu,uu,uu,uu,uu,uu,uu,uu,uu,uu,uu,uu,uu,uu,uu,uu,uu,uu,uu,uu,uu,uu,uu,uu,uu,uu,uu,uu,uu,uu,uu,uu,.own 63 none false,.c (.int .i64 v64),.c (.int .i64 v65),uu,uu,uu,uu,uu,.c (.int .i64 v71),.c (.int .i64 v72),uu,uu,uu,uu,uu,uu,uu,uu,uu,uu,uu,uu,uu],hp := (upd (upd emp 63 (.arr (.int .i64) v63 true)) 7 (.arr (.pair (.int .i64) (.int .i64)) out7 true)) }
noncomputable def L65_7 (m1 : Nat) (m : Nat) (l0 : LP) (begin8 : Int) (v64 : Int) (v65 : Int) (out7 : LP) (v63 : List Int) : Option R65 := loopN (F65_51 n m1) m { tm := [.c (.sl (.pair (.int .i64) (.int .i64)) l0 false),uu,uu,uu,uu,uu,uu,.own 7 none false,.c (.int .i64 begin8),uu,uu,uu,uu,uu,uu,uu,uu,uu,uu,uu,uu,uu,uu,uu,uu,uu,uu,uu,uu,uu,uu,uu,uu,uu,uu,uu,uu,uu,uu,uu,uu,uu,uu,uu,uu,uu,uu,uu,uu,uu,uu,uu,uu,uu,uu,uu,uu,uu,uu,uu,uu,uu,uu,.own 63 none false,.c (.int .i64 v64),.c (.int .i64 v65),uu,uu,uu,uu,uu,uu,uu,uu,uu,uu,uu,uu,uu,uu,uu,uu,uu,uu,uu,uu],hp := (upd (upd emp 63 (.arr (.int .i64) v63 false)) 7 (.arr (.pair (.int .i64) (.int .i64)) out7 true)) }
noncomputable def L65_8 (m1 m2 : Nat) (m : Nat) (l0 : LP) (begin8 : Int) (v10 : Int) (v64 : Int) (v65 : Int) (v71 : Int) (v72 : Int) (out7 : LP) (v63 : List Int) : Option R65 := loopN (F65_65 n m1 m2) m { tm := [.c (.sl (.pair (.int .i64) (.int .i64)) l0 false),uu,uu,uu,uu,uu,uu,.own 7 none false,.c (.int .i64 begin8),uu,.c (.int .i64 v10),uu,uu,uu,uu,uu,uu,uu,uu,uu,uu,uu,uu,uu,uu,uu,uu,uu,uu,uu,uu,uu,uu,uu,uu,uu,uu,uu,uu,uu,uu,uu,uu,uu,uu,uu,uu,uu,uu,uu,uu,uu,uu,uu,uu,uu,uu,uu,uu,uu,uu,uu,uu,.own 63 none false,.c (.int .i64 v64),.c (.int .i64 v65),uu,uu,uu,uu,uu,.c (.int .i64 v71),.c (.int .i64 v72),uu,uu,uu,uu,uu,uu,uu,uu,uu,uu,uu,uu,uu],hp := (upd (upd emp 63 (.arr (.int .i64) v63 false)) 7 (.arr (.pair (.int .i64) (.int .i64)) out7 true)) }
theorem L65_1_eq (m1 : Nat) (l0 : LP) (v12 : Int) (v13 : Int) (ends3 : List Int) : L65_1 n (m1 + 1) l0 v12 v13 ends3 =
    (bif decide (v13 < v12) then (bif decide (ends3.length + [wr .i64 (v13 + 1)].length ≤ lim) then L65_1 n m1 l0 v12 (wr .i64 (v13 + 1)) (ends3 ++ [wr .i64 (v13 + 1)])
      else none)
    else L65_2 n n.1 l0 1 ends3) := by kernel_rfl
theorem L65_2_eq (m1 : Nat) (l0 : LP) (k5 : Int) (ends3 : List Int) : L65_2 n (m1 + 1) l0 k5 ends3 =
    (bif decide (k5 < (ends3.length : Int)) then (bif decide (k5 > 1) then (bif inB (wr .i64 (k5 - 2)) ends3.length then (idx ends3 (wr .i64 (k5 - 2))).bind fun x1' =>
          (bif inB (wr .i64 (k5 - 1)) ends3.length then (idx ends3 (wr .i64 (k5 - 1))).bind fun x2' =>
            (bif bounds (some x1') (some x2') none l0.length then (S50 n ((l0.take (Int.toNat x2')).drop (Int.toNat x1'))).bind fun r3' =>
              (bif inB (wr .i64 (k5 - 1)) ends3.length then (idx ends3 (wr .i64 (k5 - 1))).bind fun x4' =>
                (bif inB k5 ends3.length then (idx ends3 k5).bind fun x5' =>
                  (bif bounds (some x4') (some x5') none l0.length then (S50 n ((l0.take (Int.toNat x5')).drop (Int.toNat x4'))).bind fun r6' =>
                    (S62 n r3' r6').bind fun r7' =>
                    (bif decide (r7' ≥ 0) then (bif decide (0 ≤ wr .i64 (k5 - 1)) && decide (wr .i64 (k5 - 1) < k5) && decide (k5 ≤ (ends3.length : Int)) && decide (ends3.length ≤ lim) then L65_3 n n.1 l0 (ends3.take (Int.toNat (wr .i64 (k5 - 1))) ++ ends3.drop (Int.toNat k5))
                      else none)
                    else L65_2 n m1 l0 (wr .i64 (k5 + 1)) ends3)
                  else none)
                else none)
              else none)
            else none)
          else none)
        else none)
      else (bif inB (wr .i64 (k5 - 1)) ends3.length then (idx ends3 (wr .i64 (k5 - 1))).bind fun x8' =>
          (bif bounds (some 0) (some x8') none l0.length then (S50 n (l0.take (Int.toNat x8'))).bind fun r9' =>
            (bif inB (wr .i64 (k5 - 1)) ends3.length then (idx ends3 (wr .i64 (k5 - 1))).bind fun x10' =>
              (bif inB k5 ends3.length then (idx ends3 k5).bind fun x11' =>
                (bif bounds (some x10') (some x11') none l0.length then (S50 n ((l0.take (Int.toNat x11')).drop (Int.toNat x10'))).bind fun r12' =>
                  (S62 n r9' r12').bind fun r13' =>
                  (bif decide (r13' ≥ 0) then (bif decide (0 ≤ wr .i64 (k5 - 1)) && decide (wr .i64 (k5 - 1) < k5) && decide (k5 ≤ (ends3.length : Int)) && decide (ends3.length ≤ lim) then L65_3 n n.1 l0 (ends3.take (Int.toNat (wr .i64 (k5 - 1))) ++ ends3.drop (Int.toNat k5))
                    else none)
                  else L65_2 n m1 l0 (wr .i64 (k5 + 1)) ends3)
                else none)
              else none)
            else none)
          else none)
        else none))
    else L65_4 n n.1 l0 0 (ends3.length : Int) 0 [] ends3) := by kernel_rfl
theorem L65_3_eq (m1 : Nat) (l0 : LP) (ends3 : List Int) : L65_3 n (m1 + 1) l0 ends3 =
    L65_5 n m1 n.1 l0 1 ends3 := by kernel_rfl
theorem L65_4_eq (m1 : Nat) (l0 : LP) (begin8 : Int) (v64 : Int) (v65 : Int) (out7 : LP) (v63 : List Int) : L65_4 n (m1 + 1) l0 begin8 v64 v65 out7 v63 =
    (bif decide (v65 < v64) then (bif inB v65 v63.length then (idx v63 v65).bind fun x14' =>
        L65_6 n m1 n.1 l0 begin8 x14' v64 v65 (wr .i64 (x14' - begin8)) 0 out7 v63
      else none)
    else some out7) := by kernel_rfl
theorem L65_5_eq (m1 m2 : Nat) (l0 : LP) (k5 : Int) (ends3 : List Int) : L65_5 n m1 (m2 + 1) l0 k5 ends3 =
    (bif decide (k5 < (ends3.length : Int)) then (bif decide (k5 > 1) then (bif inB (wr .i64 (k5 - 2)) ends3.length then (idx ends3 (wr .i64 (k5 - 2))).bind fun x15' =>
          (bif inB (wr .i64 (k5 - 1)) ends3.length then (idx ends3 (wr .i64 (k5 - 1))).bind fun x16' =>
            (bif bounds (some x15') (some x16') none l0.length then (S50 n ((l0.take (Int.toNat x16')).drop (Int.toNat x15'))).bind fun r17' =>
              (bif inB (wr .i64 (k5 - 1)) ends3.length then (idx ends3 (wr .i64 (k5 - 1))).bind fun x18' =>
                (bif inB k5 ends3.length then (idx ends3 k5).bind fun x19' =>
                  (bif bounds (some x18') (some x19') none l0.length then (S50 n ((l0.take (Int.toNat x19')).drop (Int.toNat x18'))).bind fun r20' =>
                    (S62 n r17' r20').bind fun r21' =>
                    (bif decide (r21' ≥ 0) then (bif decide (0 ≤ wr .i64 (k5 - 1)) && decide (wr .i64 (k5 - 1) < k5) && decide (k5 ≤ (ends3.length : Int)) && decide (ends3.length ≤ lim) then L65_3 n m1 l0 (ends3.take (Int.toNat (wr .i64 (k5 - 1))) ++ ends3.drop (Int.toNat k5))
                      else none)
                    else L65_5 n m1 m2 l0 (wr .i64 (k5 + 1)) ends3)
                  else none)
                else none)
              else none)
            else none)
          else none)
        else none)
      else (bif inB (wr .i64 (k5 - 1)) ends3.length then (idx ends3 (wr .i64 (k5 - 1))).bind fun x22' =>
          (bif bounds (some 0) (some x22') none l0.length then (S50 n (l0.take (Int.toNat x22'))).bind fun r23' =>
            (bif inB (wr .i64 (k5 - 1)) ends3.length then (idx ends3 (wr .i64 (k5 - 1))).bind fun x24' =>
              (bif inB k5 ends3.length then (idx ends3 k5).bind fun x25' =>
                (bif bounds (some x24') (some x25') none l0.length then (S50 n ((l0.take (Int.toNat x25')).drop (Int.toNat x24'))).bind fun r26' =>
                  (S62 n r23' r26').bind fun r27' =>
                  (bif decide (r27' ≥ 0) then (bif decide (0 ≤ wr .i64 (k5 - 1)) && decide (wr .i64 (k5 - 1) < k5) && decide (k5 ≤ (ends3.length : Int)) && decide (ends3.length ≤ lim) then L65_3 n m1 l0 (ends3.take (Int.toNat (wr .i64 (k5 - 1))) ++ ends3.drop (Int.toNat k5))
                    else none)
                  else L65_5 n m1 m2 l0 (wr .i64 (k5 + 1)) ends3)
                else none)
              else none)
            else none)
          else none)
        else none))
    else L65_7 n m1 n.1 l0 0 (ends3.length : Int) 0 [] ends3) := by kernel_rfl
theorem L65_6_eq (m1 m2 : Nat) (l0 : LP) (begin8 : Int) (v10 : Int) (v64 : Int) (v65 : Int) (v71 : Int) (v72 : Int) (out7 : LP) (v63 : List Int) : L65_6 n m1 (m2 + 1) l0 begin8 v10 v64 v65 v71 v72 out7 v63 =
    (bif decide (v72 < v71) then (bif bounds (some begin8) (some v10) none l0.length then (S50 n ((l0.take (Int.toNat v10)).drop (Int.toNat begin8))).bind fun r28' =>
        (bif decide (out7.length + [r28'].length ≤ lim) then L65_6 n m1 m2 l0 begin8 v10 v64 v65 v71 (wr .i64 (v72 + 1)) (out7 ++ [r28']) v63
        else none)
      else none)
    else L65_4 n m1 l0 v10 v64 (wr .i64 (v65 + 1)) out7 v63) := by kernel_rfl
theorem L65_7_eq (m1 m2 : Nat) (l0 : LP) (begin8 : Int) (v64 : Int) (v65 : Int) (out7 : LP) (v63 : List Int) : L65_7 n m1 (m2 + 1) l0 begin8 v64 v65 out7 v63 =
    (bif decide (v65 < v64) then (bif inB v65 v63.length then (idx v63 v65).bind fun x29' =>
        L65_8 n m1 m2 n.1 l0 begin8 x29' v64 v65 (wr .i64 (x29' - begin8)) 0 out7 v63
      else none)
    else some out7) := by kernel_rfl
theorem L65_8_eq (m1 m2 m3 : Nat) (l0 : LP) (begin8 : Int) (v10 : Int) (v64 : Int) (v65 : Int) (v71 : Int) (v72 : Int) (out7 : LP) (v63 : List Int) : L65_8 n m1 m2 (m3 + 1) l0 begin8 v10 v64 v65 v71 v72 out7 v63 =
    (bif decide (v72 < v71) then (bif bounds (some begin8) (some v10) none l0.length then (S50 n ((l0.take (Int.toNat v10)).drop (Int.toNat begin8))).bind fun r30' =>
        (bif decide (out7.length + [r30'].length ≤ lim) then L65_8 n m1 m2 m3 l0 begin8 v10 v64 v65 v71 (wr .i64 (v72 + 1)) (out7 ++ [r30']) v63
        else none)
      else none)
    else L65_7 n m1 m2 l0 v10 v64 (wr .i64 (v65 + 1)) out7 v63) := by kernel_rfl
noncomputable def S65 (l0 : LP) : Option R65 := run1 (E65 n) c65 an65 rt65 (fun _ _ => none) rt65 { tm := [.c (.sl (.pair (.int .i64) (.int .i64)) l0 false),uu,uu,uu,uu,uu,uu,uu,uu,uu,uu,uu,uu,uu,uu,uu,uu,uu,uu,uu,uu,uu,uu,uu,uu,uu,uu,uu,uu,uu,uu,uu,uu,uu,uu,uu,uu,uu,uu,uu,uu,uu,uu,uu,uu,uu,uu,uu,uu,uu,uu,uu,uu,uu,uu,uu,uu,uu,uu,uu,uu,uu,uu,uu,uu,uu,uu,uu,uu,uu,uu,uu,uu,uu,uu,uu,uu,uu,uu,uu,uu,uu,uu,uu,uu,uu],hp := emp }
theorem S65_eq (l0 : LP) : S65 n l0 =
    L65_1 n n.1 l0 (l0.length : Int) 0 [] := by kernel_rfl
theorem S65_run (xs : pksDen pk65) : S65 n xs.1 = runG (E65 n) (scope1 (E65 n)) c65 an65 (rtG rk65) (fun _ _ => none) (rtG rk65) (st0 pk65 xs Try.f65.ntmps) := by kernel_rfl
noncomputable def P65 := phiOf pk65 rk65 (fun xs => S65 n xs.1)
theorem call65 : CallOK Try.prog 65 := callOK_of Try.func65 (by kernel_rfl) (by kernel_rfl)
theorem env65 : EnvOK Try.prog (E65 n) := envOK0 (consPhi_ok (FC50 n) call50 (consPhi_ok (FC62 n) call62 noPhi_ok)) rfl rfl
theorem par65 : EnvPar (E65 n) := envPar0 (consPhi_par phiOf_Par1 (consPhi_par phiOf_Par1 noPhi_par)) rfl
theorem FC65 : FCs Try.prog 65 (P65 n) := phiOf_FCs fun xs r h vs hv => FC.of_runG tabOK eqsOK (env65 n) (par65 n) mixed (fun _ => scope1_ok tabOK eqsOK (env65 n) (par65 n) mixed) Try.func65 (c := c65) (an := an65) (pks := pk65) (rks := rk65) (by kernel_rfl) (by kernel_rfl) hv ((S65_run n xs).symm.trans h)
end Go.Proofs.Ytombednapelokaa
