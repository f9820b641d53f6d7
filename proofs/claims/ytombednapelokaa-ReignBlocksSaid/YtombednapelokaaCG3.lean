/- The functions, step by step: written by program -/
import Derived.Test.YtombednapelokaaViS
import Derived.Test.YtombednapelokaaProg
import Derived.KernelRfl
import Derived.WalkKit
import Derived.Test.YtombednapelokaaDel
import Derived.Test.YtombednapelokaaGro
import Derived.Test.YtombednapelokaaCG2
set_option linter.unusedVariables false
set_option linter.unusedSimpArgs false
set_option maxRecDepth 100000
namespace Go.Proofs.Ytombednapelokaa
open Go.Vi
variable (n : Nat × Nat)
abbrev R49 := Int
abbrev K49 := St → Option R49
noncomputable def c49 : Code := bodyOf Try.f49
noncomputable def an49 : Ann := (.s .l (.s .l (.s (.j [0] (.j [0,1] (.s (.s .l (.j [0,1] .l .l)) (.j [0,1] .l .l)) .l) .l) .l)))
def pk49 : List PK := [.c (.int .i64),.c (.int .i64)]
def rk49 : List RK := [.c (.int .i64) 4]
noncomputable def rt49 (st : St) : Option R49 := rtG rk49 st
noncomputable def E49 : Env := { T := tab,phi := noPhi,eff := fun _ => false,fuel := n.1,hold := n.2 }
noncomputable def kq49_1 : K49 := run (E49 n) (cB (cB (cB c49))) an49.snd.snd.snd rt49 (fun _ _ => none) rt49
noncomputable def xb49_3 : Nat → K49 := fun j s => bif Nat.beq j 0 then normC [0] s (kq49_1 n) else (fun _ _ => none) j s
noncomputable def F49_4 : (K49) → K49 := fun K s => run (E49 n) (cA (cA (cA (cB (cB c49))))) an49.snd.snd.fst.fst.fst (fun s => normC [0,1] s K) (xb49_3 n) rt49 s
noncomputable def L49_1 (m : Nat) (a0 : Int) (b1 : Int) : Option R49 := loopN (F49_4 n) m { tm := [.c (.int .i64 a0),.c (.int .i64 b1),uu,uu,uu,uu,uu,uu,uu,uu,uu,uu,uu,uu,uu,uu,uu,uu,uu,uu],hp := emp }
theorem L49_1_eq (m1 : Nat) (a0 : Int) (b1 : Int) : L49_1 n (m1 + 1) a0 b1 =
    (bif (b1 != 0) then (bif b1 == 0 then none
      else L49_1 n m1 b1 (Int.tmod a0 b1))
    else some a0) := by kernel_rfl
noncomputable def S49 (a0 : Int) (b1 : Int) : Option R49 := run (E49 n) c49 an49 rt49 (fun _ _ => none) rt49 { tm := [.c (.int .i64 a0),.c (.int .i64 b1),uu,uu,uu,uu,uu,uu,uu,uu,uu,uu,uu,uu,uu,uu,uu,uu,uu,uu],hp := emp }
theorem S49_eq (a0 : Int) (b1 : Int) : S49 n a0 b1 =
    L49_1 n n.1 (if (wr .i64 (0 - a0)) > a0 then (wr .i64 (0 - a0)) else a0) (if (wr .i64 (0 - b1)) > b1 then (wr .i64 (0 - b1)) else b1) := by kernel_rfl
theorem S49_run (xs : pksDen pk49) : S49 n xs.1 xs.2.1 = runG (E49 n) noScope c49 an49 (rtG rk49) (fun _ _ => none) (rtG rk49) (st0 pk49 xs Try.f49.ntmps) := by kernel_rfl
noncomputable def P49 := phiOf pk49 rk49 (fun xs => S49 n xs.1 xs.2.1)
theorem call49 : CallOK Try.prog 49 := callOK_of Try.func49 (by kernel_rfl) (by kernel_rfl)
theorem env49 : EnvOK Try.prog (E49 n) := envOK0 noPhi_ok rfl rfl
theorem par49 : EnvPar (E49 n) := envPar0 noPhi_par rfl
theorem FC49 : FCs Try.prog 49 (P49 n) := phiOf_FCs fun xs r h vs hv => FC.of_runG tabOK eqsOK (env49 n) (par49 n) mixed (fun _ => noScope_ok) Try.func49 (c := c49) (an := an49) (pks := pk49) (rks := rk49) (by kernel_rfl) (by kernel_rfl) hv ((S49_run n xs).symm.trans h)
abbrev R53 := Bool
noncomputable def c53 : Code := bodyOf Try.f53
noncomputable def an53 : Ann := .l
def pk53 : List PK := [.c (.pair (.int .i64) (.int .i64)),.c (.int .i64),.c (.int .i64)]
def rk53 : List RK := [.c .bool 6]
noncomputable def rt53 (st : St) : Option R53 := rtG rk53 st
noncomputable def E53 : Env := { T := tab,phi := (consPhi 49 (fun _ => true) (P49 n) noPhi),eff := fun _ => false,fuel := n.1,hold := n.2 }
noncomputable def S53 (f0 : Int × Int) (low1 : Int) (high2 : Int) : Option R53 := run (E53 n) c53 an53 rt53 (fun _ _ => none) rt53 { tm := [.agg [.int .i64 f0.1,.int .i64 f0.2],.c (.int .i64 low1),.c (.int .i64 high2),uu,uu,uu,uu,uu,uu,uu,uu,uu,uu,uu,uu,uu,uu,uu,uu,uu,uu,uu,uu,uu,uu,uu,uu,uu,uu,uu,uu,uu,uu,uu,uu,uu,uu,uu,uu,uu,uu],hp := emp }
theorem S53_eq (f0 : Int × Int) (low1 : Int) (high2 : Int) : S53 n f0 low1 high2 =
    ((bif (decide (f0.2 > 0) == true) then some (decide (f0.2 ≤ 72))
      else some false)).bind fun b1' =>
    ((bif (b1' == true) then some (decide (f0.1 ≥ wr .i64 (low1 * f0.2)))
      else some false)).bind fun b2' =>
    ((bif (b2' == true) then some (decide (f0.1 ≤ wr .i64 (high2 * f0.2)))
      else some false)).bind fun b3' =>
    ((bif (b3' == true) then (S49 n f0.1 f0.2).bind fun r4' =>
        some (r4' == 1)
      else some false)).bind fun b5' =>
    some b5' := by kernel_rfl
theorem S53_run (xs : pksDen pk53) : S53 n xs.1 xs.2.1 xs.2.2.1 = runG (E53 n) noScope c53 an53 (rtG rk53) (fun _ _ => none) (rtG rk53) (st0 pk53 xs Try.f53.ntmps) := by kernel_rfl
noncomputable def P53 := phiOf pk53 rk53 (fun xs => S53 n xs.1 xs.2.1 xs.2.2.1)
theorem call53 : CallOK Try.prog 53 := callOK_of Try.func53 (by kernel_rfl) (by kernel_rfl)
theorem env53 : EnvOK Try.prog (E53 n) := envOK0 (consPhi_ok (FC49 n) call49 noPhi_ok) rfl rfl
theorem par53 : EnvPar (E53 n) := envPar0 (consPhi_par phiOf_Par1 noPhi_par) rfl
theorem FC53 : FCs Try.prog 53 (P53 n) := phiOf_FCs fun xs r h vs hv => FC.of_runG tabOK eqsOK (env53 n) (par53 n) mixed (fun _ => noScope_ok) Try.func53 (c := c53) (an := an53) (pks := pk53) (rks := rk53) (by kernel_rfl) (by kernel_rfl) hv ((S53_run n xs).symm.trans h)
abbrev R92 := Bool
noncomputable def c92 : Code := bodyOf Try.f92
noncomputable def an92 : Ann := .l
def pk92 : List PK := [.c (.pair (.int .i64) (.int .i64))]
def rk92 : List RK := [.c .bool 2]
noncomputable def rt92 (st : St) : Option R92 := rtG rk92 st
noncomputable def E92 : Env := { T := tab,phi := (consPhi 53 (fun _ => true) (P53 n) noPhi),eff := fun _ => false,fuel := n.1,hold := n.2 }
noncomputable def S92 (f0 : Int × Int) : Option R92 := run (E92 n) c92 an92 rt92 (fun _ _ => none) rt92 { tm := [.agg [.int .i64 f0.1,.int .i64 f0.2],uu,uu,uu,uu,uu],hp := emp }
theorem S92_eq (f0 : Int × Int) : S92 n f0 =
    (S53 n f0 0 100).bind fun r1' =>
    some (!r1') := by kernel_rfl
theorem S92_run (xs : pksDen pk92) : S92 n xs.1 = runG (E92 n) noScope c92 an92 (rtG rk92) (fun _ _ => none) (rtG rk92) (st0 pk92 xs Try.f92.ntmps) := by kernel_rfl
noncomputable def P92 := phiOf pk92 rk92 (fun xs => S92 n xs.1)
theorem call92 : CallOK Try.prog 92 := callOK_of Try.func92 (by kernel_rfl) (by kernel_rfl)
theorem env92 : EnvOK Try.prog (E92 n) := envOK0 (consPhi_ok (FC53 n) call53 noPhi_ok) rfl rfl
theorem par92 : EnvPar (E92 n) := envPar0 (consPhi_par phiOf_Par1 noPhi_par) rfl
theorem FC92 : FCs Try.prog 92 (P92 n) := phiOf_FCs fun xs r h vs hv => FC.of_runG tabOK eqsOK (env92 n) (par92 n) mixed (fun _ => noScope_ok) Try.func92 (c := c92) (an := an92) (pks := pk92) (rks := rk92) (by kernel_rfl) (by kernel_rfl) hv ((S92_run n xs).symm.trans h)
abbrev R106c92 := Int
abbrev K106c92 := St → Option R106c92
noncomputable def c106c92 : Code := bodyOf Try.f106
noncomputable def an106c92 : Ann := (.s .l (.s (.s .l (.j [] (.j [0,1,7,8] (.s .l (.s (.j [0,1,7,8] .l .l) (.s (.j [0,1,7,8] (.s .l (.s .l (.j [0,1,7,8] .l .l))) .l) .l))) .l) .l)) .l))
def pk106c92 : List PK := [.c (.sl (.pair (.int .i64) (.int .i64))),.f 92 []]
def rk106c92 : List RK := [.c (.int .i64) 4]
noncomputable def rt106c92 (st : St) : Option R106c92 := rtG rk106c92 st
noncomputable def E106c92 : Env := { T := tab,phi := (consPhi 92 (fun _ => true) (P92 n) noPhi),eff := fun _ => false,fuel := n.1,hold := n.2 }
noncomputable def kq106c92_1 : K106c92 := run (E106c92 n) (cB (cB c106c92)) an106c92.snd.snd rt106c92 (fun _ _ => none) rt106c92
noncomputable def xb106c92_3 : Nat → K106c92 := fun j s => bif Nat.beq j 0 then normC [] s (kq106c92_1 n) else (fun _ _ => none) j s
noncomputable def F106c92_4 : (K106c92) → K106c92 := fun K s => run (E106c92 n) (cA (cA (cB (cA (cB c106c92))))) an106c92.snd.fst.snd.fst.fst (fun s => normC [0,1,7,8] s K) (xb106c92_3 n) rt106c92 s
noncomputable def L106c92_1 (m : Nat) (s0 : LP) (v7 : Int) (v8 : Int) : Option R106c92 := loopN (F106c92_4 n) m { tm := [.c (.sl (.pair (.int .i64) (.int .i64)) s0 false),.fn 92 [],uu,uu,uu,uu,uu,.c (.int .i64 v7),.c (.int .i64 v8),uu,uu,uu,uu,uu,uu,uu,uu,uu,uu],hp := emp }
theorem L106c92_1_eq (m1 : Nat) (s0 : LP) (v7 : Int) (v8 : Int) : L106c92_1 n (m1 + 1) s0 v7 v8 =
    (bif decide (v8 < v7) then (idx s0 v8).bind fun x1' =>
      (S92 n x1').bind fun r2' =>
      (bif r2' then some v8
      else L106c92_1 n m1 s0 v7 (wr .i64 (v8 + 1)))
    else some (-1)) := by kernel_rfl
noncomputable def S106c92 (s0 : LP) : Option R106c92 := run (E106c92 n) c106c92 an106c92 rt106c92 (fun _ _ => none) rt106c92 { tm := [.c (.sl (.pair (.int .i64) (.int .i64)) s0 false),.fn 92 [],uu,uu,uu,uu,uu,uu,uu,uu,uu,uu,uu,uu,uu,uu,uu,uu,uu],hp := emp }
theorem S106c92_eq (s0 : LP) : S106c92 n s0 =
    L106c92_1 n n.1 s0 (s0.length : Int) 0 := by kernel_rfl
theorem S106c92_run (xs : pksDen pk106c92) : S106c92 n xs.1 = runG (E106c92 n) noScope c106c92 an106c92 (rtG rk106c92) (fun _ _ => none) (rtG rk106c92) (st0 pk106c92 xs Try.f106.ntmps) := by kernel_rfl
noncomputable def P106c92 := phiOf pk106c92 rk106c92 (fun xs => S106c92 n xs.1)
theorem env106c92 : EnvOK Try.prog (E106c92 n) := envOK0 (consPhi_ok (FC92 n) call92 noPhi_ok) rfl rfl
theorem par106c92 : EnvPar (E106c92 n) := envPar0 (consPhi_par phiOf_Par1 noPhi_par) rfl
theorem FC106c92 : FCs Try.prog 106 (P106c92 n) := phiOf_FCs fun xs r h vs hv => FC.of_runG tabOK eqsOK (env106c92 n) (par106c92 n) mixed (fun _ => noScope_ok) Try.func106 (c := c106c92) (an := an106c92) (pks := pk106c92) (rks := rk106c92) (by kernel_rfl) (by kernel_rfl) hv ((S106c92_run n xs).symm.trans h)
abbrev R85c92 := Bool
noncomputable def c85c92 : Code := bodyOf Try.f85
noncomputable def an85c92 : Ann := .l
def pk85c92 : List PK := [.c (.sl (.pair (.int .i64) (.int .i64))),.f 92 []]
def rk85c92 : List RK := [.c .bool 4]
noncomputable def rt85c92 (st : St) : Option R85c92 := rtG rk85c92 st
noncomputable def E85c92 : Env := { T := tab,phi := (consPhi 106 (isFns [none,some 92]) (P106c92 n) noPhi),eff := fun _ => false,fuel := n.1,hold := n.2 }
noncomputable def S85c92 (s0 : LP) : Option R85c92 := run (E85c92 n) c85c92 an85c92 rt85c92 (fun _ _ => none) rt85c92 { tm := [.c (.sl (.pair (.int .i64) (.int .i64)) s0 false),.fn 92 [],uu,uu,uu,uu,uu,uu,uu],hp := emp }
theorem S85c92_eq (s0 : LP) : S85c92 n s0 =
    (S106c92 n s0).bind fun r1' =>
    some (decide (r1' ≥ 0)) := by kernel_rfl
theorem S85c92_run (xs : pksDen pk85c92) : S85c92 n xs.1 = runG (E85c92 n) noScope c85c92 an85c92 (rtG rk85c92) (fun _ _ => none) (rtG rk85c92) (st0 pk85c92 xs Try.f85.ntmps) := by kernel_rfl
noncomputable def P85c92 := phiOf pk85c92 rk85c92 (fun xs => S85c92 n xs.1)
theorem env85c92 : EnvOK Try.prog (E85c92 n) := envOK0 (consPhi_ok (FC106c92 n) call106 noPhi_ok) rfl rfl
theorem par85c92 : EnvPar (E85c92 n) := envPar0 (consPhi_par phiOf_Par1 noPhi_par) rfl
theorem FC85c92 : FCs Try.prog 85 (P85c92 n) := phiOf_FCs fun xs r h vs hv => FC.of_runG tabOK eqsOK (env85c92 n) (par85c92 n) mixed (fun _ => noScope_ok) Try.func85 (c := c85c92) (an := an85c92) (pks := pk85c92) (rks := rk85c92) (by kernel_rfl) (by kernel_rfl) hv ((S85c92_run n xs).symm.trans h)
abbrev R48 := Bool
noncomputable def c48 : Code := bodyOf Try.f48
noncomputable def an48 : Ann := .l
def pk48 : List PK := [.c (.sl (.pair (.int .i64) (.int .i64))),.c (.int .i64)]
def rk48 : List RK := [.c .bool 4]
noncomputable def rt48 (st : St) : Option R48 := rtG rk48 st
noncomputable def E48 : Env := { T := tab,phi := (consPhi 85 (isFns [none,some 92]) (P85c92 n) noPhi),eff := fun _ => false,fuel := n.1,hold := n.2 }
noncomputable def S48 (l0 : LP) (v1 : Int) : Option R48 := run (E48 n) c48 an48 rt48 (fun _ _ => none) rt48 { tm := [.c (.sl (.pair (.int .i64) (.int .i64)) l0 false),.c (.int .i64 v1),uu,uu,uu,uu,uu,uu,uu,uu,uu,uu,uu,uu],hp := emp }
theorem S48_eq (l0 : LP) (v1 : Int) : S48 n l0 v1 =
    ((bif (((l0.length : Int) == v1) == true) then (S85c92 n l0).bind fun r1' =>
        some (!r1')
      else some false)).bind fun b2' =>
    some b2' := by kernel_rfl
theorem S48_run (xs : pksDen pk48) : S48 n xs.1 xs.2.1 = runG (E48 n) noScope c48 an48 (rtG rk48) (fun _ _ => none) (rtG rk48) (st0 pk48 xs Try.f48.ntmps) := by kernel_rfl
noncomputable def P48 := phiOf pk48 rk48 (fun xs => S48 n xs.1 xs.2.1)
theorem call48 : CallOK Try.prog 48 := callOK_of Try.func48 (by kernel_rfl) (by kernel_rfl)
theorem env48 : EnvOK Try.prog (E48 n) := envOK0 (consPhi_ok (FC85c92 n) call85 noPhi_ok) rfl rfl
theorem par48 : EnvPar (E48 n) := envPar0 (consPhi_par phiOf_Par1 noPhi_par) rfl
theorem FC48 : FCs Try.prog 48 (P48 n) := phiOf_FCs fun xs r h vs hv => FC.of_runG tabOK eqsOK (env48 n) (par48 n) mixed (fun _ => noScope_ok) Try.func48 (c := c48) (an := an48) (pks := pk48) (rks := rk48) (by kernel_rfl) (by kernel_rfl) hv ((S48_run n xs).symm.trans h)
abbrev R66 := Int × Int
abbrev K66 := St → Option R66
noncomputable def c66 : Code := bodyOf Try.f66
noncomputable def an66 : Ann := (.s .l (.s .l (.s (.s .l (.j [4,5] (.j [4,5,8,9,10] (.s .l (.s (.j [4,5,8,9,10] .l .l) (.s (.j [4,5,8,9,10] .l .l) .l))) .l) .l)) .l)))
def pk66 : List PK := [.c (.sl (.pair (.int .i64) (.int .i64)))]
def rk66 : List RK := [.c (.int .i64) 2,.c (.int .i64) 3]
noncomputable def rt66 (st : St) : Option R66 := rtG rk66 st
noncomputable def E66 : Env := { T := tab,phi := noPhi,eff := fun _ => false,fuel := n.1,hold := n.2 }
noncomputable def kq66_1 : K66 := run (E66 n) (cB (cB (cB c66))) an66.snd.snd.snd rt66 (fun _ _ => none) rt66
noncomputable def xb66_3 : Nat → K66 := fun j s => bif Nat.beq j 0 then normC [4,5] s (kq66_1 n) else (fun _ _ => none) j s
noncomputable def F66_4 : (K66) → K66 := fun K s => run (E66 n) (cA (cA (cB (cA (cB (cB c66)))))) an66.snd.snd.fst.snd.fst.fst (fun s => normC [4,5,8,9,10] s K) (xb66_3 n) rt66 s
noncomputable def L66_1 (m : Nat) (v4 : Int) (t5 : Int) (v8 : LP) (v9 : Int) (v10 : Int) : Option R66 := loopN (F66_4 n) m { tm := [uu,uu,uu,uu,.c (.int .i64 v4),.c (.int .i64 t5),uu,uu,.c (.sl (.pair (.int .i64) (.int .i64)) v8 false),.c (.int .i64 v9),.c (.int .i64 v10),uu,uu,uu,uu,uu,uu,uu,uu,uu,uu,uu,uu,uu,uu,uu,uu,uu],hp := emp }
theorem L66_1_eq (m1 : Nat) (v4 : Int) (t5 : Int) (v8 : LP) (v9 : Int) (v10 : Int) : L66_1 n (m1 + 1) v4 t5 v8 v9 v10 =
    (bif decide (v10 < v9) then (idx v8 v10).bind fun x1' =>
      L66_1 n m1 (wr .i64 (v4 + (wr .i64 (x1'.1 * x1'.2)))) (wr .i64 (t5 + x1'.2)) v8 v9 (wr .i64 (v10 + 1))
    else some (v4,t5)) := by kernel_rfl
noncomputable def S66 (l0 : LP) : Option R66 := run (E66 n) c66 an66 rt66 (fun _ _ => none) rt66 { tm := [.c (.sl (.pair (.int .i64) (.int .i64)) l0 false),uu,uu,uu,uu,uu,uu,uu,uu,uu,uu,uu,uu,uu,uu,uu,uu,uu,uu,uu,uu,uu,uu,uu,uu,uu,uu,uu],hp := emp }
theorem S66_eq (l0 : LP) : S66 n l0 =
    L66_1 n n.1 0 0 l0 (l0.length : Int) 0 := by kernel_rfl
theorem S66_run (xs : pksDen pk66) : S66 n xs.1 = runG (E66 n) noScope c66 an66 (rtG rk66) (fun _ _ => none) (rtG rk66) (st0 pk66 xs Try.f66.ntmps) := by kernel_rfl
noncomputable def P66 := phiOf pk66 rk66 (fun xs => S66 n xs.1)
theorem call66 : CallOK Try.prog 66 := callOK_of Try.func66 (by kernel_rfl) (by kernel_rfl)
theorem env66 : EnvOK Try.prog (E66 n) := envOK0 noPhi_ok rfl rfl
theorem par66 : EnvPar (E66 n) := envPar0 noPhi_par rfl
theorem FC66 : FCs Try.prog 66 (P66 n) := phiOf_FCs fun xs r h vs hv => FC.of_runG tabOK eqsOK (env66 n) (par66 n) mixed (fun _ => noScope_ok) Try.func66 (c := c66) (an := an66) (pks := pk66) (rks := rk66) (by kernel_rfl) (by kernel_rfl) hv ((S66_run n xs).symm.trans h)
abbrev R50 := Int × Int
noncomputable def c50 : Code := bodyOf Try.f50
noncomputable def an50 : Ann := .l
def pk50 : List PK := [.c (.sl (.pair (.int .i64) (.int .i64)))]
def rk50 : List RK := [.box (.pair (.int .i64) (.int .i64)) 2]
noncomputable def rt50 (st : St) : Option R50 := rtG rk50 st
noncomputable def E50 : Env := { T := tab,phi := (consPhi 49 (fun _ => true) (P49 n) (consPhi 52 (fun _ => true) (P52 n) (consPhi 66 (fun _ => true) (P66 n) noPhi))),eff := fun _ => false,fuel := n.1,hold := n.2 }
noncomputable def S50 (l0 : LP) : Option R50 := run (E50 n) c50 an50 rt50 (fun _ _ => none) rt50 { tm := [.c (.sl (.pair (.int .i64) (.int .i64)) l0 false),uu,uu,uu,uu,uu,uu,uu,uu,uu,uu,uu,uu,uu,uu,uu,uu,uu,uu,uu,uu],hp := emp }
theorem S50_eq (l0 : LP) : S50 n l0 =
    (S66 n l0).bind fun r1' =>
    (S49 n r1'.1 r1'.2).bind fun r2' =>
    (bif r2' == 0 then none
    else (bif r2' == 0 then none
      else (S52 n (wr .i64 (Int.tdiv r1'.1 r2')) (wr .i64 (Int.tdiv r1'.2 r2'))).bind fun r3' =>
        some r3')) := by kernel_rfl
theorem S50_run (xs : pksDen pk50) : S50 n xs.1 = runG (E50 n) noScope c50 an50 (rtG rk50) (fun _ _ => none) (rtG rk50) (st0 pk50 xs Try.f50.ntmps) := by kernel_rfl
noncomputable def P50 := phiOf pk50 rk50 (fun xs => S50 n xs.1)
theorem call50 : CallOK Try.prog 50 := callOK_of Try.func50 (by kernel_rfl) (by kernel_rfl)
theorem env50 : EnvOK Try.prog (E50 n) := envOK0 (consPhi_ok (FC49 n) call49 (consPhi_ok (FC52 n) call52 (consPhi_ok (FC66 n) call66 noPhi_ok))) rfl rfl
theorem par50 : EnvPar (E50 n) := envPar0 (consPhi_par phiOf_Par1 (consPhi_par phiOf_Par1 (consPhi_par phiOf_Par1 noPhi_par))) rfl
theorem FC50 : FCs Try.prog 50 (P50 n) := phiOf_FCs fun xs r h vs hv => FC.of_runG tabOK eqsOK (env50 n) (par50 n) mixed (fun _ => noScope_ok) Try.func50 (c := c50) (an := an50) (pks := pk50) (rks := rk50) (by kernel_rfl) (by kernel_rfl) hv ((S50_run n xs).symm.trans h)
abbrev R62 := Int
noncomputable def c62 : Code := bodyOf Try.f62
noncomputable def an62 : Ann := .l
def pk62 : List PK := [.c (.pair (.int .i64) (.int .i64)),.c (.pair (.int .i64) (.int .i64))]
def rk62 : List RK := [.c (.int .i64) 4]
noncomputable def rt62 (st : St) : Option R62 := rtG rk62 st
noncomputable def E62 : Env := { T := tab,phi := noPhi,eff := fun _ => false,fuel := n.1,hold := n.2 }
noncomputable def S62 (a0 : Int × Int) (b1 : Int × Int) : Option R62 := run (E62 n) c62 an62 rt62 (fun _ _ => none) rt62 { tm := [.agg [.int .i64 a0.1,.int .i64 a0.2],.agg [.int .i64 b1.1,.int .i64 b1.2],uu,uu,uu,uu,uu,uu,uu,uu,uu,uu,uu,uu,uu,uu],hp := emp }
theorem S62_eq (a0 : Int × Int) (b1 : Int × Int) : S62 n a0 b1 =
    some (wr .i64 ((wr .i64 (a0.1 * b1.2)) - (wr .i64 (b1.1 * a0.2)))) := by kernel_rfl
theorem S62_run (xs : pksDen pk62) : S62 n xs.1 xs.2.1 = runG (E62 n) noScope c62 an62 (rtG rk62) (fun _ _ => none) (rtG rk62) (st0 pk62 xs Try.f62.ntmps) := by kernel_rfl
noncomputable def P62 := phiOf pk62 rk62 (fun xs => S62 n xs.1 xs.2.1)
theorem call62 : CallOK Try.prog 62 := callOK_of Try.func62 (by kernel_rfl) (by kernel_rfl)
theorem env62 : EnvOK Try.prog (E62 n) := envOK0 noPhi_ok rfl rfl
theorem par62 : EnvPar (E62 n) := envPar0 noPhi_par rfl
theorem FC62 : FCs Try.prog 62 (P62 n) := phiOf_FCs fun xs r h vs hv => FC.of_runG tabOK eqsOK (env62 n) (par62 n) mixed (fun _ => noScope_ok) Try.func62 (c := c62) (an := an62) (pks := pk62) (rks := rk62) (by kernel_rfl) (by kernel_rfl) hv ((S62_run n xs).symm.trans h)
abbrev R108 := Int × Int
noncomputable def c108 : Code := bodyOf Try.f108
noncomputable def an108 : Ann := .l
def pk108 : List PK := [.c (.int .u32),.c (.int .u32)]
def rk108 : List RK := [.c (.int .u32) 4,.c (.int .u32) 5]
noncomputable def rt108 (st : St) : Option R108 := rtG rk108 st
noncomputable def E108 : Env := { T := tab,phi := noPhi,eff := fun _ => false,fuel := n.1,hold := n.2 }
noncomputable def S108 (x0 : Int) (y1 : Int) : Option R108 := run (E108 n) c108 an108 rt108 (fun _ _ => none) rt108 { tm := [.c (.int .u32 x0),.c (.int .u32 y1),uu,uu,uu,uu,uu,uu,uu,uu,uu,uu,uu,uu,uu,uu,uu],hp := emp }
theorem S108_eq (x0 : Int) (y1 : Int) : S108 n x0 y1 =
    (bif decide (32 < 0) then none
    else some (wr .u32 (Int.fdiv (wr .u64 ((wr .u64 x0) * (wr .u64 y1))) (2 ^ (min (Int.toNat 32) (IntKind.bits .u64)))),wr .u32 (wr .u64 ((wr .u64 x0) * (wr .u64 y1))))) := by kernel_rfl
theorem S108_run (xs : pksDen pk108) : S108 n xs.1 xs.2.1 = runG (E108 n) noScope c108 an108 (rtG rk108) (fun _ _ => none) (rtG rk108) (st0 pk108 xs Try.f108.ntmps) := by kernel_rfl
noncomputable def P108 := phiOf pk108 rk108 (fun xs => S108 n xs.1 xs.2.1)
theorem call108 : CallOK Try.prog 108 := callOK_of Try.func108 (by kernel_rfl) (by kernel_rfl)
theorem env108 : EnvOK Try.prog (E108 n) := envOK0 noPhi_ok rfl rfl
theorem par108 : EnvPar (E108 n) := envPar0 noPhi_par rfl
theorem FC108 : FCs Try.prog 108 (P108 n) := phiOf_FCs fun xs r h vs hv => FC.of_runG tabOK eqsOK (env108 n) (par108 n) mixed (fun _ => noScope_ok) Try.func108 (c := c108) (an := an108) (pks := pk108) (rks := rk108) (by kernel_rfl) (by kernel_rfl) hv ((S108_run n xs).symm.trans h)
abbrev R109 := Int × Int
noncomputable def c109 : Code := bodyOf Try.f109
noncomputable def an109 : Ann := .l
def pk109 : List PK := [.c (.int .u64),.c (.int .u64)]
def rk109 : List RK := [.c (.int .u64) 4,.c (.int .u64) 5]
noncomputable def rt109 (st : St) : Option R109 := rtG rk109 st
noncomputable def E109 : Env := { T := tab,phi := noPhi,eff := fun _ => false,fuel := n.1,hold := n.2 }
noncomputable def S109 (x0 : Int) (y1 : Int) : Option R109 := run (E109 n) c109 an109 rt109 (fun _ _ => none) rt109 { tm := [.c (.int .u64 x0),.c (.int .u64 y1),uu,uu,uu,uu,uu,uu,uu,uu,uu,uu,uu,uu,uu,uu,uu,uu,uu,uu,uu,uu,uu,uu,uu,uu,uu,uu,uu,uu,uu,uu,uu,uu,uu,uu,uu,uu,uu,uu,uu,uu,uu,uu,uu,uu,uu,uu,uu,uu,uu],hp := emp }
theorem S109_eq (x0 : Int) (y1 : Int) : S109 n x0 y1 =
    (bif decide (32 < 0) then none
    else (bif decide (32 < 0) then none
      else (bif decide (32 < 0) then none
        else (bif decide (32 < 0) then none
          else (bif decide (32 < 0) then none
            else some (wr .u64 ((wr .u64 ((wr .u64 ((Int.fdiv x0 (2 ^ (min (Int.toNat 32) (IntKind.bits .u64)))) * (Int.fdiv y1 (2 ^ (min (Int.toNat 32) (IntKind.bits .u64)))))) + (Int.fdiv (wr .u64 ((wr .u64 ((Int.fdiv x0 (2 ^ (min (Int.toNat 32) (IntKind.bits .u64)))) * (wr .u64 (BitVec.ofInt (IntKind.bits .u64) y1 &&& BitVec.ofInt (IntKind.bits .u64) 4294967295).toNat))) + (Int.fdiv (wr .u64 ((wr .u64 (BitVec.ofInt (IntKind.bits .u64) x0 &&& BitVec.ofInt (IntKind.bits .u64) 4294967295).toNat) * (wr .u64 (BitVec.ofInt (IntKind.bits .u64) y1 &&& BitVec.ofInt (IntKind.bits .u64) 4294967295).toNat))) (2 ^ (min (Int.toNat 32) (IntKind.bits .u64)))))) (2 ^ (min (Int.toNat 32) (IntKind.bits .u64)))))) + (Int.fdiv (wr .u64 ((wr .u64 (BitVec.ofInt (IntKind.bits .u64) (wr .u64 ((wr .u64 ((Int.fdiv x0 (2 ^ (min (Int.toNat 32) (IntKind.bits .u64)))) * (wr .u64 (BitVec.ofInt (IntKind.bits .u64) y1 &&& BitVec.ofInt (IntKind.bits .u64) 4294967295).toNat))) + (Int.fdiv (wr .u64 ((wr .u64 (BitVec.ofInt (IntKind.bits .u64) x0 &&& BitVec.ofInt (IntKind.bits .u64) 4294967295).toNat) * (wr .u64 (BitVec.ofInt (IntKind.bits .u64) y1 &&& BitVec.ofInt (IntKind.bits .u64) 4294967295).toNat))) (2 ^ (min (Int.toNat 32) (IntKind.bits .u64)))))) &&& BitVec.ofInt (IntKind.bits .u64) 4294967295).toNat) + (wr .u64 ((wr .u64 (BitVec.ofInt (IntKind.bits .u64) x0 &&& BitVec.ofInt (IntKind.bits .u64) 4294967295).toNat) * (Int.fdiv y1 (2 ^ (min (Int.toNat 32) (IntKind.bits .u64)))))))) (2 ^ (min (Int.toNat 32) (IntKind.bits .u64))))),wr .u64 (x0 * y1))))))) := by kernel_rfl
theorem S109_run (xs : pksDen pk109) : S109 n xs.1 xs.2.1 = runG (E109 n) noScope c109 an109 (rtG rk109) (fun _ _ => none) (rtG rk109) (st0 pk109 xs Try.f109.ntmps) := by kernel_rfl
noncomputable def P109 := phiOf pk109 rk109 (fun xs => S109 n xs.1 xs.2.1)
theorem call109 : CallOK Try.prog 109 := callOK_of Try.func109 (by kernel_rfl) (by kernel_rfl)
theorem env109 : EnvOK Try.prog (E109 n) := envOK0 noPhi_ok rfl rfl
theorem par109 : EnvPar (E109 n) := envPar0 noPhi_par rfl
theorem FC109 : FCs Try.prog 109 (P109 n) := phiOf_FCs fun xs r h vs hv => FC.of_runG tabOK eqsOK (env109 n) (par109 n) mixed (fun _ => noScope_ok) Try.func109 (c := c109) (an := an109) (pks := pk109) (rks := rk109) (by kernel_rfl) (by kernel_rfl) hv ((S109_run n xs).symm.trans h)
abbrev R95 := Int × Int
noncomputable def c95 : Code := bodyOf Try.f95
noncomputable def an95 : Ann := (.s .l (.s (.j [0,1] .l .l) .l))
def pk95 : List PK := [.c (.int .u64),.c (.int .u64)]
def rk95 : List RK := [.c (.int .u64) 4,.c (.int .u64) 5]
noncomputable def rt95 (st : St) : Option R95 := rtG rk95 st
noncomputable def E95 : Env := { T := tab,phi := (consPhi 108 (fun _ => true) (P108 n) (consPhi 109 (fun _ => true) (P109 n) noPhi)),eff := fun _ => false,fuel := n.1,hold := n.2 }
noncomputable def S95 (x0 : Int) (y1 : Int) : Option R95 := run (E95 n) c95 an95 rt95 (fun _ _ => none) rt95 { tm := [.c (.int .u64 x0),.c (.int .u64 y1),uu,uu,uu,uu,uu,uu,uu,uu,uu,uu,uu,uu,uu,uu,uu,uu,uu,uu,uu,uu,uu,uu,uu,uu,uu,uu,uu,uu],hp := emp }
theorem S95_eq (x0 : Int) (y1 : Int) : S95 n x0 y1 =
    (bif false then (S108 n (wr .u32 x0) (wr .u32 y1)).bind fun r1' =>
      some (wr .u64 r1'.1,wr .u64 r1'.2)
    else (S109 n x0 y1).bind fun r2' =>
      some (r2'.1,r2'.2)) := by kernel_rfl
theorem S95_run (xs : pksDen pk95) : S95 n xs.1 xs.2.1 = runG (E95 n) noScope c95 an95 (rtG rk95) (fun _ _ => none) (rtG rk95) (st0 pk95 xs Try.f95.ntmps) := by kernel_rfl
noncomputable def P95 := phiOf pk95 rk95 (fun xs => S95 n xs.1 xs.2.1)
theorem call95 : CallOK Try.prog 95 := callOK_of Try.func95 (by kernel_rfl) (by kernel_rfl)
theorem env95 : EnvOK Try.prog (E95 n) := envOK0 (consPhi_ok (FC108 n) call108 (consPhi_ok (FC109 n) call109 noPhi_ok)) rfl rfl
theorem par95 : EnvPar (E95 n) := envPar0 (consPhi_par phiOf_Par1 (consPhi_par phiOf_Par1 noPhi_par)) rfl
theorem FC95 : FCs Try.prog 95 (P95 n) := phiOf_FCs fun xs r h vs hv => FC.of_runG tabOK eqsOK (env95 n) (par95 n) mixed (fun _ => noScope_ok) Try.func95 (c := c95) (an := an95) (pks := pk95) (rks := rk95) (by kernel_rfl) (by kernel_rfl) hv ((S95_run n xs).symm.trans h)
abbrev R67 := LP
abbrev K67 := St → Option R67
noncomputable def c67 : Code := bodyOf Try.f67
noncomputable def an67 : Ann := (.s .l (.s (.s .l (.j [0,1,24,25] .l .l)) (.s .l (.s (.s .l (.j [0,6] .l .l)) (.s .l (.s .l (.s (.j [7] (.j [7,8] (.s (.s .l (.j [7,8] .l .l)) (.j [7,8] .l .l)) .l) .l) .l)))))))
def pk67 : List PK := [.c (.sl (.pair (.int .i64) (.int .i64))),.c (.int .i64)]
def rk67 : List RK := [.own (.pair (.int .i64) (.int .i64)) 4]
noncomputable def rt67 (st : St) : Option R67 := rtG rk67 st
noncomputable def E67 : Env := { T := tab,phi := (consPhi 95 (fun _ => true) (P95 n) noPhi),eff := fun _ => false,fuel := n.1,hold := n.2 }
noncomputable def kq67_5 : K67 := run (E67 n) (cB (cB (cB (cB (cB (cB (cB c67))))))) an67.snd.snd.snd.snd.snd.snd.snd rt67 (fun _ _ => none) rt67
noncomputable def xb67_7 : Nat → K67 := fun j s => bif Nat.beq j 0 then normC [7] s (kq67_5 n) else (fun _ _ => none) j s
noncomputable def F67_8 : (K67) → K67 := fun K s => run (E67 n) (cA (cA (cA (cB (cB (cB (cB (cB (cB c67))))))))) an67.snd.snd.snd.snd.snd.snd.fst.fst.fst (fun s => normC [7,8] s K) (xb67_7 n) rt67 s
noncomputable def L67_1 (m : Nat) (v8 : Int) (newslice7 : LP) : Option R67 := loopN (F67_8 n) m { tm := [uu,uu,uu,uu,uu,uu,uu,.own 7 none false,.c (.int .i64 v8),uu,uu,uu,uu,uu,uu,uu,uu,uu,uu,uu,uu,uu,uu,uu,uu,uu,uu,uu,uu,uu,uu,uu,uu,uu,uu,uu,uu,uu,uu,uu,uu,uu,uu,uu,uu,uu,uu,uu],hp := (upd emp 7 (.arr (.pair (.int .i64) (.int .i64)) newslice7 false)) }
theorem L67_1_eq (m1 : Nat) (v8 : Int) (newslice7 : LP) : L67_1 n (m1 + 1) v8 newslice7 =
    (bif decide (v8 < (newslice7.length : Int)) then (bif bounds (some v8) none none newslice7.length then (bif bounds none (some v8) none newslice7.length then L67_1 n m1 (wr .i64 (v8 + ((min ((newslice7.drop (0 + 0)).take ((Int.toNat v8) - 0)).length ((newslice7.drop (0 + (Int.toNat v8))).take (newslice7.length - (Int.toNat v8))).length : Nat) : Int))) (newslice7.take (0 + (Int.toNat v8)) ++ ((newslice7.drop (0 + 0)).take ((Int.toNat v8) - 0)).take (min ((newslice7.drop (0 + 0)).take ((Int.toNat v8) - 0)).length ((newslice7.drop (0 + (Int.toNat v8))).take (newslice7.length - (Int.toNat v8))).length) ++ newslice7.drop ((0 + (Int.toNat v8)) + min ((newslice7.drop (0 + 0)).take ((Int.toNat v8) - 0)).length ((newslice7.drop (0 + (Int.toNat v8))).take (newslice7.length - (Int.toNat v8))).length))
        else none)
      else none)
    else some newslice7) := by kernel_rfl
noncomputable def S67 (x0 : LP) (count1 : Int) : Option R67 := run (E67 n) c67 an67 rt67 (fun _ _ => none) rt67 { tm := [.c (.sl (.pair (.int .i64) (.int .i64)) x0 false),.c (.int .i64 count1),uu,uu,uu,uu,uu,uu,uu,uu,uu,uu,uu,uu,uu,uu,uu,uu,uu,uu,uu,uu,uu,uu,uu,uu,uu,uu,uu,uu,uu,uu,uu,uu,uu,uu,uu,uu,uu,uu,uu,uu,uu,uu,uu,uu,uu,uu],hp := emp }
theorem S67_eq (x0 : LP) (count1 : Int) : S67 n x0 count1 =
    (bif decide (count1 < 0) then none
    else (S95 n (wr .u64 (x0.length : Int)) (wr .u64 count1)).bind fun r1' =>
      ((bif (decide (r1'.1 > 0) == false) then some (decide (r1'.2 > 9223372036854775807))
        else some true)).bind fun b2' =>
      (bif b2' then none
      else (bif decide (0 ≤ wr .i64 r1'.2) && decide (wr .i64 r1'.2 ≤ wr .i64 r1'.2) && decide (wr .i64 r1'.2 ≤ lim) then L67_1 n n.1 ((min x0.length (List.replicate (Int.toNat (wr .i64 r1'.2)) (zero (.pair (.int .i64) (.int .i64)) : Int × Int)).length : Nat) : Int) ((List.replicate (Int.toNat (wr .i64 r1'.2)) (zero (.pair (.int .i64) (.int .i64)) : Int × Int)).take 0 ++ x0.take (min x0.length (List.replicate (Int.toNat (wr .i64 r1'.2)) (zero (.pair (.int .i64) (.int .i64)) : Int × Int)).length) ++ (List.replicate (Int.toNat (wr .i64 r1'.2)) (zero (.pair (.int .i64) (.int .i64)) : Int × Int)).drop (0 + min x0.length (List.replicate (Int.toNat (wr .i64 r1'.2)) (zero (.pair (.int .i64) (.int .i64)) : Int × Int)).length))
        else none))) := by kernel_rfl
theorem S67_run (xs : pksDen pk67) : S67 n xs.1 xs.2.1 = runG (E67 n) noScope c67 an67 (rtG rk67) (fun _ _ => none) (rtG rk67) (st0 pk67 xs Try.f67.ntmps) := by kernel_rfl
noncomputable def P67 := phiOf pk67 rk67 (fun xs => S67 n xs.1 xs.2.1)
theorem call67 : CallOK Try.prog 67 := callOK_of Try.func67 (by kernel_rfl) (by kernel_rfl)
theorem env67 : EnvOK Try.prog (E67 n) := envOK0 (consPhi_ok (FC95 n) call95 noPhi_ok) rfl rfl
theorem par67 : EnvPar (E67 n) := envPar0 (consPhi_par phiOf_Par1 noPhi_par) rfl
theorem FC67 : FCs Try.prog 67 (P67 n) := phiOf_FCs fun xs r h vs hv => FC.of_runG tabOK eqsOK (env67 n) (par67 n) mixed (fun _ => noScope_ok) Try.func67 (c := c67) (an := an67) (pks := pk67) (rks := rk67) (by kernel_rfl) (by kernel_rfl) hv ((S67_run n xs).symm.trans h)
abbrev R68 := LP
abbrev K68 := St → Option R68
noncomputable def c68 : Code := bodyOf Try.f68
noncomputable def an68 : Ann := (.s .l (.s .l (.s (.s .l (.j [0,3] (.j [0,3,9,10,11] (.s .l (.s (.j [0,3,9,10,11] .l .l) (.j [] (.j [0,3,9,10,11] (.s .l (.s .l (.s .l (.j [0,3,9,10,11] .l .l)))) .l) .l))) .l) .l)) (.s .l (.s (.s .l (.j [6] (.j [6,25,26,27] (.s .l (.s (.j [6,25,26,27] .l .l) (.s (.j [6,25,26,27] .l .l) .l))) .l) .l)) .l)))))
def pk68 : List PK := [.c (.sl (.sl (.pair (.int .i64) (.int .i64))))]
def rk68 : List RK := [.own (.pair (.int .i64) (.int .i64)) 2]
noncomputable def rt68 (st : St) : Option R68 := rtG rk68 st
noncomputable def E68 : Env := { T := tab,phi := (consPhi 96 (fun _ => true) (growF (.pair (.int .i64) (.int .i64))) noPhi),eff := fun _ => false,fuel := n.1,hold := n.2 }
noncomputable def kq68_1 : K68 := run (E68 n) (cB (cB (cB c68))) an68.snd.snd.snd rt68 (fun _ _ => none) rt68
noncomputable def xb68_3 : Nat → K68 := fun j s => bif Nat.beq j 0 then normC [0,3] s (kq68_1 n) else (fun _ _ => none) j s
noncomputable def F68_4 : (K68) → K68 := fun K s => run (E68 n) (cA (cA (cB (cA (cB (cB c68)))))) an68.snd.snd.fst.snd.fst.fst (fun s => normC [0,3,9,10,11] s K) (xb68_3 n) rt68 s
noncomputable def kq68_7 (m1 : Nat) : K68 := run (E68 n) (cB (cB (cB (cA (cA (cB (cA (cB (cB c68))))))))) an68.snd.snd.fst.snd.fst.fst.snd.snd.snd (fun s => normC [0,3,9,10,11] s (loopN (F68_4 n) m1)) (xb68_3 n) rt68
noncomputable def kq68_11 : K68 := run (E68 n) (cB (cB (cB (cB (cB c68))))) an68.snd.snd.snd.snd.snd rt68 (fun _ _ => none) rt68
noncomputable def xb68_13 : Nat → K68 := fun j s => bif Nat.beq j 2 then normC [6] s (kq68_11 n) else (fun _ _ => none) j s
noncomputable def F68_14 : (K68) → K68 := fun K s => run (E68 n) (cA (cA (cB (cA (cB (cB (cB (cB c68)))))))) an68.snd.snd.snd.snd.fst.snd.fst.fst (fun s => normC [6,25,26,27] s K) (xb68_13 n) rt68 s
noncomputable def L68_1 (m : Nat) (slices0 : List LP) (size3 : Int) (v9 : List LP) (v10 : Int) (v11 : Int) : Option R68 := loopN (F68_4 n) m { tm := [.c (.sl (.sl (.pair (.int .i64) (.int .i64))) slices0 false),uu,uu,.c (.int .i64 size3),uu,uu,uu,uu,uu,.c (.sl (.sl (.pair (.int .i64) (.int .i64))) v9 false),.c (.int .i64 v10),.c (.int .i64 v11),uu,uu,uu,uu,uu,uu,uu,uu,uu,uu,uu,uu,uu,uu,uu,uu,uu,uu,uu,uu,uu,uu,uu,uu],hp := emp }
noncomputable def L68_2 (m1 : Nat) (slices0 : List LP) (size3 : Int) (v9 : List LP) (v10 : Int) (v11 : Int) : Option R68 := loopN (fun _ => (kq68_7 n m1)) n.2 { tm := [.c (.sl (.sl (.pair (.int .i64) (.int .i64))) slices0 false),uu,uu,.c (.int .i64 size3),uu,uu,uu,uu,uu,.c (.sl (.sl (.pair (.int .i64) (.int .i64))) v9 false),.c (.int .i64 v10),.c (.int .i64 v11),uu,uu,uu,uu,uu,uu,uu,uu,uu,uu,uu,uu,uu,uu,uu,uu,uu,uu,uu,uu,uu,uu,uu,uu],hp := emp }
noncomputable def L68_3 (m : Nat) (v25 : List LP) (v26 : Int) (v27 : Int) (newslice6 : LP) : Option R68 := loopN (F68_14 n) m { tm := [uu,uu,uu,uu,uu,uu,.own 6 none false,uu,uu,uu,uu,uu,uu,uu,uu,uu,uu,uu,uu,uu,uu,uu,uu,uu,uu,.c (.sl (.sl (.pair (.int .i64) (.int .i64))) v25 false),.c (.int .i64 v26),.c (.int .i64 v27),uu,uu,uu,uu,uu,uu,uu,uu],hp := (upd emp 6 (.arr (.pair (.int .i64) (.int .i64)) newslice6 false)) }
theorem L68_1_eq (m1 : Nat) (slices0 : List LP) (size3 : Int) (v9 : List LP) (v10 : Int) (v11 : Int) : L68_1 n (m1 + 1) slices0 size3 v9 v10 v11 =
    (bif decide (v11 < v10) then (idx v9 v11).bind fun x1' =>
      (bif decide (wr .i64 (size3 + (x1'.length : Int)) < 0) then none
      else L68_2 n m1 slices0 (wr .i64 (size3 + (x1'.length : Int))) v9 v10 v11)
    else (bif decide (0 ≤ size3) && decide (size3 ≤ 1073741824) then L68_3 n n.1 slices0 (slices0.length : Int) 0 []
      else none)) := by kernel_rfl
theorem L68_2_raw (m1 : Nat) (slices0 : List LP) (size3 : Int) (v9 : List LP) (v10 : Int) (v11 : Int) : (kq68_7 n m1) { tm := [.c (.sl (.sl (.pair (.int .i64) (.int .i64))) slices0 false),uu,uu,.c (.int .i64 size3),uu,uu,uu,uu,uu,.c (.sl (.sl (.pair (.int .i64) (.int .i64))) v9 false),.c (.int .i64 v10),.c (.int .i64 v11),uu,uu,uu,uu,uu,uu,uu,uu,uu,uu,uu,uu,uu,uu,uu,uu,uu,uu,uu,uu,uu,uu,uu,uu],hp := emp } =
    L68_1 n m1 slices0 size3 v9 v10 (wr .i64 (v11 + 1)) := by kernel_rfl
theorem L68_3_eq (m1 : Nat) (v25 : List LP) (v26 : Int) (v27 : Int) (newslice6 : LP) : L68_3 n (m1 + 1) v25 v26 v27 newslice6 =
    (bif decide (v27 < v26) then (idx v25 v27).bind fun x2' =>
      (bif decide (newslice6.length + x2'.length ≤ lim) then L68_3 n m1 v25 v26 (wr .i64 (v27 + 1)) (newslice6 ++ x2')
      else none)
    else some newslice6) := by kernel_rfl
noncomputable def S68 (slices0 : List LP) : Option R68 := run (E68 n) c68 an68 rt68 (fun _ _ => none) rt68 { tm := [.c (.sl (.sl (.pair (.int .i64) (.int .i64))) slices0 false),uu,uu,uu,uu,uu,uu,uu,uu,uu,uu,uu,uu,uu,uu,uu,uu,uu,uu,uu,uu,uu,uu,uu,uu,uu,uu,uu,uu,uu,uu,uu,uu,uu,uu,uu],hp := emp }
theorem S68_eq (slices0 : List LP) : S68 n slices0 =
    L68_1 n n.1 slices0 0 slices0 (slices0.length : Int) 0 := by kernel_rfl
theorem S68_run (xs : pksDen pk68) : S68 n xs.1 = runG (E68 n) noScope c68 an68 (rtG rk68) (fun _ _ => none) (rtG rk68) (st0 pk68 xs Try.f68.ntmps) := by kernel_rfl
noncomputable def P68 := phiOf pk68 rk68 (fun xs => S68 n xs.1)
theorem call68 : CallOK Try.prog 68 := callOK_of Try.func68 (by kernel_rfl) (by kernel_rfl)
theorem env68 : EnvOK Try.prog (E68 n) := envOK0 (consPhi_ok grow96 gcall96 noPhi_ok) rfl rfl
theorem par68 : EnvPar (E68 n) := envPar0 (consPhi_par growF_Par1 noPhi_par) rfl
theorem FC68 : FCs Try.prog 68 (P68 n) := phiOf_FCs fun xs r h vs hv => FC.of_runG tabOK eqsOK (env68 n) (par68 n) mixed (fun _ => noScope_ok) Try.func68 (c := c68) (an := an68) (pks := pk68) (rks := rk68) (by kernel_rfl) (by kernel_rfl) hv ((S68_run n xs).symm.trans h)
abbrev R69 := LP
abbrev K69 := St → Option R69
noncomputable def c69 : Code := bodyOf Try.f69
noncomputable def an69 : Ann := (.s .l (.s .l (.s (.s .l (.j [0,3] (.j [0,3,9,10,11] (.s .l (.s (.j [0,3,9,10,11] .l .l) (.j [] (.j [0,3,9,10,11] (.s .l (.s .l (.s .l (.j [0,3,9,10,11] .l .l)))) .l) .l))) .l) .l)) (.s .l (.s (.s .l (.j [6] (.j [6,25,26,27] (.s .l (.s (.j [6,25,26,27] .l .l) (.s (.j [6,25,26,27] .l .l) .l))) .l) .l)) .l)))))
def pk69 : List PK := [.c (.sl (.sl (.pair (.int .i64) (.int .i64))))]
def rk69 : List RK := [.own (.pair (.int .i64) (.int .i64)) 2]
noncomputable def rt69 (st : St) : Option R69 := rtG rk69 st
noncomputable def E69 : Env := { T := tab,phi := (consPhi 97 (fun _ => true) (growF (.pair (.int .i64) (.int .i64))) noPhi),eff := fun _ => false,fuel := n.1,hold := n.2 }
noncomputable def kq69_1 : K69 := run (E69 n) (cB (cB (cB c69))) an69.snd.snd.snd rt69 (fun _ _ => none) rt69
noncomputable def xb69_3 : Nat → K69 := fun j s => bif Nat.beq j 0 then normC [0,3] s (kq69_1 n) else (fun _ _ => none) j s
noncomputable def F69_4 : (K69) → K69 := fun K s => run (E69 n) (cA (cA (cB (cA (cB (cB c69)))))) an69.snd.snd.fst.snd.fst.fst (fun s => normC [0,3,9,10,11] s K) (xb69_3 n) rt69 s
noncomputable def kq69_7 (m1 : Nat) : K69 := run (E69 n) (cB (cB (cB (cA (cA (cB (cA (cB (cB c69))))))))) an69.snd.snd.fst.snd.fst.fst.snd.snd.snd (fun s => normC [0,3,9,10,11] s (loopN (F69_4 n) m1)) (xb69_3 n) rt69
noncomputable def kq69_11 : K69 := run (E69 n) (cB (cB (cB (cB (cB c69))))) an69.snd.snd.snd.snd.snd rt69 (fun _ _ => none) rt69
noncomputable def xb69_13 : Nat → K69 := fun j s => bif Nat.beq j 2 then normC [6] s (kq69_11 n) else (fun _ _ => none) j s
noncomputable def F69_14 : (K69) → K69 := fun K s => run (E69 n) (cA (cA (cB (cA (cB (cB (cB (cB c69)))))))) an69.snd.snd.snd.snd.fst.snd.fst.fst (fun s => normC [6,25,26,27] s K) (xb69_13 n) rt69 s
noncomputable def L69_1 (m : Nat) (slices0 : List LP) (size3 : Int) (v9 : List LP) (v10 : Int) (v11 : Int) : Option R69 := loopN (F69_4 n) m { tm := [.c (.sl (.sl (.pair (.int .i64) (.int .i64))) slices0 false),uu,uu,.c (.int .i64 size3),uu,uu,uu,uu,uu,.c (.sl (.sl (.pair (.int .i64) (.int .i64))) v9 false),.c (.int .i64 v10),.c (.int .i64 v11),uu,uu,uu,uu,uu,uu,uu,uu,uu,uu,uu,uu,uu,uu,uu,uu,uu,uu,uu,uu,uu,uu,uu,uu],hp := emp }
noncomputable def L69_2 (m1 : Nat) (slices0 : List LP) (size3 : Int) (v9 : List LP) (v10 : Int) (v11 : Int) : Option R69 := loopN (fun _ => (kq69_7 n m1)) n.2 { tm := [.c (.sl (.sl (.pair (.int .i64) (.int .i64))) slices0 false),uu,uu,.c (.int .i64 size3),uu,uu,uu,uu,uu,.c (.sl (.sl (.pair (.int .i64) (.int .i64))) v9 false),.c (.int .i64 v10),.c (.int .i64 v11),uu,uu,uu,uu,uu,uu,uu,uu,uu,uu,uu,uu,uu,uu,uu,uu,uu,uu,uu,uu,uu,uu,uu,uu],hp := emp }
noncomputable def L69_3 (m : Nat) (v25 : List LP) (v26 : Int) (v27 : Int) (newslice6 : LP) : Option R69 := loopN (F69_14 n) m { tm := [uu,uu,uu,uu,uu,uu,.own 6 none false,uu,uu,uu,uu,uu,uu,uu,uu,uu,uu,uu,uu,uu,uu,uu,uu,uu,uu,.c (.sl (.sl (.pair (.int .i64) (.int .i64))) v25 false),.c (.int .i64 v26),.c (.int .i64 v27),uu,uu,uu,uu,uu,uu,uu,uu],hp := (upd emp 6 (.arr (.pair (.int .i64) (.int .i64)) newslice6 false)) }
theorem L69_1_eq (m1 : Nat) (slices0 : List LP) (size3 : Int) (v9 : List LP) (v10 : Int) (v11 : Int) : L69_1 n (m1 + 1) slices0 size3 v9 v10 v11 =
    (bif decide (v11 < v10) then (idx v9 v11).bind fun x1' =>
      (bif decide (wr .i64 (size3 + (x1'.length : Int)) < 0) then none
      else L69_2 n m1 slices0 (wr .i64 (size3 + (x1'.length : Int))) v9 v10 v11)
    else (bif decide (0 ≤ size3) && decide (size3 ≤ 1073741824) then L69_3 n n.1 slices0 (slices0.length : Int) 0 []
      else none)) := by kernel_rfl
theorem L69_2_raw (m1 : Nat) (slices0 : List LP) (size3 : Int) (v9 : List LP) (v10 : Int) (v11 : Int) : (kq69_7 n m1) { tm := [.c (.sl (.sl (.pair (.int .i64) (.int .i64))) slices0 false),uu,uu,.c (.int .i64 size3),uu,uu,uu,uu,uu,.c (.sl (.sl (.pair (.int .i64) (.int .i64))) v9 false),.c (.int .i64 v10),.c (.int .i64 v11),uu,uu,uu,uu,uu,uu,uu,uu,uu,uu,uu,uu,uu,uu,uu,uu,uu,uu,uu,uu,uu,uu,uu,uu],hp := emp } =
    L69_1 n m1 slices0 size3 v9 v10 (wr .i64 (v11 + 1)) := by kernel_rfl
theorem L69_3_eq (m1 : Nat) (v25 : List LP) (v26 : Int) (v27 : Int) (newslice6 : LP) : L69_3 n (m1 + 1) v25 v26 v27 newslice6 =
    (bif decide (v27 < v26) then (idx v25 v27).bind fun x2' =>
      (bif decide (newslice6.length + x2'.length ≤ lim) then L69_3 n m1 v25 v26 (wr .i64 (v27 + 1)) (newslice6 ++ x2')
      else none)
    else some newslice6) := by kernel_rfl
noncomputable def S69 (slices0 : List LP) : Option R69 := run (E69 n) c69 an69 rt69 (fun _ _ => none) rt69 { tm := [.c (.sl (.sl (.pair (.int .i64) (.int .i64))) slices0 false),uu,uu,uu,uu,uu,uu,uu,uu,uu,uu,uu,uu,uu,uu,uu,uu,uu,uu,uu,uu,uu,uu,uu,uu,uu,uu,uu,uu,uu,uu,uu,uu,uu,uu,uu],hp := emp }
theorem S69_eq (slices0 : List LP) : S69 n slices0 =
    L69_1 n n.1 slices0 0 slices0 (slices0.length : Int) 0 := by kernel_rfl
theorem S69_run (xs : pksDen pk69) : S69 n xs.1 = runG (E69 n) noScope c69 an69 (rtG rk69) (fun _ _ => none) (rtG rk69) (st0 pk69 xs Try.f69.ntmps) := by kernel_rfl
noncomputable def P69 := phiOf pk69 rk69 (fun xs => S69 n xs.1)
theorem call69 : CallOK Try.prog 69 := callOK_of Try.func69 (by kernel_rfl) (by kernel_rfl)
theorem env69 : EnvOK Try.prog (E69 n) := envOK0 (consPhi_ok grow97 gcall97 noPhi_ok) rfl rfl
theorem par69 : EnvPar (E69 n) := envPar0 (consPhi_par growF_Par1 noPhi_par) rfl
theorem FC69 : FCs Try.prog 69 (P69 n) := phiOf_FCs fun xs r h vs hv => FC.of_runG tabOK eqsOK (env69 n) (par69 n) mixed (fun _ => noScope_ok) Try.func69 (c := c69) (an := an69) (pks := pk69) (rks := rk69) (by kernel_rfl) (by kernel_rfl) hv ((S69_run n xs).symm.trans h)
end Go.Proofs.Ytombednapelokaa
