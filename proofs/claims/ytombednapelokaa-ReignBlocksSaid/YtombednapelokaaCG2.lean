/- The functions, step by step: written by program -/
import Derived.Test.YtombednapelokaaViS
import Derived.Test.YtombednapelokaaProg
import Derived.KernelRfl
import Derived.WalkKit
import Derived.Test.YtombednapelokaaDel
import Derived.Test.YtombednapelokaaGro
import Derived.Test.YtombednapelokaaCG1
set_option linter.unusedVariables false
set_option linter.unusedSimpArgs false
set_option maxRecDepth 100000
namespace Go.Proofs.Ytombednapelokaa
open Go.Vi
variable (n : Nat × Nat)
abbrev R106c86 := Int
abbrev K106c86 := St → Option R106c86
noncomputable def c106c86 : Code := bodyOf Try.f106
noncomputable def an106c86 : Ann := (.s .l (.s (.s .l (.j [] (.j [0,1,7,8] (.s .l (.s (.j [0,1,7,8] .l .l) (.s (.j [0,1,7,8] (.s .l (.s .l (.j [0,1,7,8] .l .l))) .l) .l))) .l) .l)) .l))
def pk106c86 : List PK := [.c (.sl (.pair (.int .i64) (.int .i64))),.f 86 []]
def rk106c86 : List RK := [.c (.int .i64) 4]
noncomputable def rt106c86 (st : St) : Option R106c86 := rtG rk106c86 st
noncomputable def E106c86 : Env := { T := tab,phi := (consPhi 86 (fun _ => true) (P86 n) noPhi),eff := fun _ => false,fuel := n.1,hold := n.2 }
noncomputable def kq106c86_1 : K106c86 := run (E106c86 n) (cB (cB c106c86)) an106c86.snd.snd rt106c86 (fun _ _ => none) rt106c86
noncomputable def xb106c86_3 : Nat → K106c86 := fun j s => bif Nat.beq j 0 then normC [] s (kq106c86_1 n) else (fun _ _ => none) j s
noncomputable def F106c86_4 : (K106c86) → K106c86 := fun K s => run (E106c86 n) (cA (cA (cB (cA (cB c106c86))))) an106c86.snd.fst.snd.fst.fst (fun s => normC [0,1,7,8] s K) (xb106c86_3 n) rt106c86 s
noncomputable def L106c86_1 (m : Nat) (s0 : LP) (v7 : Int) (v8 : Int) : Option R106c86 := loopN (F106c86_4 n) m { tm := [.c (.sl (.pair (.int .i64) (.int .i64)) s0 false),.fn 86 [],uu,uu,uu,uu,uu,.c (.int .i64 v7),.c (.int .i64 v8),uu,uu,uu,uu,uu,uu,uu,uu,uu,uu],hp := emp }
theorem L106c86_1_eq (m1 : Nat) (s0 : LP) (v7 : Int) (v8 : Int) : L106c86_1 n (m1 + 1) s0 v7 v8 =
    (bif decide (v8 < v7) then (idx s0 v8).bind fun x1' =>
      (S86 n x1').bind fun r2' =>
      (bif r2' then some v8
      else L106c86_1 n m1 s0 v7 (wr .i64 (v8 + 1)))
    else some (-1)) := by kernel_rfl
noncomputable def S106c86 (s0 : LP) : Option R106c86 := run (E106c86 n) c106c86 an106c86 rt106c86 (fun _ _ => none) rt106c86 { tm := [.c (.sl (.pair (.int .i64) (.int .i64)) s0 false),.fn 86 [],uu,uu,uu,uu,uu,uu,uu,uu,uu,uu,uu,uu,uu,uu,uu,uu,uu],hp := emp }
theorem S106c86_eq (s0 : LP) : S106c86 n s0 =
    L106c86_1 n n.1 s0 (s0.length : Int) 0 := by kernel_rfl
theorem S106c86_run (xs : pksDen pk106c86) : S106c86 n xs.1 = runG (E106c86 n) noScope c106c86 an106c86 (rtG rk106c86) (fun _ _ => none) (rtG rk106c86) (st0 pk106c86 xs Try.f106.ntmps) := by kernel_rfl
noncomputable def P106c86 := phiOf pk106c86 rk106c86 (fun xs => S106c86 n xs.1)
theorem call106 : CallOK Try.prog 106 := callOK_of Try.func106 (by kernel_rfl) (by kernel_rfl)
theorem env106c86 : EnvOK Try.prog (E106c86 n) := envOK0 (consPhi_ok (FC86 n) call86 noPhi_ok) rfl rfl
theorem par106c86 : EnvPar (E106c86 n) := envPar0 (consPhi_par phiOf_Par1 noPhi_par) rfl
theorem FC106c86 : FCs Try.prog 106 (P106c86 n) := phiOf_FCs fun xs r h vs hv => FC.of_runG tabOK eqsOK (env106c86 n) (par106c86 n) mixed (fun _ => noScope_ok) Try.func106 (c := c106c86) (an := an106c86) (pks := pk106c86) (rks := rk106c86) (by kernel_rfl) (by kernel_rfl) hv ((S106c86_run n xs).symm.trans h)
abbrev R85c86 := Bool
noncomputable def c85c86 : Code := bodyOf Try.f85
noncomputable def an85c86 : Ann := .l
def pk85c86 : List PK := [.c (.sl (.pair (.int .i64) (.int .i64))),.f 86 []]
def rk85c86 : List RK := [.c .bool 4]
noncomputable def rt85c86 (st : St) : Option R85c86 := rtG rk85c86 st
noncomputable def E85c86 : Env := { T := tab,phi := (consPhi 106 (isFns [none,some 86]) (P106c86 n) noPhi),eff := fun _ => false,fuel := n.1,hold := n.2 }
noncomputable def S85c86 (s0 : LP) : Option R85c86 := run (E85c86 n) c85c86 an85c86 rt85c86 (fun _ _ => none) rt85c86 { tm := [.c (.sl (.pair (.int .i64) (.int .i64)) s0 false),.fn 86 [],uu,uu,uu,uu,uu,uu,uu],hp := emp }
theorem S85c86_eq (s0 : LP) : S85c86 n s0 =
    (S106c86 n s0).bind fun r1' =>
    some (decide (r1' ≥ 0)) := by kernel_rfl
theorem S85c86_run (xs : pksDen pk85c86) : S85c86 n xs.1 = runG (E85c86 n) noScope c85c86 an85c86 (rtG rk85c86) (fun _ _ => none) (rtG rk85c86) (st0 pk85c86 xs Try.f85.ntmps) := by kernel_rfl
noncomputable def P85c86 := phiOf pk85c86 rk85c86 (fun xs => S85c86 n xs.1)
theorem call85 : CallOK Try.prog 85 := callOK_of Try.func85 (by kernel_rfl) (by kernel_rfl)
theorem env85c86 : EnvOK Try.prog (E85c86 n) := envOK0 (consPhi_ok (FC106c86 n) call106 noPhi_ok) rfl rfl
theorem par85c86 : EnvPar (E85c86 n) := envPar0 (consPhi_par phiOf_Par1 noPhi_par) rfl
theorem FC85c86 : FCs Try.prog 85 (P85c86 n) := phiOf_FCs fun xs r h vs hv => FC.of_runG tabOK eqsOK (env85c86 n) (par85c86 n) mixed (fun _ => noScope_ok) Try.func85 (c := c85c86) (an := an85c86) (pks := pk85c86) (rks := rk85c86) (by kernel_rfl) (by kernel_rfl) hv ((S85c86_run n xs).symm.trans h)
abbrev R87c88 := Bool
abbrev K87c88 := St → Option R87c88
noncomputable def c87c88 : Code := bodyOf Try.f87
noncomputable def an87c88 : Ann := (.s .l (.s (.s .l (.j [] (.j [0,1,5] (.s (.s .l (.j [0,1,5] .l .l)) (.s (.j [0,1,5] (.s .l (.j [0,1,5] .l .l)) .l) .l)) .l) .l)) .l))
def pk87c88 : List PK := [.c (.sl (.pair (.int .i64) (.int .i64))),.f 88 []]
def rk87c88 : List RK := [.c .bool 4]
noncomputable def rt87c88 (st : St) : Option R87c88 := rtG rk87c88 st
noncomputable def E87c88 : Env := { T := tab,phi := (consPhi 88 (fun _ => true) (P88 n) noPhi),eff := fun _ => false,fuel := n.1,hold := n.2 }
noncomputable def kq87c88_1 : K87c88 := run (E87c88 n) (cB (cB c87c88)) an87c88.snd.snd rt87c88 (fun _ _ => none) rt87c88
noncomputable def xb87c88_3 : Nat → K87c88 := fun j s => bif Nat.beq j 0 then normC [] s (kq87c88_1 n) else (fun _ _ => none) j s
noncomputable def F87c88_4 : (K87c88) → K87c88 := fun K s => run (E87c88 n) (cA (cA (cB (cA (cB c87c88))))) an87c88.snd.fst.snd.fst.fst (fun s => normC [0,1,5] s K) (xb87c88_3 n) rt87c88 s
noncomputable def L87c88_1 (m : Nat) (x0 : LP) (i5 : Int) : Option R87c88 := loopN (F87c88_4 n) m { tm := [.c (.sl (.pair (.int .i64) (.int .i64)) x0 false),.fn 88 [],uu,uu,uu,.c (.int .i64 i5),uu,uu,uu,uu,uu,uu,uu,uu,uu,uu,uu,uu,uu,uu,uu,uu,uu,uu,uu],hp := emp }
theorem L87c88_1_eq (m1 : Nat) (x0 : LP) (i5 : Int) : L87c88_1 n (m1 + 1) x0 i5 =
    (bif decide (i5 > 0) then (idx x0 i5).bind fun x1' =>
      (idx x0 (wr .i64 (i5 - 1))).bind fun x2' =>
      (S88 n x1' x2').bind fun r3' =>
      (bif decide (r3' < 0) then some false
      else L87c88_1 n m1 x0 (wr .i64 (i5 - 1)))
    else some true) := by kernel_rfl
noncomputable def S87c88 (x0 : LP) : Option R87c88 := run (E87c88 n) c87c88 an87c88 rt87c88 (fun _ _ => none) rt87c88 { tm := [.c (.sl (.pair (.int .i64) (.int .i64)) x0 false),.fn 88 [],uu,uu,uu,uu,uu,uu,uu,uu,uu,uu,uu,uu,uu,uu,uu,uu,uu,uu,uu,uu,uu,uu,uu],hp := emp }
theorem S87c88_eq (x0 : LP) : S87c88 n x0 =
    L87c88_1 n n.1 x0 (wr .i64 ((x0.length : Int) - 1)) := by kernel_rfl
theorem S87c88_run (xs : pksDen pk87c88) : S87c88 n xs.1 = runG (E87c88 n) noScope c87c88 an87c88 (rtG rk87c88) (fun _ _ => none) (rtG rk87c88) (st0 pk87c88 xs Try.f87.ntmps) := by kernel_rfl
noncomputable def P87c88 := phiOf pk87c88 rk87c88 (fun xs => S87c88 n xs.1)
theorem call87 : CallOK Try.prog 87 := callOK_of Try.func87 (by kernel_rfl) (by kernel_rfl)
theorem env87c88 : EnvOK Try.prog (E87c88 n) := envOK0 (consPhi_ok (FC88 n) call88 noPhi_ok) rfl rfl
theorem par87c88 : EnvPar (E87c88 n) := envPar0 (consPhi_par phiOf_Par1 noPhi_par) rfl
theorem FC87c88 : FCs Try.prog 87 (P87c88 n) := phiOf_FCs fun xs r h vs hv => FC.of_runG tabOK eqsOK (env87c88 n) (par87c88 n) mixed (fun _ => noScope_ok) Try.func87 (c := c87c88) (an := an87c88) (pks := pk87c88) (rks := rk87c88) (by kernel_rfl) (by kernel_rfl) hv ((S87c88_run n xs).symm.trans h)
abbrev R39 := Int
abbrev K39 := St → Option R39
noncomputable def c39 : Code := bodyOf Try.f39
noncomputable def an39 : Ann := (.s .l (.s .l (.s (.j [0,1,43,44,45,46,47,48,49,50,51,52,53,59,60,61,62,63,64] (.s .l (.j [0,1,43,44,45,46,47,48,49,50,51,52,53,59,60,61,62,63,64] .l (.s .l (.j [0,1,43,44,45,46,47,48,49,50,51,52,53,59,60,61,62,63,64] .l (.s .l (.j [0,1,43,44,45,46,47,48,49,50,51,52,53,59,60,61,62,63,64] .l (.s .l (.j [0,1,43,44,45,46,47,48,49,50,51,52,53,59,60,61,62,63,64] .l .l)))))))) .l) (.s (.s .l (.j [] (.j [0,1,30,31,32,43,44,45,46,47,48,49,50,51,52,53,59,60,61,62,63,64] (.s .l (.s (.j [0,1,30,31,32,43,44,45,46,47,48,49,50,51,52,53,59,60,61,62,63,64] .l .l) (.s (.j [0,1,30,31,32,43,44,45,46,47,48,49,50,51,52,53,59,60,61,62,63,64] (.s .l (.s .l (.s .l (.j [0,1,30,31,32,43,44,45,46,47,48,49,50,51,52,53,59,60,61,62,63,64] .l .l)))) .l) .l))) .l) .l)) .l))))
def pk39 : List PK := [.c (.sl (.pair (.int .i64) (.int .i64))),.c (.sl (.pair (.int .i64) (.int .i64)))]
def rk39 : List RK := [.c (.int .i64) 4]
noncomputable def rt39 (st : St) : Option R39 := rtG rk39 st
noncomputable def E39 : Env := { T := tab,phi := (consPhi 24 (fun _ => true) (P24 n) (consPhi 83 (fun _ => true) (P83 n) (consPhi 85 (isFns [none,some 86]) (P85c86 n) (consPhi 87 (isFns [none,some 88]) (P87c88 n) (consPhi 88 (fun _ => true) (P88 n) noPhi))))),eff := fun _ => false,fuel := n.1,hold := n.2 }
noncomputable def kq39_8 : K39 := run (E39 n) (cB (cB (cB (cB c39)))) an39.snd.snd.snd.snd rt39 (fun _ _ => none) rt39
noncomputable def xb39_10 : Nat → K39 := fun j s => bif Nat.beq j 1 then normC [] s (kq39_8 n) else (fun _ _ => none) j s
noncomputable def F39_11 : (K39) → K39 := fun K s => run (E39 n) (cA (cA (cB (cA (cB (cB (cB c39))))))) an39.snd.snd.snd.fst.snd.fst.fst (fun s => normC [0,1,30,31,32,43,44,45,46,47,48,49,50,51,52,53,59,60,61,62,63,64] s K) (xb39_10 n) rt39 s
noncomputable def L39_1 (m : Nat) (l0 : LP) (values1 : LP) (v31 : Int) (v32 : Int) (v30 : LP) : Option R39 := loopN (F39_11 n) m { tm := [.c (.sl (.pair (.int .i64) (.int .i64)) l0 false),.c (.sl (.pair (.int .i64) (.int .i64)) values1 false),uu,uu,uu,uu,uu,uu,uu,uu,uu,uu,uu,uu,uu,uu,uu,uu,uu,uu,uu,uu,uu,uu,uu,uu,uu,uu,uu,uu,.own 30 none false,.c (.int .i64 v31),.c (.int .i64 v32),uu,uu,uu,uu,uu,uu,uu,uu,uu,uu,uu,uu,uu,uu,uu,uu,uu,uu,uu,uu,uu,uu,uu,uu,uu,uu,uu,uu,uu,uu,uu,uu,uu,uu],hp := (upd emp 30 (.arr (.pair (.int .i64) (.int .i64)) v30 false)) }
theorem L39_1_eq (m1 : Nat) (l0 : LP) (values1 : LP) (v31 : Int) (v32 : Int) (v30 : LP) : L39_1 n (m1 + 1) l0 values1 v31 v32 v30 =
    (bif decide (v32 < v31) then (bif inB v32 v30.length then (idx v30 v32).bind fun x5' =>
        ((bif (((wr .i64 (v32 + 1)) == (l0.length : Int)) == false) then (idx values1 v32).bind fun x6' =>
            (idx values1 (wr .i64 (v32 + 1))).bind fun x7' =>
            (S88 n x6' x7').bind fun r8' =>
            some (decide (r8' < 0))
          else some true)).bind fun b9' =>
        ((bif (decide (x5'.1 < 0) == false) then ((bif (b9' == true) then some (decide (x5'.1 > 0))
              else some false)).bind fun b10' =>
            some b10'
          else some true)).bind fun b11' =>
        (bif b11' then some 14
        else L39_1 n m1 l0 values1 v31 (wr .i64 (v32 + 1)) v30)
      else none)
    else some 0) := by kernel_rfl
noncomputable def S39 (l0 : LP) (values1 : LP) : Option R39 := run (E39 n) c39 an39 rt39 (fun _ _ => none) rt39 { tm := [.c (.sl (.pair (.int .i64) (.int .i64)) l0 false),.c (.sl (.pair (.int .i64) (.int .i64)) values1 false),uu,uu,uu,uu,uu,uu,uu,uu,uu,uu,uu,uu,uu,uu,uu,uu,uu,uu,uu,uu,uu,uu,uu,uu,uu,uu,uu,uu,uu,uu,uu,uu,uu,uu,uu,uu,uu,uu,uu,uu,uu,uu,uu,uu,uu,uu,uu,uu,uu,uu,uu,uu,uu,uu,uu,uu,uu,uu,uu,uu,uu,uu,uu,uu,uu],hp := emp }
theorem S39_eq (l0 : LP) (values1 : LP) : S39 n l0 values1 =
    (S24 n l0).bind fun r1' =>
    (bif (r1' != 0) then some r1'
    else (bif ((values1.length : Int) != (l0.length : Int)) then some 5
      else (S85c86 n values1).bind fun r2' =>
        (bif r2' then some 1
        else (S87c88 n values1).bind fun r3' =>
          (bif (!r3') then some 7
          else (S83 n l0 values1).bind fun r4' =>
            L39_1 n n.1 l0 values1 (r4'.length : Int) 0 r4')))) := by kernel_rfl
theorem S39_run (xs : pksDen pk39) : S39 n xs.1 xs.2.1 = runG (E39 n) noScope c39 an39 (rtG rk39) (fun _ _ => none) (rtG rk39) (st0 pk39 xs Try.f39.ntmps) := by kernel_rfl
noncomputable def P39 := phiOf pk39 rk39 (fun xs => S39 n xs.1 xs.2.1)
theorem call39 : CallOK Try.prog 39 := callOK_of Try.func39 (by kernel_rfl) (by kernel_rfl)
theorem env39 : EnvOK Try.prog (E39 n) := envOK0 (consPhi_ok (FC24 n) call24 (consPhi_ok (FC83 n) call83 (consPhi_ok (FC85c86 n) call85 (consPhi_ok (FC87c88 n) call87 (consPhi_ok (FC88 n) call88 noPhi_ok))))) rfl rfl
theorem par39 : EnvPar (E39 n) := envPar0 (consPhi_par phiOf_Par1 (consPhi_par phiOf_Par1 (consPhi_par phiOf_Par1 (consPhi_par phiOf_Par1 (consPhi_par phiOf_Par1 noPhi_par))))) rfl
theorem FC39 : FCs Try.prog 39 (P39 n) := phiOf_FCs fun xs r h vs hv => FC.of_runG tabOK eqsOK (env39 n) (par39 n) mixed (fun _ => noScope_ok) Try.func39 (c := c39) (an := an39) (pks := pk39) (rks := rk39) (by kernel_rfl) (by kernel_rfl) hv ((S39_run n xs).symm.trans h)
abbrev R18 := Bool
noncomputable def c18 : Code := bodyOf Try.f18
noncomputable def an18 : Ann := (.s .l (.s .l (.s .l (.s .l (.s .l (.s .l (.s .l (.s .l (.s (.s .l (.j [1,3,5,7,9,11,13,108,109,112,113,116,117,120,121,122,123,126,127,128,131,132,133,136,137,140,141,142,145,146,147,150,151,152,155,156,157,158,161,162,163,164,167,168,169,170,173,174,175,176,177,180,181,182,183,184,187,188,189,190,191] .l .l)) .l)))))))))
def pk18 : List PK := []
def rk18 : List RK := [.c .bool 0]
noncomputable def rt18 (st : St) : Option R18 := rtG rk18 st
noncomputable def E18 : Env := { T := tab,phi := (consPhi 20 (fun _ => true) (P20 n) (consPhi 22 (fun _ => true) (P22 n) (consPhi 26 (fun _ => true) (P26 n) (consPhi 28 (fun _ => true) (P28 n) (consPhi 30 (fun _ => true) (P30 n) (consPhi 32 (fun _ => true) (P32 n) (consPhi 35 (fun _ => true) (P35 n) (consPhi 37 (fun _ => true) (P37 n) (consPhi 39 (fun _ => true) (P39 n) (consPhi 42 (fun _ => true) (P42 n) (consPhi 44 (fun _ => true) (P44 n) (consPhi 46 (fun _ => true) (P46 n) (consPhi 51 (fun _ => true) (P51 n) (consPhi 52 (fun _ => true) (P52 n) (consPhi 54 (fun _ => true) (P54 n) (consPhi 55 (fun _ => true) (P55 n) (consPhi 56 (fun _ => true) (P56 n) (consPhi 57 (fun _ => true) (P57 n) (consPhi 58 (fun _ => true) (P58 n) noPhi))))))))))))))))))),eff := fun g => Nat.beq g 30,fuel := n.1,hold := n.2 }
noncomputable def S18 : Option R18 := run (E18 n) c18 an18 rt18 (fun _ _ => none) rt18 { tm := [uu,uu,uu,uu,uu,uu,uu,uu,uu,uu,uu,uu,uu,uu,uu,uu,uu,uu,uu,uu,uu,uu,uu,uu,uu,uu,uu,uu,uu,uu,uu,uu,uu,uu,uu,uu,uu,uu,uu,uu,uu,uu,uu,uu,uu,uu,uu,uu,uu,uu,uu,uu,uu,uu,uu,uu,uu,uu,uu,uu,uu,uu,uu,uu,uu,uu,uu,uu,uu,uu,uu,uu,uu,uu,uu,uu,uu,uu,uu,uu,uu,uu,uu,uu,uu,uu,uu,uu,uu,uu,uu,uu,uu,uu,uu,uu,uu,uu,uu,uu,uu,uu,uu,uu,uu,uu,uu,uu,uu,uu,uu,uu,uu,uu,uu,uu,uu,uu,uu,uu,uu,uu,uu,uu,uu,uu,uu,uu,uu,uu,uu,uu,uu,uu,uu,uu,uu,uu,uu,uu,uu,uu,uu,uu,uu,uu,uu,uu,uu,uu,uu,uu,uu,uu,uu,uu,uu,uu,uu,uu,uu,uu,uu,uu,uu,uu,uu,uu,uu,uu,uu,uu,uu,uu,uu,uu,uu,uu,uu,uu,uu,uu,uu,uu,uu,uu,uu,uu,uu,uu,uu,uu,uu],hp := emp }
theorem S18_eq : S18 n =
    (S56 n).bind fun r1' =>
    (S30 n r1').bind fun r2' =>
    (S56 n).bind fun r3' =>
    (S32 n r3').bind fun r4' =>
    (S54 n).bind fun r5' =>
    (S35 n r5').bind fun r6' =>
    (S54 n).bind fun r7' =>
    (S20 n r7').bind fun r8' =>
    (S56 n).bind fun r9' =>
    (S22 n r9' 0 4).bind fun r10' =>
    (S56 n).bind fun r11' =>
    (S26 n r11' 3).bind fun r12' =>
    (S56 n).bind fun r13' =>
    (S28 n r13' 0).bind fun r14' =>
    ((bif ((r2'.2 != 0) == false) then some (r4'.2 != 0)
      else some true)).bind fun b15' =>
    ((bif (b15' == false) then some (r6'.2 != 0)
      else some true)).bind fun b16' =>
    ((bif (b16' == false) then some (r8'.2 != 0)
      else some true)).bind fun b17' =>
    ((bif (b17' == false) then some (r10'.2 != 0)
      else some true)).bind fun b18' =>
    ((bif (b18' == false) then some (r12'.2 != 0)
      else some true)).bind fun b19' =>
    ((bif (b19' == false) then some (r14'.2 != 0)
      else some true)).bind fun b20' =>
    (bif b20' then some false
    else (S56 n).bind fun r21' =>
      (S37 n r21').bind fun r22' =>
      (S56 n).bind fun r23' =>
      (S42 n r23' 0 2).bind fun r24' =>
      (S56 n).bind fun r25' =>
      (S44 n r25').bind fun r26' =>
      (S55 n).bind fun r27' =>
      (S20 n r27').bind fun r28' =>
      (S52 n 2 1).bind fun r29' =>
      (S52 n 3 1).bind fun r30' =>
      ((bif ((r22'.2 == 0) == true) then some (r24'.2 == 0)
        else some false)).bind fun b31' =>
      ((bif (b31' == true) then some (r26'.2 == 0)
        else some false)).bind fun b32' =>
      ((bif (b32' == true) then some (r28'.2 == 13)
        else some false)).bind fun b33' =>
      ((bif (b33' == true) then (S57 n [2,2,3,3]).bind fun r34' =>
          (S51 n r2'.1 r34').bind fun r35' =>
          some r35'
        else some false)).bind fun b36' =>
      ((bif (b36' == true) then (S58 n r4'.1 [(0,2,r29'),(2,4,r30')]).bind fun r37' =>
          some r37'
        else some false)).bind fun b38' =>
      ((bif (b38' == true) then (S52 n 2 1).bind fun r39' =>
          some ((r6'.1.1 == r39'.1) && ((r6'.1.2 == r39'.2) && true))
        else some false)).bind fun b40' =>
      ((bif (b40' == true) then some (r8'.1 == 0)
        else some false)).bind fun b41' =>
      ((bif (b41' == true) then (S52 n 5 2).bind fun r42' =>
          some ((r10'.1.1 == r42'.1) && ((r10'.1.2 == r42'.2) && true))
        else some false)).bind fun b43' =>
      ((bif (b43' == true) then (S52 n 3 1).bind fun r44' =>
          some ((r12'.1.1 == r44'.1) && ((r12'.1.2 == r44'.2) && true))
        else some false)).bind fun b45' =>
      ((bif (b45' == true) then (S52 n 2 1).bind fun r46' =>
          some ((r14'.1.1 == r46'.1) && ((r14'.1.2 == r46'.2) && true))
        else some false)).bind fun b47' =>
      ((bif (b47' == true) then (S57 n [3,0,2,0]).bind fun r48' =>
          (S51 n r22'.1 r48').bind fun r49' =>
          some r49'
        else some false)).bind fun b50' =>
      ((bif (b50' == true) then (S57 n [2,2,2,2]).bind fun r51' =>
          (S51 n r24'.1 r51').bind fun r52' =>
          some r52'
        else some false)).bind fun b53' =>
      ((bif (b53' == true) then (S46 n r26'.1 [0,2]).bind fun r54' =>
          some r54'
        else some false)).bind fun b55' =>
      ((bif (b55' == true) then (S54 n).bind fun r56' =>
          (S57 n [2,2,2]).bind fun r57' =>
          (S39 n r56' r57').bind fun r58' =>
          some (r58' == 0)
        else some false)).bind fun b59' =>
      ((bif (b59' == true) then (S54 n).bind fun r60' =>
          (S57 n [1,1,2]).bind fun r61' =>
          (S39 n r60' r61').bind fun r62' =>
          some (r62' == 14)
        else some false)).bind fun b63' =>
      ((bif (b63' == true) then (S54 n).bind fun r64' =>
          (S57 n [2,1,3]).bind fun r65' =>
          (S39 n r64' r65').bind fun r66' =>
          some (r66' == 7)
        else some false)).bind fun b67' =>
      some b67') := by kernel_rfl
theorem S18_run (xs : pksDen pk18) : S18 n = runG (E18 n) noScope c18 an18 (rtG rk18) (fun _ _ => none) (rtG rk18) (st0 pk18 xs Try.f18.ntmps) := by kernel_rfl
noncomputable def P18 := phiOf pk18 rk18 (fun xs => S18 n)
theorem call18 : CallOK Try.prog 18 := callOK_of Try.func18 (by kernel_rfl) (by kernel_rfl)
theorem env18 : EnvOK Try.prog (E18 n) := envOK0 (consPhi_ok (FC20 n) call20 (consPhi_ok (FC22 n) call22 (consPhi_ok (FC26 n) call26 (consPhi_ok (FC28 n) call28 (consPhi_ok (FC30 n) call30 (consPhi_ok (FC32 n) call32 (consPhi_ok (FC35 n) call35 (consPhi_ok (FC37 n) call37 (consPhi_ok (FC39 n) call39 (consPhi_ok (FC42 n) call42 (consPhi_ok (FC44 n) call44 (consPhi_ok (FC46 n) call46 (consPhi_ok (FC51 n) call51 (consPhi_ok (FC52 n) call52 (consPhi_ok (FC54 n) call54 (consPhi_ok (FC55 n) call55 (consPhi_ok (FC56 n) call56 (consPhi_ok (FC57 n) call57 (consPhi_ok (FC58 n) call58 noPhi_ok))))))))))))))))))) rfl rfl
theorem par18 : EnvPar (E18 n) := envPar0 (consPhi_par phiOf_Par1 (consPhi_par phiOf_Par1 (consPhi_par phiOf_Par1 (consPhi_par phiOf_Par1 (consPhi_par phiOf_Par1 (consPhi_par phiOf_Par1 (consPhi_par phiOf_Par1 (consPhi_par phiOf_Par1 (consPhi_par phiOf_Par1 (consPhi_par phiOf_Par1 (consPhi_par phiOf_Par1 (consPhi_par phiOf_Par1 (consPhi_par phiOf_Par1 (consPhi_par phiOf_Par1 (consPhi_par phiOf_Par1 (consPhi_par phiOf_Par1 (consPhi_par phiOf_Par1 (consPhi_par phiOf_Par1 (consPhi_par phiOf_Par1 noPhi_par))))))))))))))))))) rfl
theorem FC18 : FCs Try.prog 18 (P18 n) := phiOf_FCs fun xs r h vs hv => FC.of_runG tabOK eqsOK (env18 n) (par18 n) mixed (fun _ => noScope_ok) Try.func18 (c := c18) (an := an18) (pks := pk18) (rks := rk18) (by kernel_rfl) (by kernel_rfl) hv ((S18_run n xs).symm.trans h)
abbrev R47 := LP
abbrev K47 := St → Option R47
noncomputable def c47 : Code := bodyOf Try.f47
noncomputable def an47 : Ann := (.s .l (.s .l (.s (.s .l (.j [7] (.j [2,3,7,14,15] (.s .l (.s (.j [2,3,7,14,15] .l .l) (.s (.j [2,3,7,14,15] .l .l) .l))) .l) .l)) .l)))
def pk47 : List PK := [.c (.pair (.int .u8) (.pair (.pair (.int .u8) (.pair (.int .u8) (.pair (.int .u8) (.pair (.int .u8) (.pair (.int .u8) (.pair (.int .u8) (.pair (.int .u8) (.int .u8)))))))) (.pair (.int .u8) (.pair (.int .u8) (.pair (.int .u8) (.pair (.int .u8) (.pair (.int .u8) (.pair (.int .u8) (.pair (.int .u8) (.int .u8)))))))))),.c (.int .i64),.c (.int .i64)]
def rk47 : List RK := [.sl (.pair (.int .i64) (.int .i64)) 6]
noncomputable def rt47 (st : St) : Option R47 := rtG rk47 st
noncomputable def E47 : Env := { T := tab,phi := noPhi,eff := fun _ => false,fuel := n.1,hold := n.2 }
noncomputable def kq47_1 : K47 := run (E47 n) (cB (cB (cB c47))) an47.snd.snd.snd rt47 (fun _ _ => none) rt47
noncomputable def xb47_3 : Nat → K47 := fun j s => bif Nat.beq j 0 then normC [7] s (kq47_1 n) else (fun _ _ => none) j s
noncomputable def F47_4 : (K47) → K47 := fun K s => run (E47 n) (cA (cA (cB (cA (cB (cB c47)))))) an47.snd.snd.fst.snd.fst.fst (fun s => normC [2,3,7,14,15] s K) (xb47_3 n) rt47 s
noncomputable def L47_1 (m : Nat) (year2 : Int) (v14 : Int) (v15 : Int) (a3_0 : Int) (a3_1 : Int) (a3_2 : Int) (a3_3 : Int) (a3_4 : Int) (a3_5 : Int) (a3_6 : Int) (a3_7 : Int) (a3_8 : Int) (a3_9 : Int) (a3_10 : Int) (a3_11 : Int) (a3_12 : Int) (a3_13 : Int) (a3_14 : Int) (a3_15 : Int) (a3_16 : Int) (out7 : LP) : Option R47 := loopN (F47_4 n) m { tm := [uu,uu,.c (.int .i64 year2),.ptr 3 0,uu,uu,uu,.own 7 none false,uu,uu,uu,uu,uu,uu,.c (.int .i64 v14),.c (.int .i64 v15),uu,uu,uu,uu,uu,uu,uu,uu,uu,uu,uu,uu,uu,uu,uu,uu,uu,uu,uu,uu,uu,uu,uu],hp := (upd (upd emp 7 (.arr (.pair (.int .i64) (.int .i64)) out7 true)) 3 (.box [.int .u8 a3_0,.int .u8 a3_1,.int .u8 a3_2,.int .u8 a3_3,.int .u8 a3_4,.int .u8 a3_5,.int .u8 a3_6,.int .u8 a3_7,.int .u8 a3_8,.int .u8 a3_9,.int .u8 a3_10,.int .u8 a3_11,.int .u8 a3_12,.int .u8 a3_13,.int .u8 a3_14,.int .u8 a3_15,.int .u8 a3_16])) }
theorem L47_1_eq (m1 : Nat) (year2 : Int) (v14 : Int) (v15 : Int) (a3_0 : Int) (a3_1 : Int) (a3_2 : Int) (a3_3 : Int) (a3_4 : Int) (a3_5 : Int) (a3_6 : Int) (a3_7 : Int) (a3_8 : Int) (a3_9 : Int) (a3_10 : Int) (a3_11 : Int) (a3_12 : Int) (a3_13 : Int) (a3_14 : Int) (a3_15 : Int) (a3_16 : Int) (out7 : LP) : L47_1 n (m1 + 1) year2 v14 v15 a3_0 a3_1 a3_2 a3_3 a3_4 a3_5 a3_6 a3_7 a3_8 a3_9 a3_10 a3_11 a3_12 a3_13 a3_14 a3_15 a3_16 out7 =
    (bif decide (v15 < v14) then (bif inB v15 8 then (idx [a3_1,a3_2,a3_3,a3_4,a3_5,a3_6,a3_7,a3_8] v15).bind fun x1' =>
        (bif (wr .i64 (year2 + 1)) == 0 then none
        else (bif inB v15 8 then (idx [a3_9,a3_10,a3_11,a3_12,a3_13,a3_14,a3_15,a3_16] v15).bind fun x2' =>
            (bif 9 == 0 then none
            else (bif decide (out7.length + [(Int.tmod (wr .i64 x1') (wr .i64 (year2 + 1)),wr .i64 (1 + (Int.tmod (wr .i64 x2') 9)))].length ≤ lim) then L47_1 n m1 year2 v14 (wr .i64 (v15 + 1)) a3_0 a3_1 a3_2 a3_3 a3_4 a3_5 a3_6 a3_7 a3_8 a3_9 a3_10 a3_11 a3_12 a3_13 a3_14 a3_15 a3_16 (out7 ++ [(Int.tmod (wr .i64 x1') (wr .i64 (year2 + 1)),wr .i64 (1 + (Int.tmod (wr .i64 x2') 9)))])
              else none))
          else none))
      else none)
    else some out7) := by kernel_rfl
noncomputable def S47 (a0 : Int × (Int × Int × Int × Int × Int × Int × Int × Int) × Int × Int × Int × Int × Int × Int × Int × Int) (many1 : Int) (year2 : Int) : Option R47 := run (E47 n) c47 an47 rt47 (fun _ _ => none) rt47 { tm := [.agg [.int .u8 a0.1,.int .u8 a0.2.1.1,.int .u8 a0.2.1.2.1,.int .u8 a0.2.1.2.2.1,.int .u8 a0.2.1.2.2.2.1,.int .u8 a0.2.1.2.2.2.2.1,.int .u8 a0.2.1.2.2.2.2.2.1,.int .u8 a0.2.1.2.2.2.2.2.2.1,.int .u8 a0.2.1.2.2.2.2.2.2.2,.int .u8 a0.2.2.1,.int .u8 a0.2.2.2.1,.int .u8 a0.2.2.2.2.1,.int .u8 a0.2.2.2.2.2.1,.int .u8 a0.2.2.2.2.2.2.1,.int .u8 a0.2.2.2.2.2.2.2.1,.int .u8 a0.2.2.2.2.2.2.2.2.1,.int .u8 a0.2.2.2.2.2.2.2.2.2],.c (.int .i64 many1),.c (.int .i64 year2),uu,uu,uu,uu,uu,uu,uu,uu,uu,uu,uu,uu,uu,uu,uu,uu,uu,uu,uu,uu,uu,uu,uu,uu,uu,uu,uu,uu,uu,uu,uu,uu,uu,uu,uu,uu],hp := emp }
theorem S47_eq (a0 : Int × (Int × Int × Int × Int × Int × Int × Int × Int) × Int × Int × Int × Int × Int × Int × Int × Int) (many1 : Int) (year2 : Int) : S47 n a0 many1 year2 =
    (bif many1 == 0 then none
    else L47_1 n n.1 year2 (wr .i64 (1 + (Int.tmod (wr .i64 a0.1) many1))) 0 a0.1 a0.2.1.1 a0.2.1.2.1 a0.2.1.2.2.1 a0.2.1.2.2.2.1 a0.2.1.2.2.2.2.1 a0.2.1.2.2.2.2.2.1 a0.2.1.2.2.2.2.2.2.1 a0.2.1.2.2.2.2.2.2.2 a0.2.2.1 a0.2.2.2.1 a0.2.2.2.2.1 a0.2.2.2.2.2.1 a0.2.2.2.2.2.2.1 a0.2.2.2.2.2.2.2.1 a0.2.2.2.2.2.2.2.2.1 a0.2.2.2.2.2.2.2.2.2 []) := by kernel_rfl
theorem S47_run (xs : pksDen pk47) : S47 n xs.1 xs.2.1 xs.2.2.1 = runG (E47 n) noScope c47 an47 (rtG rk47) (fun _ _ => none) (rtG rk47) (st0 pk47 xs Try.f47.ntmps) := by kernel_rfl
noncomputable def P47 := phiOf pk47 rk47 (fun xs => S47 n xs.1 xs.2.1 xs.2.2.1)
theorem call47 : CallOK Try.prog 47 := callOK_of Try.func47 (by kernel_rfl) (by kernel_rfl)
theorem env47 : EnvOK Try.prog (E47 n) := envOK0 noPhi_ok rfl rfl
theorem par47 : EnvPar (E47 n) := envPar0 noPhi_par rfl
theorem FC47 : FCs Try.prog 47 (P47 n) := phiOf_FCs fun xs r h vs hv => FC.of_runG tabOK eqsOK (env47 n) (par47 n) mixed (fun _ => noScope_ok) Try.func47 (c := c47) (an := an47) (pks := pk47) (rks := rk47) (by kernel_rfl) (by kernel_rfl) hv ((S47_run n xs).symm.trans h)
end Go.Proofs.Ytombednapelokaa
