/- The functions, step by step: written by program -/
import Derived.Test.YtombednapelokaaViS
import Derived.Test.YtombednapelokaaProg
import Derived.KernelRfl
import Derived.WalkKit
import Derived.Test.YtombednapelokaaDel
import Derived.Test.YtombednapelokaaCG1
set_option linter.unusedVariables false
set_option linter.unusedSimpArgs false
set_option maxRecDepth 100000
namespace Go.Proofs.Ytombednapelokaa
open Go.Vi
variable (n : Nat × Nat)

abbrev R106c86 := Int
abbrev K106c86 := St → Option R106c86
noncomputable def c106c86 : Code := bodyOf Try.f106
noncomputable def an106c86 : Ann := (.s .l (.s (.s .l (.j [] (.j [0,1,7,8] (.s .l (.s (.j [0,1,7,8] .l .l) (.s (.j [0,1,7,8] (.s .l (.s .l (.j [0,1,7,8] .l .l))) .l) .l))) .l) .l)) .l))
def pk106c86 : List PK := [.c (.sl (.pair (.int .i64) (.int .i64))),.f 86 []]
def rk106c86 : List RK := [.c (.int .i64) 4]
noncomputable def rt106c86 (st : St) : Option R106c86 := rtG rk106c86 st
noncomputable def E106c86 : Env := { T := tab,phi := (consPhi 86 (fun _ => true) (P86 n) noPhi),eff := fun _ => false,fuel := n.1,hold := n.2 }
noncomputable def kq106c86_1 : K106c86 := run (E106c86 n) (cB (cB c106c86)) an106c86.snd.snd rt106c86 (fun _ _ => none) rt106c86
noncomputable def kc106c86_2 : K106c86 := fun s => normC [] s (kq106c86_1 n)
noncomputable def xb106c86_3 : Nat → K106c86 := fun j s => bif Nat.beq j 0 then normC [] s (kq106c86_1 n) else (fun _ _ => none) j s
noncomputable def F106c86_4 : (K106c86) → K106c86 := fun K s => run (E106c86 n) (cA (cA (cB (cA (cB c106c86))))) an106c86.snd.fst.snd.fst.fst (fun s => normC [0,1,7,8] s K) (xb106c86_3 n) rt106c86 s
noncomputable def kq106c86_5 (m1 : Nat) : K106c86 := run (E106c86 n) (cB (cB (cA (cA (cB (cA (cB c106c86))))))) an106c86.snd.fst.snd.fst.fst.snd.snd (fun s => normC [0,1,7,8] s (loopN (F106c86_4 n) m1)) (xb106c86_3 n) rt106c86
noncomputable def kc106c86_6 (m1 : Nat) : K106c86 := fun s => normC [0,1,7,8] s (kq106c86_5 n m1)
noncomputable def kq106c86_7 (m1 : Nat) : K106c86 := run (E106c86 n) (cB (cB (cB (cA (cA (cB (cA (cB c106c86)))))))) an106c86.snd.fst.snd.fst.fst.snd.snd.snd (fun s => normC [0,1,7,8] s (loopN (F106c86_4 n) m1)) (xb106c86_3 n) rt106c86
noncomputable def kc106c86_8 (m1 : Nat) : K106c86 := fun s => normC [0,1,7,8] s (kq106c86_7 n m1)
noncomputable def xb106c86_9 (m1 : Nat) : Nat → K106c86 := fun j s => bif Nat.beq j 1 then normC [0,1,7,8] s (kq106c86_7 n m1) else (xb106c86_3 n) j s
noncomputable def kc106c86_10 (m1 : Nat) : K106c86 := fun s => normC [0,1,7,8] s (kc106c86_8 n m1)
noncomputable def L106c86_1 (m : Nat) (s0 : LP) (v7 : Int) (v8 : Int) : Option R106c86 := loopN (F106c86_4 n) m { tm := [.c (.sl (.pair (.int .i64) (.int .i64)) s0 false),.fn 86 [],uu,uu,uu,uu,uu,.c (.int .i64 v7),.c (.int .i64 v8),uu,uu,uu,uu,uu,uu,uu,uu,uu,uu],hp := emp }
theorem L106c86_1_eq (m1 : Nat) (s0 : LP) (v7 : Int) (v8 : Int) : L106c86_1 n (m1 + 1) s0 v7 v8 =
    (bif decide (v8 < v7) then (idx s0 v8).bind fun x1' =>
      (S86 n x1').bind fun r2' =>
      (bif r2' then some v8
      else L106c86_1 n m1 s0 v7 (wr .i64 (v8 + 1)))
    else some (-1)) := by kernel_rfl
noncomputable def S106c86 (s0 : LP) : Option R106c86 := run (E106c86 n) c106c86 an106c86 rt106c86 (fun _ _ => none) rt106c86 { tm := [.c (.sl (.pair (.int .i64) (.int .i64)) s0 false),.fn 86 [],uu,uu,uu,uu,uu,uu,uu,uu,uu,uu,uu,uu,uu,uu,uu,uu,uu],hp := emp }
theorem S106c86_eq (s0 : LP) : S106c86 n s0 =
    L106c86_1 n n.1 s0 (s0.length : Int) 0 := by kernel_rfl
theorem S106c86_run (xs : pksDen pk106c86) : S106c86 n xs.1 = runG (E106c86 n) noScope c106c86 an106c86 (rtG rk106c86) (fun _ _ => none) (rtG rk106c86) (st0 pk106c86 xs Try.f106.ntmps) := by kernel_rfl
noncomputable def P106c86 := phiOf pk106c86 rk106c86 (fun xs => S106c86 n xs.1)
theorem call106 : CallOK Try.prog 106 := callOK_of Try.func106 (by kernel_rfl) (by kernel_rfl)
theorem env106c86 : EnvOK Try.prog (E106c86 n) := envOK0 (consPhi_ok (FC86 n) call86 noPhi_ok) rfl rfl
theorem par106c86 : EnvPar (E106c86 n) := envPar0 (consPhi_par phiOf_Par1 noPhi_par) rfl
theorem FC106c86 : FCs Try.prog 106 (P106c86 n) := phiOf_FCs fun xs r h vs hv => FC.of_runG tabOK eqsOK (env106c86 n) (par106c86 n) mixed (fun _ => noScope_ok) Try.func106 (c := c106c86) (an := an106c86) (pks := pk106c86) (rks := rk106c86) (by kernel_rfl) (by kernel_rfl) hv ((S106c86_run n xs).symm.trans h)
abbrev R85c86 := Bool
abbrev K85c86 := St → Option R85c86
noncomputable def c85c86 : Code := bodyOf Try.f85
noncomputable def an85c86 : Ann := .l
def pk85c86 : List PK := [.c (.sl (.pair (.int .i64) (.int .i64))),.f 86 []]
def rk85c86 : List RK := [.c .bool 4]
noncomputable def rt85c86 (st : St) : Option R85c86 := rtG rk85c86 st
noncomputable def E85c86 : Env := { T := tab,phi := (consPhi 106 (isFns [none,some 86]) (P106c86 n) noPhi),eff := fun _ => false,fuel := n.1,hold := n.2 }
noncomputable def S85c86 (s0 : LP) : Option R85c86 := run (E85c86 n) c85c86 an85c86 rt85c86 (fun _ _ => none) rt85c86 { tm := [.c (.sl (.pair (.int .i64) (.int .i64)) s0 false),.fn 86 [],uu,uu,uu,uu,uu,uu,uu],hp := emp }
theorem S85c86_eq (s0 : LP) : S85c86 n s0 =
    (S106c86 n s0).bind fun r1' =>
    some (decide (r1' ≥ 0)) := by kernel_rfl
theorem S85c86_run (xs : pksDen pk85c86) : S85c86 n xs.1 = runG (E85c86 n) noScope c85c86 an85c86 (rtG rk85c86) (fun _ _ => none) (rtG rk85c86) (st0 pk85c86 xs Try.f85.ntmps) := by kernel_rfl
noncomputable def P85c86 := phiOf pk85c86 rk85c86 (fun xs => S85c86 n xs.1)
theorem call85 : CallOK Try.prog 85 := callOK_of Try.func85 (by kernel_rfl) (by kernel_rfl)
theorem env85c86 : EnvOK Try.prog (E85c86 n) := envOK0 (consPhi_ok (FC106c86 n) call106 noPhi_ok) rfl rfl
theorem par85c86 : EnvPar (E85c86 n) := envPar0 (consPhi_par phiOf_Par1 noPhi_par) rfl
theorem FC85c86 : FCs Try.prog 85 (P85c86 n) := phiOf_FCs fun xs r h vs hv => FC.of_runG tabOK eqsOK (env85c86 n) (par85c86 n) mixed (fun _ => noScope_ok) Try.func85 (c := c85c86) (an := an85c86) (pks := pk85c86) (rks := rk85c86) (by kernel_rfl) (by kernel_rfl) hv ((S85c86_run n xs).symm.trans h)
abbrev R87c88 := Bool
abbrev K87c88 := St → Option R87c88
noncomputable def c87c88 : Code := bodyOf Try.f87
noncomputable def an87c88 : Ann := (.s .l (.s (.s .l (.j [] (.j [0,1,5] (.s (.s .l (.j [0,1,5] .l .l)) (.s (.j [0,1,5] (.s .l (.j [0,1,5] .l .l)) .l) .l)) .l) .l)) .l))
def pk87c88 : List PK := [.c (.sl (.pair (.int .i64) (.int .i64))),.f 88 []]
def rk87c88 : List RK := [.c .bool 4]
noncomputable def rt87c88 (st : St) : Option R87c88 := rtG rk87c88 st
noncomputable def E87c88 : Env := { T := tab,phi := (consPhi 88 (fun _ => true) (P88 n) noPhi),eff := fun _ => false,fuel := n.1,hold := n.2 }
noncomputable def kq87c88_1 : K87c88 := run (E87c88 n) (cB (cB c87c88)) an87c88.snd.snd rt87c88 (fun _ _ => none) rt87c88
noncomputable def kc87c88_2 : K87c88 := fun s => normC [] s (kq87c88_1 n)
noncomputable def xb87c88_3 : Nat → K87c88 := fun j s => bif Nat.beq j 0 then normC [] s (kq87c88_1 n) else (fun _ _ => none) j s
noncomputable def F87c88_4 : (K87c88) → K87c88 := fun K s => run (E87c88 n) (cA (cA (cB (cA (cB c87c88))))) an87c88.snd.fst.snd.fst.fst (fun s => normC [0,1,5] s K) (xb87c88_3 n) rt87c88 s
noncomputable def kq87c88_5 (m1 : Nat) : K87c88 := run (E87c88 n) (cB (cA (cA (cB (cA (cB c87c88)))))) an87c88.snd.fst.snd.fst.fst.snd (fun s => normC [0,1,5] s (loopN (F87c88_4 n) m1)) (xb87c88_3 n) rt87c88
noncomputable def kc87c88_6 (m1 : Nat) : K87c88 := fun s => normC [0,1,5] s (kq87c88_5 n m1)
noncomputable def kq87c88_7 (m1 : Nat) : K87c88 := run (E87c88 n) (cB (cB (cA (cA (cB (cA (cB c87c88))))))) an87c88.snd.fst.snd.fst.fst.snd.snd (fun s => normC [0,1,5] s (loopN (F87c88_4 n) m1)) (xb87c88_3 n) rt87c88
noncomputable def kc87c88_8 (m1 : Nat) : K87c88 := fun s => normC [0,1,5] s (kq87c88_7 n m1)
noncomputable def xb87c88_9 (m1 : Nat) : Nat → K87c88 := fun j s => bif Nat.beq j 1 then normC [0,1,5] s (kq87c88_7 n m1) else (xb87c88_3 n) j s
noncomputable def kc87c88_10 (m1 : Nat) : K87c88 := fun s => normC [0,1,5] s (kc87c88_8 n m1)
noncomputable def L87c88_1 (m : Nat) (x0 : LP) (i5 : Int) : Option R87c88 := loopN (F87c88_4 n) m { tm := [.c (.sl (.pair (.int .i64) (.int .i64)) x0 false),.fn 88 [],uu,uu,uu,.c (.int .i64 i5),uu,uu,uu,uu,uu,uu,uu,uu,uu,uu,uu,uu,uu,uu,uu,uu,uu,uu,uu],hp := emp }
theorem L87c88_1_eq (m1 : Nat) (x0 : LP) (i5 : Int) : L87c88_1 n (m1 + 1) x0 i5 =
    (bif decide (i5 > 0) then (idx x0 i5).bind fun x1' =>
      (idx x0 (wr .i64 (i5 - 1))).bind fun x2' =>
      (S88 n x1' x2').bind fun r3' =>
      (bif decide (r3' < 0) then some false
      else L87c88_1 n m1 x0 (wr .i64 (i5 - 1)))
    else some true) := by kernel_rfl
noncomputable def S87c88 (x0 : LP) : Option R87c88 := run (E87c88 n) c87c88 an87c88 rt87c88 (fun _ _ => none) rt87c88 { tm := [.c (.sl (.pair (.int .i64) (.int .i64)) x0 false),.fn 88 [],uu,uu,uu,uu,uu,uu,uu,uu,uu,uu,uu,uu,uu,uu,uu,uu,uu,uu,uu,uu,uu,uu,uu],hp := emp }
theorem S87c88_eq (x0 : LP) : S87c88 n x0 =
    L87c88_1 n n.1 x0 (wr .i64 ((x0.length : Int) - 1)) := by kernel_rfl
theorem S87c88_run (xs : pksDen pk87c88) : S87c88 n xs.1 = runG (E87c88 n) noScope c87c88 an87c88 (rtG rk87c88) (fun _ _ => none) (rtG rk87c88) (st0 pk87c88 xs Try.f87.ntmps) := by kernel_rfl
noncomputable def P87c88 := phiOf pk87c88 rk87c88 (fun xs => S87c88 n xs.1)
theorem call87 : CallOK Try.prog 87 := callOK_of Try.func87 (by kernel_rfl) (by kernel_rfl)
theorem env87c88 : EnvOK Try.prog (E87c88 n) := envOK0 (consPhi_ok (FC88 n) call88 noPhi_ok) rfl rfl
theorem par87c88 : EnvPar (E87c88 n) := envPar0 (consPhi_par phiOf_Par1 noPhi_par) rfl
theorem FC87c88 : FCs Try.prog 87 (P87c88 n) := phiOf_FCs fun xs r h vs hv => FC.of_runG tabOK eqsOK (env87c88 n) (par87c88 n) mixed (fun _ => noScope_ok) Try.func87 (c := c87c88) (an := an87c88) (pks := pk87c88) (rks := rk87c88) (by kernel_rfl) (by kernel_rfl) hv ((S87c88_run n xs).symm.trans h)
abbrev R39 := Int
abbrev K39 := St → Option R39
noncomputable def c39 : Code := bodyOf Try.f39
noncomputable def an39 : Ann := (.s .l (.s .l (.s (.j [0,1,43,44,45,46,47,48,49,50,51,52,53,59,60,61,62,63,64] (.s .l (.j [0,1,43,44,45,46,47,48,49,50,51,52,53,59,60,61,62,63,64] .l (.s .l (.j [0,1,43,44,45,46,47,48,49,50,51,52,53,59,60,61,62,63,64] .l (.s .l (.j [0,1,43,44,45,46,47,48,49,50,51,52,53,59,60,61,62,63,64] .l (.s .l (.j [0,1,43,44,45,46,47,48,49,50,51,52,53,59,60,61,62,63,64] .l .l)))))))) .l) (.s (.s .l (.j [] (.j [0,1,30,31,32,43,44,45,46,47,48,49,50,51,52,53,59,60,61,62,63,64] (.s .l (.s (.j [0,1,30,31,32,43,44,45,46,47,48,49,50,51,52,53,59,60,61,62,63,64] .l .l) (.s (.j [0,1,30,31,32,43,44,45,46,47,48,49,50,51,52,53,59,60,61,62,63,64] (.s .l (.s .l (.s .l (.j [0,1,30,31,32,43,44,45,46,47,48,49,50,51,52,53,59,60,61,62,63,64] .l .l)))) .l) .l))) .l) .l)) .l))))
def pk39 : List PK := [.c (.sl (.pair (.int .i64) (.int .i64))),.c (.sl (.pair (.int .i64) (.int .i64)))]
def rk39 : List RK := [.c (.int .i64) 4]
noncomputable def rt39 (st : St) : Option R39 := rtG rk39 st
noncomputable def E39 : Env := { T := tab,phi := (consPhi 24 (fun _ => true) (P24 n) (consPhi 83 (fun _ => true) (P83 n) (consPhi 85 (isFns [none,some 86]) (P85c86 n) (consPhi 87 (isFns [none,some 88]) (P87c88 n) (consPhi 88 (fun _ => true) (P88 n) noPhi))))),eff := fun _ => false,fuel := n.1,hold := n.2 }
noncomputable def kq39_1 : K39 := run (E39 n) (cB (cB (cB c39))) an39.snd.snd.snd rt39 (fun _ _ => none) rt39
noncomputable def kc39_2 : K39 := fun s => normC [0,1,43,44,45,46,47,48,49,50,51,52,53,59,60,61,62,63,64] s (kq39_1 n)
noncomputable def xb39_3 : Nat → K39 := fun j s => bif Nat.beq j 0 then normC [0,1,43,44,45,46,47,48,49,50,51,52,53,59,60,61,62,63,64] s (kq39_1 n) else (fun _ _ => none) j s
noncomputable def kc39_4 : K39 := fun s => normC [0,1,43,44,45,46,47,48,49,50,51,52,53,59,60,61,62,63,64] s (kc39_2 n)
noncomputable def kc39_5 : K39 := fun s => normC [0,1,43,44,45,46,47,48,49,50,51,52,53,59,60,61,62,63,64] s (kc39_4 n)
noncomputable def kc39_6 : K39 := fun s => normC [0,1,43,44,45,46,47,48,49,50,51,52,53,59,60,61,62,63,64] s (kc39_5 n)
noncomputable def kc39_7 : K39 := fun s => normC [0,1,43,44,45,46,47,48,49,50,51,52,53,59,60,61,62,63,64] s (kc39_6 n)
noncomputable def kq39_8 : K39 := run (E39 n) (cB (cB (cB (cB c39)))) an39.snd.snd.snd.snd rt39 (fun _ _ => none) rt39
noncomputable def kc39_9 : K39 := fun s => normC [] s (kq39_8 n)
noncomputable def xb39_10 : Nat → K39 := fun j s => bif Nat.beq j 1 then normC [] s (kq39_8 n) else (fun _ _ => none) j s
noncomputable def F39_11 : (K39) → K39 := fun K s => run (E39 n) (cA (cA (cB (cA (cB (cB (cB c39))))))) an39.snd.snd.snd.fst.snd.fst.fst (fun s => normC [0,1,30,31,32,43,44,45,46,47,48,49,50,51,52,53,59,60,61,62,63,64] s K) (xb39_10 n) rt39 s
noncomputable def kq39_12 (m1 : Nat) : K39 := run (E39 n) (cB (cB (cA (cA (cB (cA (cB (cB (cB c39))))))))) an39.snd.snd.snd.fst.snd.fst.fst.snd.snd (fun s => normC [0,1,30,31,32,43,44,45,46,47,48,49,50,51,52,53,59,60,61,62,63,64] s (loopN (F39_11 n) m1)) (xb39_10 n) rt39
noncomputable def kc39_13 (m1 : Nat) : K39 := fun s => normC [0,1,30,31,32,43,44,45,46,47,48,49,50,51,52,53,59,60,61,62,63,64] s (kq39_12 n m1)
noncomputable def kq39_14 (m1 : Nat) : K39 := run (E39 n) (cB (cB (cB (cA (cA (cB (cA (cB (cB (cB c39)))))))))) an39.snd.snd.snd.fst.snd.fst.fst.snd.snd.snd (fun s => normC [0,1,30,31,32,43,44,45,46,47,48,49,50,51,52,53,59,60,61,62,63,64] s (loopN (F39_11 n) m1)) (xb39_10 n) rt39
noncomputable def kc39_15 (m1 : Nat) : K39 := fun s => normC [0,1,30,31,32,43,44,45,46,47,48,49,50,51,52,53,59,60,61,62,63,64] s (kq39_14 n m1)
noncomputable def xb39_16 (m1 : Nat) : Nat → K39 := fun j s => bif Nat.beq j 2 then normC [0,1,30,31,32,43,44,45,46,47,48,49,50,51,52,53,59,60,61,62,63,64] s (kq39_14 n m1) else (xb39_10 n) j s
noncomputable def kc39_17 (m1 : Nat) : K39 := fun s => normC [0,1,30,31,32,43,44,45,46,47,48,49,50,51,52,53,59,60,61,62,63,64] s (kc39_15 n m1)
noncomputable def L39_1 (m : Nat) (l0 : LP) (values1 : LP) (v31 : Int) (v32 : Int) (v30 : LP) : Option R39 := loopN (F39_11 n) m { tm := [.c (.sl (.pair (.int .i64) (.int .i64)) l0 false),.c (.sl (.pair (.int .i64) (.int .i64)) values1 false),uu,uu,uu,uu,uu,uu,uu,uu,uu,uu,uu,uu,uu,uu,uu,uu,uu,uu,uu,uu,uu,uu,uu,uu,uu,uu,uu,uu,.own 30 none false,.c (.int .i64 v31),.c (.int .i64 v32),uu,uu,uu,uu,uu,uu,uu,uu,uu,uu,uu,uu,uu,uu,uu,uu,uu,uu,uu,uu,uu,uu,uu,uu,uu,uu,uu,uu,uu,uu,uu,uu,uu,uu],hp := (upd emp 30 (.arr (.pair (.int .i64) (.int .i64)) v30 false)) }
theorem L39_1_eq (m1 : Nat) (l0 : LP) (values1 : LP) (v31 : Int) (v32 : Int) (v30 : LP) : L39_1 n (m1 + 1) l0 values1 v31 v32 v30 =
    (bif decide (v32 < v31) then (bif inB v32 v30.length then (idx v30 v32).bind fun x5' =>
        ((bif (((wr .i64 (v32 + 1)) == (l0.length : Int)) == false) then (idx values1 v32).bind fun x6' =>
            (idx values1 (wr .i64 (v32 + 1))).bind fun x7' =>
            (S88 n x6' x7').bind fun r8' =>
            some (decide (r8' < 0))
          else some true)).bind fun b9' =>
        ((bif (decide (x5'.1 < 0) == false) then ((bif (b9' == true) then some (decide (x5'.1 > 0))
              else some false)).bind fun b10' =>
            some b10'
          else some true)).bind fun b11' =>
        (bif b11' then some 14
        else L39_1 n m1 l0 values1 v31 (wr .i64 (v32 + 1)) v30)
      else none)
    else some 0) := by kernel_rfl
noncomputable def S39 (l0 : LP) (values1 : LP) : Option R39 := run (E39 n) c39 an39 rt39 (fun _ _ => none) rt39 { tm := [.c (.sl (.pair (.int .i64) (.int .i64)) l0 false),.c (.sl (.pair (.int .i64) (.int .i64)) values1 false),uu,uu,uu,uu,uu,uu,uu,uu,uu,uu,uu,uu,uu,uu,uu,uu,uu,uu,uu,uu,uu,uu,uu,uu,uu,uu,uu,uu,uu,uu,uu,uu,uu,uu,uu,uu,uu,uu,uu,uu,uu,uu,uu,uu,uu,uu,uu,uu,uu,uu,uu,uu,uu,uu,uu,uu,uu,uu,uu,uu,uu,uu,uu,uu,uu],hp := emp }
theorem S39_eq (l0 : LP) (values1 : LP) : S39 n l0 values1 =
    (S24 n l0).bind fun r1' =>
    (bif (r1' != 0) then some r1'
    else (bif ((values1.length : Int) != (l0.length : Int)) then some 5
      else (S85c86 n values1).bind fun r2' =>
        (bif r2' then some 1
        else (S87c88 n values1).bind fun r3' =>
          (bif (!r3') then some 7
          else (S83 n l0 values1).bind fun r4' =>
            L39_1 n n.1 l0 values1 (r4'.length : Int) 0 r4')))) := by kernel_rfl
theorem S39_run (xs : pksDen pk39) : S39 n xs.1 xs.2.1 = runG (E39 n) noScope c39 an39 (rtG rk39) (fun _ _ => none) (rtG rk39) (st0 pk39 xs Try.f39.ntmps) := by kernel_rfl
noncomputable def P39 := phiOf pk39 rk39 (fun xs => S39 n xs.1 xs.2.1)
theorem call39 : CallOK Try.prog 39 := callOK_of Try.func39 (by kernel_rfl) (by kernel_rfl)
theorem env39 : EnvOK Try.prog (E39 n) := envOK0 (consPhi_ok (FC24 n) call24 (consPhi_ok (FC83 n) call83 (consPhi_ok (FC85c86 n) call85 (consPhi_ok (FC87c88 n) call87 (consPhi_ok (FC88 n) call88 noPhi_ok))))) rfl rfl
theorem par39 : EnvPar (E39 n) := envPar0 (consPhi_par phiOf_Par1 (consPhi_par phiOf_Par1 (consPhi_par phiOf_Par1 (consPhi_par phiOf_Par1 (consPhi_par phiOf_Par1 noPhi_par))))) rfl
theorem FC39 : FCs Try.prog 39 (P39 n) := phiOf_FCs fun xs r h vs hv => FC.of_runG tabOK eqsOK (env39 n) (par39 n) mixed (fun _ => noScope_ok) Try.func39 (c := c39) (an := an39) (pks := pk39) (rks := rk39) (by kernel_rfl) (by kernel_rfl) hv ((S39_run n xs).symm.trans h)
abbrev R18 := Bool
abbrev K18 := St → Option R18
noncomputable def c18 : Code := bodyOf Try.f18
noncomputable def an18 : Ann := (.s .l (.s .l (.s .l (.s .l (.s .l (.s .l (.s .l (.s .l (.s (.s .l (.j [1,3,5,7,9,11,13,108,109,112,113,116,117,120,121,122,123,126,127,128,131,132,133,136,137,140,141,142,145,146,147,150,151,152,155,156,157,158,161,162,163,164,167,168,169,170,173,174,175,176,177,180,181,182,183,184,187,188,189,190,191] .l .l)) .l)))))))))
def pk18 : List PK := []
def rk18 : List RK := [.c .bool 0]
noncomputable def rt18 (st : St) : Option R18 := rtG rk18 st
noncomputable def E18 : Env := { T := tab,phi := (consPhi 20 (fun _ => true) (P20 n) (consPhi 22 (fun _ => true) (P22 n) (consPhi 26 (fun _ => true) (P26 n) (consPhi 28 (fun _ => true) (P28 n) (consPhi 30 (fun _ => true) (P30 n) (consPhi 32 (fun _ => true) (P32 n) (consPhi 35 (fun _ => true) (P35 n) (consPhi 37 (fun _ => true) (P37 n) (consPhi 39 (fun _ => true) (P39 n) (consPhi 42 (fun _ => true) (P42 n) (consPhi 44 (fun _ => true) (P44 n) (consPhi 46 (fun _ => true) (P46 n) (consPhi 51 (fun _ => true) (P51 n) (consPhi 52 (fun _ => true) (P52 n) (consPhi 54 (fun _ => true) (P54 n) (consPhi 55 (fun _ => true) (P55 n) (consPhi 56 (fun _ => true) (P56 n) (consPhi 57 (fun _ => true) (P57 n) (consPhi 58 (fun _ => true) (P58 n) noPhi))))))))))))))))))),eff := fun _ => false,fuel := n.1,hold := n.2 }
noncomputable def kq18_1 : K18 := run (E18 n) (cB (cB (cB (cB (cB (cB (cB (cB (cB c18))))))))) an18.snd.snd.snd.snd.snd.snd.snd.snd.snd rt18 (fun _ _ => none) rt18
noncomputable def kc18_2 : K18 := fun s => normC [1,3,5,7,9,11,13,108,109,112,113,116,117,120,121,122,123,126,127,128,131,132,133,136,137,140,141,142,145,146,147,150,151,152,155,156,157,158,161,162,163,164,167,168,169,170,173,174,175,176,177,180,181,182,183,184,187,188,189,190,191] s (kq18_1 n)
noncomputable def S18 : Option R18 := run (E18 n) c18 an18 rt18 (fun _ _ => none) rt18 { tm := [uu,uu,uu,uu,uu,uu,uu,uu,uu,uu,uu,uu,uu,uu,uu,uu,uu,uu,uu,uu,uu,uu,uu,uu,uu,uu,uu,uu,uu,uu,uu,uu,uu,uu,uu,uu,uu,uu,uu,uu,uu,uu,uu,uu,uu,uu,uu,uu,uu,uu,uu,uu,uu,uu,uu,uu,uu,uu,uu,uu,uu,uu,uu,uu,uu,uu,uu,uu,uu,uu,uu,uu,uu,uu,uu,uu,uu,uu,uu,uu,uu,uu,uu,uu,uu,uu,uu,uu,uu,uu,uu,uu,uu,uu,uu,uu,uu,uu,uu,uu,uu,uu,uu,uu,uu,uu,uu,uu,uu,uu,uu,uu,uu,uu,uu,uu,uu,uu,uu,uu,uu,uu,uu,uu,uu,uu,uu,uu,uu,uu,uu,uu,uu,uu,uu,uu,uu,uu,uu,uu,uu,uu,uu,uu,uu,uu,uu,uu,uu,uu,uu,uu,uu,uu,uu,uu,uu,uu,uu,uu,uu,uu,uu,uu,uu,uu,uu,uu,uu,uu,uu,uu,uu,uu,uu,uu,uu,uu,uu,uu,uu,uu,uu,uu,uu,uu,uu,uu,uu,uu,uu,uu,uu],hp := emp }
theorem S18_eq : S18 n =
    (S56 n).bind fun r1' =>
    (S30 n r1').bind fun r2' =>
    (S56 n).bind fun r3' =>
    (S32 n r3').bind fun r4' =>
    (S54 n).bind fun r5' =>
    (S35 n r5').bind fun r6' =>
    (S54 n).bind fun r7' =>
    (S20 n r7').bind fun r8' =>
    (S56 n).bind fun r9' =>
    (S22 n r9' 0 4).bind fun r10' =>
    (S56 n).bind fun r11' =>
    (S26 n r11' 3).bind fun r12' =>
    (S56 n).bind fun r13' =>
    (S28 n r13' 0).bind fun r14' =>
    ((bif ((r2'.2 != 0) == false) then some (r4'.2 != 0)
      else some true)).bind fun b15' =>
    ((bif (b15' == false) then some (r6'.2 != 0)
      else some true)).bind fun b16' =>
    ((bif (b16' == false) then some (r8'.2 != 0)
      else some true)).bind fun b17' =>
    ((bif (b17' == false) then some (r10'.2 != 0)
      else some true)).bind fun b18' =>
    ((bif (b18' == false) then some (r12'.2 != 0)
      else some true)).bind fun b19' =>
    ((bif (b19' == false) then some (r14'.2 != 0)
      else some true)).bind fun b20' =>
    (bif b20' then some false
    else (S56 n).bind fun r21' =>
      (S37 n r21').bind fun r22' =>
      (S56 n).bind fun r23' =>
      (S42 n r23' 0 2).bind fun r24' =>
      (S56 n).bind fun r25' =>
      (S44 n r25').bind fun r26' =>
      (S55 n).bind fun r27' =>
      (S20 n r27').bind fun r28' =>
      (S52 n 2 1).bind fun r29' =>
      (S52 n 3 1).bind fun r30' =>
      ((bif ((r22'.2 == 0) == true) then some (r24'.2 == 0)
        else some false)).bind fun b31' =>
      ((bif (b31' == true) then some (r26'.2 == 0)
        else some false)).bind fun b32' =>
      ((bif (b32' == true) then some (r28'.2 == 13)
        else some false)).bind fun b33' =>
      ((bif (b33' == true) then (S57 n [2,2,3,3]).bind fun r34' =>
          (S51 n r2'.1 r34').bind fun r35' =>
          some r35'
        else some false)).bind fun b36' =>
      ((bif (b36' == true) then (S58 n r4'.1 [(0,2,r29'),(2,4,r30')]).bind fun r37' =>
          some r37'
        else some false)).bind fun b38' =>
      ((bif (b38' == true) then (S52 n 2 1).bind fun r39' =>
          some ((r6'.1.1 == r39'.1) && ((r6'.1.2 == r39'.2) && true))
        else some false)).bind fun b40' =>
      ((bif (b40' == true) then some (r8'.1 == 0)
        else some false)).bind fun b41' =>
      ((bif (b41' == true) then (S52 n 5 2).bind fun r42' =>
          some ((r10'.1.1 == r42'.1) && ((r10'.1.2 == r42'.2) && true))
        else some false)).bind fun b43' =>
      ((bif (b43' == true) then (S52 n 3 1).bind fun r44' =>
          some ((r12'.1.1 == r44'.1) && ((r12'.1.2 == r44'.2) && true))
        else some false)).bind fun b45' =>
      ((bif (b45' == true) then (S52 n 2 1).bind fun r46' =>
          some ((r14'.1.1 == r46'.1) && ((r14'.1.2 == r46'.2) && true))
        else some false)).bind fun b47' =>
      ((bif (b47' == true) then (S57 n [3,0,2,0]).bind fun r48' =>
          (S51 n r22'.1 r48').bind fun r49' =>
          some r49'
        else some false)).bind fun b50' =>
      ((bif (b50' == true) then (S57 n [2,2,2,2]).bind fun r51' =>
          (S51 n r24'.1 r51').bind fun r52' =>
          some r52'
        else some false)).bind fun b53' =>
      ((bif (b53' == true) then (S46 n r26'.1 [0,2]).bind fun r54' =>
          some r54'
        else some false)).bind fun b55' =>
      ((bif (b55' == true) then (S54 n).bind fun r56' =>
          (S57 n [2,2,2]).bind fun r57' =>
          (S39 n r56' r57').bind fun r58' =>
          some (r58' == 0)
        else some false)).bind fun b59' =>
      ((bif (b59' == true) then (S54 n).bind fun r60' =>
          (S57 n [1,1,2]).bind fun r61' =>
          (S39 n r60' r61').bind fun r62' =>
          some (r62' == 14)
        else some false)).bind fun b63' =>
      ((bif (b63' == true) then (S54 n).bind fun r64' =>
          (S57 n [2,1,3]).bind fun r65' =>
          (S39 n r64' r65').bind fun r66' =>
          some (r66' == 7)
        else some false)).bind fun b67' =>
      some b67') := by kernel_rfl
theorem S18_run (xs : pksDen pk18) : S18 n = runG (E18 n) noScope c18 an18 (rtG rk18) (fun _ _ => none) (rtG rk18) (st0 pk18 xs Try.f18.ntmps) := by kernel_rfl
noncomputable def P18 := phiOf pk18 rk18 (fun xs => S18 n)
theorem call18 : CallOK Try.prog 18 := callOK_of Try.func18 (by kernel_rfl) (by kernel_rfl)
theorem env18 : EnvOK Try.prog (E18 n) := envOK0 (consPhi_ok (FC20 n) call20 (consPhi_ok (FC22 n) call22 (consPhi_ok (FC26 n) call26 (consPhi_ok (FC28 n) call28 (consPhi_ok (FC30 n) call30 (consPhi_ok (FC32 n) call32 (consPhi_ok (FC35 n) call35 (consPhi_ok (FC37 n) call37 (consPhi_ok (FC39 n) call39 (consPhi_ok (FC42 n) call42 (consPhi_ok (FC44 n) call44 (consPhi_ok (FC46 n) call46 (consPhi_ok (FC51 n) call51 (consPhi_ok (FC52 n) call52 (consPhi_ok (FC54 n) call54 (consPhi_ok (FC55 n) call55 (consPhi_ok (FC56 n) call56 (consPhi_ok (FC57 n) call57 (consPhi_ok (FC58 n) call58 noPhi_ok))))))))))))))))))) rfl rfl
theorem par18 : EnvPar (E18 n) := envPar0 (consPhi_par phiOf_Par1 (consPhi_par phiOf_Par1 (consPhi_par phiOf_Par1 (consPhi_par phiOf_Par1 (consPhi_par phiOf_Par1 (consPhi_par phiOf_Par1 (consPhi_par phiOf_Par1 (consPhi_par phiOf_Par1 (consPhi_par phiOf_Par1 (consPhi_par phiOf_Par1 (consPhi_par phiOf_Par1 (consPhi_par phiOf_Par1 (consPhi_par phiOf_Par1 (consPhi_par phiOf_Par1 (consPhi_par phiOf_Par1 (consPhi_par phiOf_Par1 (consPhi_par phiOf_Par1 (consPhi_par phiOf_Par1 (consPhi_par phiOf_Par1 noPhi_par))))))))))))))))))) rfl
theorem FC18 : FCs Try.prog 18 (P18 n) := phiOf_FCs fun xs r h vs hv => FC.of_runG tabOK eqsOK (env18 n) (par18 n) mixed (fun _ => noScope_ok) Try.func18 (c := c18) (an := an18) (pks := pk18) (rks := rk18) (by kernel_rfl) (by kernel_rfl) hv ((S18_run n xs).symm.trans h)
abbrev R19 := LP
abbrev K19 := St → Option R19
noncomputable def c19 : Code := bodyOf Try.f19
noncomputable def an19 : Ann := (.s .l (.s .l (.s (.s .l (.j [3] (.j [0,3,4] (.s (.s .l (.j [0,3,4] .l .l)) (.s (.j [0,3,4] .l .l) .l)) .l) .l)) .l)))
def pk19 : List PK := [.c (.sl (.pair (.int .i64) (.int .i64)))]
def rk19 : List RK := [.own (.pair (.int .i64) (.int .i64)) 2]
noncomputable def rt19 (st : St) : Option R19 := rtG rk19 st
noncomputable def E19 : Env := { T := tab,phi := noPhi,eff := fun _ => false,fuel := n.1,hold := n.2 }
noncomputable def kq19_1 : K19 := run (E19 n) (cB (cB (cB c19))) an19.snd.snd.snd rt19 (fun _ _ => none) rt19
noncomputable def kc19_2 : K19 := fun s => normC [3] s (kq19_1 n)
noncomputable def xb19_3 : Nat → K19 := fun j s => bif Nat.beq j 0 then normC [3] s (kq19_1 n) else (fun _ _ => none) j s
noncomputable def F19_4 : (K19) → K19 := fun K s => run (E19 n) (cA (cA (cB (cA (cB (cB c19)))))) an19.snd.snd.fst.snd.fst.fst (fun s => normC [0,3,4] s K) (xb19_3 n) rt19 s
noncomputable def kq19_5 (m1 : Nat) : K19 := run (E19 n) (cB (cA (cA (cB (cA (cB (cB c19))))))) an19.snd.snd.fst.snd.fst.fst.snd (fun s => normC [0,3,4] s (loopN (F19_4 n) m1)) (xb19_3 n) rt19
noncomputable def kc19_6 (m1 : Nat) : K19 := fun s => normC [0,3,4] s (kq19_5 n m1)
noncomputable def kq19_7 (m1 : Nat) : K19 := run (E19 n) (cB (cB (cA (cA (cB (cA (cB (cB c19)))))))) an19.snd.snd.fst.snd.fst.fst.snd.snd (fun s => normC [0,3,4] s (loopN (F19_4 n) m1)) (xb19_3 n) rt19
noncomputable def kc19_8 (m1 : Nat) : K19 := fun s => normC [0,3,4] s (kq19_7 n m1)
noncomputable def xb19_9 (m1 : Nat) : Nat → K19 := fun j s => bif Nat.beq j 1 then normC [0,3,4] s (kq19_7 n m1) else (xb19_3 n) j s
noncomputable def L19_1 (m : Nat) (l0 : LP) (i4 : Int) (out3 : LP) : Option R19 := loopN (F19_4 n) m { tm := [.c (.sl (.pair (.int .i64) (.int .i64)) l0 false),uu,uu,.own 3 none false,.c (.int .i64 i4),uu,uu,uu,uu,uu,uu,uu,uu,uu,uu,uu,uu,uu,uu],hp := (upd emp 3 (.arr (.pair (.int .i64) (.int .i64)) out3 true)) }
theorem L19_1_eq (m1 : Nat) (l0 : LP) (i4 : Int) (out3 : LP) : L19_1 n (m1 + 1) l0 i4 out3 =
    (bif decide (i4 < (l0.length : Int)) then (idx l0 i4).bind fun x1' =>
      (bif decide (out3.length + [x1'].length ≤ lim) then L19_1 n m1 l0 (wr .i64 (i4 + 1)) (out3 ++ [x1'])
      else none)
    else some out3) := by kernel_rfl
noncomputable def S19 (l0 : LP) : Option R19 := run (E19 n) c19 an19 rt19 (fun _ _ => none) rt19 { tm := [.c (.sl (.pair (.int .i64) (.int .i64)) l0 false),uu,uu,uu,uu,uu,uu,uu,uu,uu,uu,uu,uu,uu,uu,uu,uu,uu,uu],hp := emp }
theorem S19_eq (l0 : LP) : S19 n l0 =
    L19_1 n n.1 l0 0 [] := by kernel_rfl
theorem S19_run (xs : pksDen pk19) : S19 n xs.1 = runG (E19 n) noScope c19 an19 (rtG rk19) (fun _ _ => none) (rtG rk19) (st0 pk19 xs Try.f19.ntmps) := by kernel_rfl
noncomputable def P19 := phiOf pk19 rk19 (fun xs => S19 n xs.1)
theorem call19 : CallOK Try.prog 19 := callOK_of Try.func19 (by kernel_rfl) (by kernel_rfl)
theorem env19 : EnvOK Try.prog (E19 n) := envOK0 noPhi_ok rfl rfl
theorem par19 : EnvPar (E19 n) := envPar0 noPhi_par rfl
theorem FC19 : FCs Try.prog 19 (P19 n) := phiOf_FCs fun xs r h vs hv => FC.of_runG tabOK eqsOK (env19 n) (par19 n) mixed (fun _ => noScope_ok) Try.func19 (c := c19) (an := an19) (pks := pk19) (rks := rk19) (by kernel_rfl) (by kernel_rfl) hv ((S19_run n xs).symm.trans h)
abbrev R71 := Bool
abbrev K71 := St → Option R71
noncomputable def c71 : Code := bodyOf Try.f71
noncomputable def an71 : Ann := .l
def pk71 : List PK := [.c (.int .i64),.c (.int .i64),.c (.int .i64)]
def rk71 : List RK := [.c .bool 6]
noncomputable def rt71 (st : St) : Option R71 := rtG rk71 st
noncomputable def E71 : Env := { T := tab,phi := noPhi,eff := fun _ => false,fuel := n.1,hold := n.2 }
noncomputable def S71 (v0 : Int) (lo1 : Int) (hi2 : Int) : Option R71 := run (E71 n) c71 an71 rt71 (fun _ _ => none) rt71 { tm := [.c (.int .i64 v0),.c (.int .i64 lo1),.c (.int .i64 hi2),uu,uu,uu,uu,uu,uu,uu,uu,uu,uu,uu,uu],hp := emp }
theorem S71_eq (v0 : Int) (lo1 : Int) (hi2 : Int) : S71 n v0 lo1 hi2 =
    ((bif (decide (v0 ≥ lo1) == true) then some (decide (v0 ≤ hi2))
      else some false)).bind fun b1' =>
    some b1' := by kernel_rfl
theorem S71_run (xs : pksDen pk71) : S71 n xs.1 xs.2.1 xs.2.2.1 = runG (E71 n) noScope c71 an71 (rtG rk71) (fun _ _ => none) (rtG rk71) (st0 pk71 xs Try.f71.ntmps) := by kernel_rfl
noncomputable def P71 := phiOf pk71 rk71 (fun xs => S71 n xs.1 xs.2.1 xs.2.2.1)
theorem call71 : CallOK Try.prog 71 := callOK_of Try.func71 (by kernel_rfl) (by kernel_rfl)
theorem env71 : EnvOK Try.prog (E71 n) := envOK0 noPhi_ok rfl rfl
theorem par71 : EnvPar (E71 n) := envPar0 noPhi_par rfl
theorem FC71 : FCs Try.prog 71 (P71 n) := phiOf_FCs fun xs r h vs hv => FC.of_runG tabOK eqsOK (env71 n) (par71 n) mixed (fun _ => noScope_ok) Try.func71 (c := c71) (an := an71) (pks := pk71) (rks := rk71) (by kernel_rfl) (by kernel_rfl) hv ((S71_run n xs).symm.trans h)
abbrev R25 := Int
abbrev K25 := St → Option R25
noncomputable def c25 : Code := bodyOf Try.f25
noncomputable def an25 : Ann := (.s .l (.s (.s .l (.j [0,24,25,26,27,28,29,30] .l .l)) (.s (.s .l (.j [0,24,25,26,27,28,29,30] .l .l)) (.s (.s .l (.j [] (.j [0,3,24,25,26,27,28,29,30] (.s (.s .l (.j [0,3,24,25,26,27,28,29,30] .l .l)) (.s (.j [0,3,24,25,26,27,28,29,30] (.s .l (.j [0,3,24,25,26,27,28,29,30] .l .l)) .l) .l)) .l) .l)) .l))))
def pk25 : List PK := [.c (.sl (.pair (.int .i64) (.int .i64)))]
def rk25 : List RK := [.c (.int .i64) 2]
noncomputable def rt25 (st : St) : Option R25 := rtG rk25 st
noncomputable def E25 : Env := { T := tab,phi := (consPhi 71 (fun _ => true) (P71 n) noPhi),eff := fun _ => false,fuel := n.1,hold := n.2 }
noncomputable def kq25_1 : K25 := run (E25 n) (cB (cB c25)) an25.snd.snd rt25 (fun _ _ => none) rt25
noncomputable def kc25_2 : K25 := fun s => normC [0,24,25,26,27,28,29,30] s (kq25_1 n)
noncomputable def kq25_3 : K25 := run (E25 n) (cB (cB (cB c25))) an25.snd.snd.snd rt25 (fun _ _ => none) rt25
noncomputable def kc25_4 : K25 := fun s => normC [0,24,25,26,27,28,29,30] s (kq25_3 n)
noncomputable def kq25_5 : K25 := run (E25 n) (cB (cB (cB (cB c25)))) an25.snd.snd.snd.snd rt25 (fun _ _ => none) rt25
noncomputable def kc25_6 : K25 := fun s => normC [] s (kq25_5 n)
noncomputable def xb25_7 : Nat → K25 := fun j s => bif Nat.beq j 0 then normC [] s (kq25_5 n) else (fun _ _ => none) j s
noncomputable def F25_8 : (K25) → K25 := fun K s => run (E25 n) (cA (cA (cB (cA (cB (cB (cB c25))))))) an25.snd.snd.snd.fst.snd.fst.fst (fun s => normC [0,3,24,25,26,27,28,29,30] s K) (xb25_7 n) rt25 s
noncomputable def kq25_9 (m1 : Nat) : K25 := run (E25 n) (cB (cA (cA (cB (cA (cB (cB (cB c25)))))))) an25.snd.snd.snd.fst.snd.fst.fst.snd (fun s => normC [0,3,24,25,26,27,28,29,30] s (loopN (F25_8 n) m1)) (xb25_7 n) rt25
noncomputable def kc25_10 (m1 : Nat) : K25 := fun s => normC [0,3,24,25,26,27,28,29,30] s (kq25_9 n m1)
noncomputable def kq25_11 (m1 : Nat) : K25 := run (E25 n) (cB (cB (cA (cA (cB (cA (cB (cB (cB c25))))))))) an25.snd.snd.snd.fst.snd.fst.fst.snd.snd (fun s => normC [0,3,24,25,26,27,28,29,30] s (loopN (F25_8 n) m1)) (xb25_7 n) rt25
noncomputable def kc25_12 (m1 : Nat) : K25 := fun s => normC [0,3,24,25,26,27,28,29,30] s (kq25_11 n m1)
noncomputable def xb25_13 (m1 : Nat) : Nat → K25 := fun j s => bif Nat.beq j 1 then normC [0,3,24,25,26,27,28,29,30] s (kq25_11 n m1) else (xb25_7 n) j s
noncomputable def kc25_14 (m1 : Nat) : K25 := fun s => normC [0,3,24,25,26,27,28,29,30] s (kc25_12 n m1)
noncomputable def L25_1 (m : Nat) (l0 : LP) (i3 : Int) : Option R25 := loopN (F25_8 n) m { tm := [.c (.sl (.pair (.int .i64) (.int .i64)) l0 false),uu,uu,.c (.int .i64 i3),uu,uu,uu,uu,uu,uu,uu,uu,uu,uu,uu,uu,uu,uu,uu,uu,uu,uu,uu,uu,uu,uu,uu,uu,uu,uu,uu,uu],hp := emp }
theorem L25_1_eq (m1 : Nat) (l0 : LP) (i3 : Int) : L25_1 n (m1 + 1) l0 i3 =
    (bif decide (i3 < (l0.length : Int)) then (idx l0 i3).bind fun x1' =>
      (S71 n x1'.1 0 100).bind fun r2' =>
      ((bif ((!r2') == false) then (idx l0 i3).bind fun x3' =>
          (S71 n x3'.2 1 9).bind fun r4' =>
          some (!r4')
        else some true)).bind fun b5' =>
      (bif b5' then some 1
      else L25_1 n m1 l0 (wr .i64 (i3 + 1)))
    else some 0) := by kernel_rfl
noncomputable def S25 (l0 : LP) : Option R25 := run (E25 n) c25 an25 rt25 (fun _ _ => none) rt25 { tm := [.c (.sl (.pair (.int .i64) (.int .i64)) l0 false),uu,uu,uu,uu,uu,uu,uu,uu,uu,uu,uu,uu,uu,uu,uu,uu,uu,uu,uu,uu,uu,uu,uu,uu,uu,uu,uu,uu,uu,uu,uu],hp := emp }
theorem S25_eq (l0 : LP) : S25 n l0 =
    (bif ((l0.length : Int) == 0) then some 4
    else (bif decide ((l0.length : Int) > 8) then some 3
      else L25_1 n n.1 l0 0)) := by kernel_rfl
theorem S25_run (xs : pksDen pk25) : S25 n xs.1 = runG (E25 n) noScope c25 an25 (rtG rk25) (fun _ _ => none) (rtG rk25) (st0 pk25 xs Try.f25.ntmps) := by kernel_rfl
noncomputable def P25 := phiOf pk25 rk25 (fun xs => S25 n xs.1)
theorem call25 : CallOK Try.prog 25 := callOK_of Try.func25 (by kernel_rfl) (by kernel_rfl)
theorem env25 : EnvOK Try.prog (E25 n) := envOK0 (consPhi_ok (FC71 n) call71 noPhi_ok) rfl rfl
theorem par25 : EnvPar (E25 n) := envPar0 (consPhi_par phiOf_Par1 noPhi_par) rfl
theorem FC25 : FCs Try.prog 25 (P25 n) := phiOf_FCs fun xs r h vs hv => FC.of_runG tabOK eqsOK (env25 n) (par25 n) mixed (fun _ => noScope_ok) Try.func25 (c := c25) (an := an25) (pks := pk25) (rks := rk25) (by kernel_rfl) (by kernel_rfl) hv ((S25_run n xs).symm.trans h)
abbrev R21 := Int × Int
abbrev K21 := St → Option R21
noncomputable def c21 : Code := bodyOf Try.f21
noncomputable def an21 : Ann := (.s .l (.s .l (.s (.s .l (.j [0] .l .l)) (.s (.s .l (.j [] (.j [0,5] (.s (.s .l (.j [0,5] .l .l)) (.s (.j [0,5] (.s .l (.j [0,5] .l .l)) .l) .l)) .l) .l)) .l))))
def pk21 : List PK := [.c (.sl (.pair (.int .i64) (.int .i64)))]
def rk21 : List RK := [.c (.int .i64) 2,.c (.int .i64) 3]
noncomputable def rt21 (st : St) : Option R21 := rtG rk21 st
noncomputable def E21 : Env := { T := tab,phi := (consPhi 25 (fun _ => true) (P25 n) noPhi),eff := fun _ => false,fuel := n.1,hold := n.2 }
noncomputable def kq21_1 : K21 := run (E21 n) (cB (cB (cB c21))) an21.snd.snd.snd rt21 (fun _ _ => none) rt21
noncomputable def kc21_2 : K21 := fun s => normC [0] s (kq21_1 n)
noncomputable def kq21_3 : K21 := run (E21 n) (cB (cB (cB (cB c21)))) an21.snd.snd.snd.snd rt21 (fun _ _ => none) rt21
noncomputable def kc21_4 : K21 := fun s => normC [] s (kq21_3 n)
noncomputable def xb21_5 : Nat → K21 := fun j s => bif Nat.beq j 0 then normC [] s (kq21_3 n) else (fun _ _ => none) j s
noncomputable def F21_6 : (K21) → K21 := fun K s => run (E21 n) (cA (cA (cB (cA (cB (cB (cB c21))))))) an21.snd.snd.snd.fst.snd.fst.fst (fun s => normC [0,5] s K) (xb21_5 n) rt21 s
noncomputable def kq21_7 (m1 : Nat) : K21 := run (E21 n) (cB (cA (cA (cB (cA (cB (cB (cB c21)))))))) an21.snd.snd.snd.fst.snd.fst.fst.snd (fun s => normC [0,5] s (loopN (F21_6 n) m1)) (xb21_5 n) rt21
noncomputable def kc21_8 (m1 : Nat) : K21 := fun s => normC [0,5] s (kq21_7 n m1)
noncomputable def kq21_9 (m1 : Nat) : K21 := run (E21 n) (cB (cB (cA (cA (cB (cA (cB (cB (cB c21))))))))) an21.snd.snd.snd.fst.snd.fst.fst.snd.snd (fun s => normC [0,5] s (loopN (F21_6 n) m1)) (xb21_5 n) rt21
noncomputable def kc21_10 (m1 : Nat) : K21 := fun s => normC [0,5] s (kq21_9 n m1)
noncomputable def xb21_11 (m1 : Nat) : Nat → K21 := fun j s => bif Nat.beq j 1 then normC [0,5] s (kq21_9 n m1) else (xb21_5 n) j s
noncomputable def kc21_12 (m1 : Nat) : K21 := fun s => normC [0,5] s (kc21_10 n m1)
noncomputable def L21_1 (m : Nat) (l0 : LP) (i5 : Int) : Option R21 := loopN (F21_6 n) m { tm := [.c (.sl (.pair (.int .i64) (.int .i64)) l0 false),uu,uu,uu,uu,.c (.int .i64 i5),uu,uu,uu,uu,uu,uu,uu,uu,uu,uu,uu,uu,uu,uu,uu,uu,uu,uu,uu,uu,uu,uu,uu,uu,uu],hp := emp }
theorem L21_1_eq (m1 : Nat) (l0 : LP) (i5 : Int) : L21_1 n (m1 + 1) l0 i5 =
    (bif decide (i5 < (l0.length : Int)) then (idx l0 (wr .i64 (i5 - 1))).bind fun x2' =>
      (idx l0 i5).bind fun x3' =>
      (bif decide (x2'.1 > x3'.1) then some (wr .i64 (i5 - 1),0)
      else L21_1 n m1 l0 (wr .i64 (i5 + 1)))
    else some (0,13)) := by kernel_rfl
noncomputable def S21 (l0 : LP) : Option R21 := run (E21 n) c21 an21 rt21 (fun _ _ => none) rt21 { tm := [.c (.sl (.pair (.int .i64) (.int .i64)) l0 false),uu,uu,uu,uu,uu,uu,uu,uu,uu,uu,uu,uu,uu,uu,uu,uu,uu,uu,uu,uu,uu,uu,uu,uu,uu,uu,uu,uu,uu,uu],hp := emp }
theorem S21_eq (l0 : LP) : S21 n l0 =
    (S25 n l0).bind fun r1' =>
    (bif (r1' != 0) then some (0,r1')
    else L21_1 n n.1 l0 1) := by kernel_rfl
theorem S21_run (xs : pksDen pk21) : S21 n xs.1 = runG (E21 n) noScope c21 an21 (rtG rk21) (fun _ _ => none) (rtG rk21) (st0 pk21 xs Try.f21.ntmps) := by kernel_rfl
noncomputable def P21 := phiOf pk21 rk21 (fun xs => S21 n xs.1)
theorem call21 : CallOK Try.prog 21 := callOK_of Try.func21 (by kernel_rfl) (by kernel_rfl)
theorem env21 : EnvOK Try.prog (E21 n) := envOK0 (consPhi_ok (FC25 n) call25 noPhi_ok) rfl rfl
theorem par21 : EnvPar (E21 n) := envPar0 (consPhi_par phiOf_Par1 noPhi_par) rfl
theorem FC21 : FCs Try.prog 21 (P21 n) := phiOf_FCs fun xs r h vs hv => FC.of_runG tabOK eqsOK (env21 n) (par21 n) mixed (fun _ => noScope_ok) Try.func21 (c := c21) (an := an21) (pks := pk21) (rks := rk21) (by kernel_rfl) (by kernel_rfl) hv ((S21_run n xs).symm.trans h)
abbrev R99 := Int
abbrev K99 := St → Option R99
noncomputable def c99 : Code := bodyOf Try.f99
noncomputable def an99 : Ann := (.s .l (.s .l (.s (.s .l (.j [3] (.j [0,3,4] (.s (.s .l (.j [0,3,4] .l .l)) (.s (.j [0,3,4] .l .l) .l)) .l) .l)) .l)))
def pk99 : List PK := [.c (.sl (.pair (.int .i64) (.int .i64)))]
def rk99 : List RK := [.c (.int .i64) 2]
noncomputable def rt99 (st : St) : Option R99 := rtG rk99 st
noncomputable def E99 : Env := { T := tab,phi := noPhi,eff := fun _ => false,fuel := n.1,hold := n.2 }
noncomputable def kq99_1 : K99 := run (E99 n) (cB (cB (cB c99))) an99.snd.snd.snd rt99 (fun _ _ => none) rt99
noncomputable def kc99_2 : K99 := fun s => normC [3] s (kq99_1 n)
noncomputable def xb99_3 : Nat → K99 := fun j s => bif Nat.beq j 0 then normC [3] s (kq99_1 n) else (fun _ _ => none) j s
noncomputable def F99_4 : (K99) → K99 := fun K s => run (E99 n) (cA (cA (cB (cA (cB (cB c99)))))) an99.snd.snd.fst.snd.fst.fst (fun s => normC [0,3,4] s K) (xb99_3 n) rt99 s
noncomputable def kq99_5 (m1 : Nat) : K99 := run (E99 n) (cB (cA (cA (cB (cA (cB (cB c99))))))) an99.snd.snd.fst.snd.fst.fst.snd (fun s => normC [0,3,4] s (loopN (F99_4 n) m1)) (xb99_3 n) rt99
noncomputable def kc99_6 (m1 : Nat) : K99 := fun s => normC [0,3,4] s (kq99_5 n m1)
noncomputable def kq99_7 (m1 : Nat) : K99 := run (E99 n) (cB (cB (cA (cA (cB (cA (cB (cB c99)))))))) an99.snd.snd.fst.snd.fst.fst.snd.snd (fun s => normC [0,3,4] s (loopN (F99_4 n) m1)) (xb99_3 n) rt99
noncomputable def kc99_8 (m1 : Nat) : K99 := fun s => normC [0,3,4] s (kq99_7 n m1)
noncomputable def xb99_9 (m1 : Nat) : Nat → K99 := fun j s => bif Nat.beq j 1 then normC [0,3,4] s (kq99_7 n m1) else (xb99_3 n) j s
noncomputable def L99_1 (m : Nat) (l0 : LP) (v3 : Int) (i4 : Int) : Option R99 := loopN (F99_4 n) m { tm := [.c (.sl (.pair (.int .i64) (.int .i64)) l0 false),uu,uu,.c (.int .i64 v3),.c (.int .i64 i4),uu,uu,uu,uu,uu,uu,uu,uu,uu,uu,uu,uu,uu,uu,uu,uu,uu,uu,uu,uu],hp := emp }
theorem L99_1_eq (m1 : Nat) (l0 : LP) (v3 : Int) (i4 : Int) : L99_1 n (m1 + 1) l0 v3 i4 =
    (bif decide (i4 < (l0.length : Int)) then (idx l0 i4).bind fun x1' =>
      (idx l0 i4).bind fun x2' =>
      L99_1 n m1 l0 (wr .i64 (v3 + (wr .i64 (x1'.1 * x2'.2)))) (wr .i64 (i4 + 1))
    else some v3) := by kernel_rfl
noncomputable def S99 (l0 : LP) : Option R99 := run (E99 n) c99 an99 rt99 (fun _ _ => none) rt99 { tm := [.c (.sl (.pair (.int .i64) (.int .i64)) l0 false),uu,uu,uu,uu,uu,uu,uu,uu,uu,uu,uu,uu,uu,uu,uu,uu,uu,uu,uu,uu,uu,uu,uu,uu],hp := emp }
theorem S99_eq (l0 : LP) : S99 n l0 =
    L99_1 n n.1 l0 0 0 := by kernel_rfl
theorem S99_run (xs : pksDen pk99) : S99 n xs.1 = runG (E99 n) noScope c99 an99 (rtG rk99) (fun _ _ => none) (rtG rk99) (st0 pk99 xs Try.f99.ntmps) := by kernel_rfl
noncomputable def P99 := phiOf pk99 rk99 (fun xs => S99 n xs.1)
theorem call99 : CallOK Try.prog 99 := callOK_of Try.func99 (by kernel_rfl) (by kernel_rfl)
theorem env99 : EnvOK Try.prog (E99 n) := envOK0 noPhi_ok rfl rfl
theorem par99 : EnvPar (E99 n) := envPar0 noPhi_par rfl
theorem FC99 : FCs Try.prog 99 (P99 n) := phiOf_FCs fun xs r h vs hv => FC.of_runG tabOK eqsOK (env99 n) (par99 n) mixed (fun _ => noScope_ok) Try.func99 (c := c99) (an := an99) (pks := pk99) (rks := rk99) (by kernel_rfl) (by kernel_rfl) hv ((S99_run n xs).symm.trans h)
abbrev R100 := Int
abbrev K100 := St → Option R100
noncomputable def c100 : Code := bodyOf Try.f100
noncomputable def an100 : Ann := (.s .l (.s .l (.s (.s .l (.j [3] (.j [0,3,4] (.s (.s .l (.j [0,3,4] .l .l)) (.s (.j [0,3,4] .l .l) .l)) .l) .l)) .l)))
def pk100 : List PK := [.c (.sl (.pair (.int .i64) (.int .i64)))]
def rk100 : List RK := [.c (.int .i64) 2]
noncomputable def rt100 (st : St) : Option R100 := rtG rk100 st
noncomputable def E100 : Env := { T := tab,phi := noPhi,eff := fun _ => false,fuel := n.1,hold := n.2 }
noncomputable def kq100_1 : K100 := run (E100 n) (cB (cB (cB c100))) an100.snd.snd.snd rt100 (fun _ _ => none) rt100
noncomputable def kc100_2 : K100 := fun s => normC [3] s (kq100_1 n)
noncomputable def xb100_3 : Nat → K100 := fun j s => bif Nat.beq j 0 then normC [3] s (kq100_1 n) else (fun _ _ => none) j s
noncomputable def F100_4 : (K100) → K100 := fun K s => run (E100 n) (cA (cA (cB (cA (cB (cB c100)))))) an100.snd.snd.fst.snd.fst.fst (fun s => normC [0,3,4] s K) (xb100_3 n) rt100 s
noncomputable def kq100_5 (m1 : Nat) : K100 := run (E100 n) (cB (cA (cA (cB (cA (cB (cB c100))))))) an100.snd.snd.fst.snd.fst.fst.snd (fun s => normC [0,3,4] s (loopN (F100_4 n) m1)) (xb100_3 n) rt100
noncomputable def kc100_6 (m1 : Nat) : K100 := fun s => normC [0,3,4] s (kq100_5 n m1)
noncomputable def kq100_7 (m1 : Nat) : K100 := run (E100 n) (cB (cB (cA (cA (cB (cA (cB (cB c100)))))))) an100.snd.snd.fst.snd.fst.fst.snd.snd (fun s => normC [0,3,4] s (loopN (F100_4 n) m1)) (xb100_3 n) rt100
noncomputable def kc100_8 (m1 : Nat) : K100 := fun s => normC [0,3,4] s (kq100_7 n m1)
noncomputable def xb100_9 (m1 : Nat) : Nat → K100 := fun j s => bif Nat.beq j 1 then normC [0,3,4] s (kq100_7 n m1) else (xb100_3 n) j s
noncomputable def L100_1 (m : Nat) (l0 : LP) (v3 : Int) (i4 : Int) : Option R100 := loopN (F100_4 n) m { tm := [.c (.sl (.pair (.int .i64) (.int .i64)) l0 false),uu,uu,.c (.int .i64 v3),.c (.int .i64 i4),uu,uu,uu,uu,uu,uu,uu,uu,uu,uu,uu,uu,uu,uu],hp := emp }
theorem L100_1_eq (m1 : Nat) (l0 : LP) (v3 : Int) (i4 : Int) : L100_1 n (m1 + 1) l0 v3 i4 =
    (bif decide (i4 < (l0.length : Int)) then (idx l0 i4).bind fun x1' =>
      L100_1 n m1 l0 (wr .i64 (v3 + x1'.2)) (wr .i64 (i4 + 1))
    else some v3) := by kernel_rfl
noncomputable def S100 (l0 : LP) : Option R100 := run (E100 n) c100 an100 rt100 (fun _ _ => none) rt100 { tm := [.c (.sl (.pair (.int .i64) (.int .i64)) l0 false),uu,uu,uu,uu,uu,uu,uu,uu,uu,uu,uu,uu,uu,uu,uu,uu,uu,uu],hp := emp }
theorem S100_eq (l0 : LP) : S100 n l0 =
    L100_1 n n.1 l0 0 0 := by kernel_rfl
theorem S100_run (xs : pksDen pk100) : S100 n xs.1 = runG (E100 n) noScope c100 an100 (rtG rk100) (fun _ _ => none) (rtG rk100) (st0 pk100 xs Try.f100.ntmps) := by kernel_rfl
noncomputable def P100 := phiOf pk100 rk100 (fun xs => S100 n xs.1)
theorem call100 : CallOK Try.prog 100 := callOK_of Try.func100 (by kernel_rfl) (by kernel_rfl)
theorem env100 : EnvOK Try.prog (E100 n) := envOK0 noPhi_ok rfl rfl
theorem par100 : EnvPar (E100 n) := envPar0 noPhi_par rfl
theorem FC100 : FCs Try.prog 100 (P100 n) := phiOf_FCs fun xs r h vs hv => FC.of_runG tabOK eqsOK (env100 n) (par100 n) mixed (fun _ => noScope_ok) Try.func100 (c := c100) (an := an100) (pks := pk100) (rks := rk100) (by kernel_rfl) (by kernel_rfl) hv ((S100_run n xs).symm.trans h)
abbrev R82 := Int × Int
abbrev K82 := St → Option R82
noncomputable def c82 : Code := bodyOf Try.f82
noncomputable def an82 : Ann := (.s .l (.s .l (.s (.j [0,1,4,5] (.j [0,1,4,5,6] (.s (.s .l (.j [0,1,4,5,6] .l .l)) (.j [0,1,4,5,6] .l .l)) .l) .l) .l)))
def pk82 : List PK := [.c (.int .i64),.c (.int .i64)]
def rk82 : List RK := [.box (.pair (.int .i64) (.int .i64)) 4]
noncomputable def rt82 (st : St) : Option R82 := rtG rk82 st
noncomputable def E82 : Env := { T := tab,phi := noPhi,eff := fun _ => false,fuel := n.1,hold := n.2 }
noncomputable def kq82_1 : K82 := run (E82 n) (cB (cB (cB c82))) an82.snd.snd.snd rt82 (fun _ _ => none) rt82
noncomputable def kc82_2 : K82 := fun s => normC [0,1,4,5] s (kq82_1 n)
noncomputable def xb82_3 : Nat → K82 := fun j s => bif Nat.beq j 0 then normC [0,1,4,5] s (kq82_1 n) else (fun _ _ => none) j s
noncomputable def F82_4 : (K82) → K82 := fun K s => run (E82 n) (cA (cA (cA (cB (cB c82))))) an82.snd.snd.fst.fst.fst (fun s => normC [0,1,4,5,6] s K) (xb82_3 n) rt82 s
noncomputable def kq82_5 (m1 : Nat) : K82 := run (E82 n) (cB (cA (cA (cA (cB (cB c82)))))) an82.snd.snd.fst.fst.fst.snd (fun s => normC [0,1,4,5,6] s (loopN (F82_4 n) m1)) (xb82_3 n) rt82
noncomputable def kc82_6 (m1 : Nat) : K82 := fun s => normC [0,1,4,5,6] s (kq82_5 n m1)
noncomputable def kc82_7 (m1 : Nat) : K82 := fun s => normC [0,1,4,5,6] s (fun s => normC [0,1,4,5,6] s (loopN (F82_4 n) m1))
noncomputable def xb82_8 (m1 : Nat) : Nat → K82 := fun j s => bif Nat.beq j 1 then normC [0,1,4,5,6] s (fun s => normC [0,1,4,5,6] s (loopN (F82_4 n) m1)) else (xb82_3 n) j s
noncomputable def L82_1 (m : Nat) (num0 : Int) (den1 : Int) (a5 : Int) (b6 : Int) (v4_0 : Int) (v4_1 : Int) : Option R82 := loopN (F82_4 n) m { tm := [.c (.int .i64 num0),.c (.int .i64 den1),uu,uu,.ptr 4 0,.c (.int .i64 a5),.c (.int .i64 b6),uu,uu,uu,uu,uu,uu,uu,uu,uu,uu,uu,uu,uu,uu,uu,uu,uu,uu],hp := (upd emp 4 (.box [.int .i64 v4_0,.int .i64 v4_1])) }
theorem L82_1_eq (m1 : Nat) (num0 : Int) (den1 : Int) (a5 : Int) (b6 : Int) (v4_0 : Int) (v4_1 : Int) : L82_1 n (m1 + 1) num0 den1 a5 b6 v4_0 v4_1 =
    (bif decide (b6 > 0) then (bif b6 == 0 then none
      else L82_1 n m1 num0 den1 b6 (Int.tmod a5 b6) v4_0 v4_1)
    else (bif a5 == 0 then none
      else (bif a5 == 0 then none
        else some (wr .i64 (Int.tdiv num0 a5),wr .i64 (Int.tdiv den1 a5))))) := by kernel_rfl
noncomputable def S82 (num0 : Int) (den1 : Int) : Option R82 := run (E82 n) c82 an82 rt82 (fun _ _ => none) rt82 { tm := [.c (.int .i64 num0),.c (.int .i64 den1),uu,uu,uu,uu,uu,uu,uu,uu,uu,uu,uu,uu,uu,uu,uu,uu,uu,uu,uu,uu,uu,uu,uu],hp := emp }
theorem S82_eq (num0 : Int) (den1 : Int) : S82 n num0 den1 =
    L82_1 n n.1 num0 den1 den1 (if (wr .i64 (0 - num0)) > num0 then (wr .i64 (0 - num0)) else num0) 0 0 := by kernel_rfl
theorem S82_run (xs : pksDen pk82) : S82 n xs.1 xs.2.1 = runG (E82 n) noScope c82 an82 (rtG rk82) (fun _ _ => none) (rtG rk82) (st0 pk82 xs Try.f82.ntmps) := by kernel_rfl
noncomputable def P82 := phiOf pk82 rk82 (fun xs => S82 n xs.1 xs.2.1)
theorem call82 : CallOK Try.prog 82 := callOK_of Try.func82 (by kernel_rfl) (by kernel_rfl)
theorem env82 : EnvOK Try.prog (E82 n) := envOK0 noPhi_ok rfl rfl
theorem par82 : EnvPar (E82 n) := envPar0 noPhi_par rfl
theorem FC82 : FCs Try.prog 82 (P82 n) := phiOf_FCs fun xs r h vs hv => FC.of_runG tabOK eqsOK (env82 n) (par82 n) mixed (fun _ => noScope_ok) Try.func82 (c := c82) (an := an82) (pks := pk82) (rks := rk82) (by kernel_rfl) (by kernel_rfl) hv ((S82_run n xs).symm.trans h)
abbrev R72 := Int × Int
abbrev K72 := St → Option R72
noncomputable def c72 : Code := bodyOf Try.f72
noncomputable def an72 : Ann := .l
def pk72 : List PK := [.c (.sl (.pair (.int .i64) (.int .i64)))]
def rk72 : List RK := [.box (.pair (.int .i64) (.int .i64)) 2]
noncomputable def rt72 (st : St) : Option R72 := rtG rk72 st
noncomputable def E72 : Env := { T := tab,phi := (consPhi 82 (fun _ => true) (P82 n) (consPhi 99 (fun _ => true) (P99 n) (consPhi 100 (fun _ => true) (P100 n) noPhi))),eff := fun _ => false,fuel := n.1,hold := n.2 }
noncomputable def S72 (l0 : LP) : Option R72 := run (E72 n) c72 an72 rt72 (fun _ _ => none) rt72 { tm := [.c (.sl (.pair (.int .i64) (.int .i64)) l0 false),uu,uu,uu,uu,uu,uu,uu],hp := emp }
theorem S72_eq (l0 : LP) : S72 n l0 =
    (S99 n l0).bind fun r1' =>
    (S100 n l0).bind fun r2' =>
    (S82 n r1' r2').bind fun r3' =>
    some r3' := by kernel_rfl
theorem S72_run (xs : pksDen pk72) : S72 n xs.1 = runG (E72 n) noScope c72 an72 (rtG rk72) (fun _ _ => none) (rtG rk72) (st0 pk72 xs Try.f72.ntmps) := by kernel_rfl
noncomputable def P72 := phiOf pk72 rk72 (fun xs => S72 n xs.1)
theorem call72 : CallOK Try.prog 72 := callOK_of Try.func72 (by kernel_rfl) (by kernel_rfl)
theorem env72 : EnvOK Try.prog (E72 n) := envOK0 (consPhi_ok (FC82 n) call82 (consPhi_ok (FC99 n) call99 (consPhi_ok (FC100 n) call100 noPhi_ok))) rfl rfl
theorem par72 : EnvPar (E72 n) := envPar0 (consPhi_par phiOf_Par1 (consPhi_par phiOf_Par1 (consPhi_par phiOf_Par1 noPhi_par))) rfl
theorem FC72 : FCs Try.prog 72 (P72 n) := phiOf_FCs fun xs r h vs hv => FC.of_runG tabOK eqsOK (env72 n) (par72 n) mixed (fun _ => noScope_ok) Try.func72 (c := c72) (an := an72) (pks := pk72) (rks := rk72) (by kernel_rfl) (by kernel_rfl) hv ((S72_run n xs).symm.trans h)
abbrev R23 := (Int × Int) × Int
abbrev K23 := St → Option R23
noncomputable def c23 : Code := bodyOf Try.f23
noncomputable def an23 : Ann := (.s .l (.s .l (.s (.s .l (.j [0,1,2,6,8,30,31,32] .l .l)) (.s (.s .l (.j [0,1,2,6,8] .l .l)) (.s (.s .l (.j [0,1,2,6] .l .l)) .l)))))
def pk23 : List PK := [.c (.sl (.pair (.int .i64) (.int .i64))),.c (.int .i64),.c (.int .i64)]
def rk23 : List RK := [.box (.pair (.int .i64) (.int .i64)) 6,.c (.int .i64) 7]
noncomputable def rt23 (st : St) : Option R23 := rtG rk23 st
noncomputable def E23 : Env := { T := tab,phi := (consPhi 25 (fun _ => true) (P25 n) (consPhi 71 (fun _ => true) (P71 n) (consPhi 72 (fun _ => true) (P72 n) noPhi))),eff := fun _ => false,fuel := n.1,hold := n.2 }
noncomputable def kq23_1 : K23 := run (E23 n) (cB (cB (cB c23))) an23.snd.snd.snd rt23 (fun _ _ => none) rt23
noncomputable def kc23_2 : K23 := fun s => normC [0,1,2,6,8,30,31,32] s (kq23_1 n)
noncomputable def kq23_3 : K23 := run (E23 n) (cB (cB (cB (cB c23)))) an23.snd.snd.snd.snd rt23 (fun _ _ => none) rt23
noncomputable def kc23_4 : K23 := fun s => normC [0,1,2,6,8] s (kq23_3 n)
noncomputable def kq23_5 : K23 := run (E23 n) (cB (cB (cB (cB (cB c23))))) an23.snd.snd.snd.snd.snd rt23 (fun _ _ => none) rt23
noncomputable def kc23_6 : K23 := fun s => normC [0,1,2,6] s (kq23_5 n)
noncomputable def S23 (l0 : LP) (begin1 : Int) (v2 : Int) : Option R23 := run (E23 n) c23 an23 rt23 (fun _ _ => none) rt23 { tm := [.c (.sl (.pair (.int .i64) (.int .i64)) l0 false),.c (.int .i64 begin1),.c (.int .i64 v2),uu,uu,uu,uu,uu,uu,uu,uu,uu,uu,uu,uu,uu,uu,uu,uu,uu,uu,uu,uu,uu,uu,uu,uu,uu,uu,uu,uu,uu,uu,uu,uu,uu,uu,uu,uu,uu,uu,uu,uu],hp := emp }
theorem S23_eq (l0 : LP) (begin1 : Int) (v2 : Int) : S23 n l0 begin1 v2 =
    (S25 n l0).bind fun r1' =>
    ((bif ((r1' == 0) == true) then (S71 n begin1 0 (l0.length : Int)).bind fun r2' =>
        ((bif ((!r2') == false) then (S71 n v2 0 (l0.length : Int)).bind fun r3' =>
            some (!r3')
          else some true)).bind fun b4' =>
        some b4'
      else some false)).bind fun b5' =>
    (bif b5' then ((bif ((2 == 0) == true) then some (decide (v2 ≤ begin1))
        else some false)).bind fun b6' =>
      (bif b6' then (bif (7 != 0) then some ((0,0),7)
        else (bif bounds (some begin1) (some v2) none l0.length then (S72 n ((l0.take (Int.toNat v2)).drop (Int.toNat begin1))).bind fun r7' =>
            some (r7',0)
          else none))
      else (bif (2 != 0) then some ((0,0),2)
        else (bif bounds (some begin1) (some v2) none l0.length then (S72 n ((l0.take (Int.toNat v2)).drop (Int.toNat begin1))).bind fun r8' =>
            some (r8',0)
          else none)))
    else ((bif ((r1' == 0) == true) then some (decide (v2 ≤ begin1))
        else some false)).bind fun b9' =>
      (bif b9' then (bif (7 != 0) then some ((0,0),7)
        else (bif bounds (some begin1) (some v2) none l0.length then (S72 n ((l0.take (Int.toNat v2)).drop (Int.toNat begin1))).bind fun r10' =>
            some (r10',0)
          else none))
      else (bif (r1' != 0) then some ((0,0),r1')
        else (bif bounds (some begin1) (some v2) none l0.length then (S72 n ((l0.take (Int.toNat v2)).drop (Int.toNat begin1))).bind fun r11' =>
            some (r11',0)
          else none)))) := by kernel_rfl
theorem S23_run (xs : pksDen pk23) : S23 n xs.1 xs.2.1 xs.2.2.1 = runG (E23 n) noScope c23 an23 (rtG rk23) (fun _ _ => none) (rtG rk23) (st0 pk23 xs Try.f23.ntmps) := by kernel_rfl
noncomputable def P23 := phiOf pk23 rk23 (fun xs => S23 n xs.1 xs.2.1 xs.2.2.1)
theorem call23 : CallOK Try.prog 23 := callOK_of Try.func23 (by kernel_rfl) (by kernel_rfl)
theorem env23 : EnvOK Try.prog (E23 n) := envOK0 (consPhi_ok (FC25 n) call25 (consPhi_ok (FC71 n) call71 (consPhi_ok (FC72 n) call72 noPhi_ok))) rfl rfl
theorem par23 : EnvPar (E23 n) := envPar0 (consPhi_par phiOf_Par1 (consPhi_par phiOf_Par1 (consPhi_par phiOf_Par1 noPhi_par))) rfl
theorem FC23 : FCs Try.prog 23 (P23 n) := phiOf_FCs fun xs r h vs hv => FC.of_runG tabOK eqsOK (env23 n) (par23 n) mixed (fun _ => noScope_ok) Try.func23 (c := c23) (an := an23) (pks := pk23) (rks := rk23) (by kernel_rfl) (by kernel_rfl) hv ((S23_run n xs).symm.trans h)
abbrev R74 := Int
abbrev K74 := St → Option R74
noncomputable def c74 : Code := bodyOf Try.f74
noncomputable def an74 : Ann := (.s .l (.s .l (.s (.s .l (.j [5] .l .l)) .l)))
def pk74 : List PK := [.c (.sl (.pair (.int .i64) (.int .i64))),.c (.int .i64)]
def rk74 : List RK := [.c (.int .i64) 4]
noncomputable def rt74 (st : St) : Option R74 := rtG rk74 st
noncomputable def E74 : Env := { T := tab,phi := (consPhi 25 (fun _ => true) (P25 n) (consPhi 71 (fun _ => true) (P71 n) noPhi)),eff := fun _ => false,fuel := n.1,hold := n.2 }
noncomputable def kq74_1 : K74 := run (E74 n) (cB (cB (cB c74))) an74.snd.snd.snd rt74 (fun _ _ => none) rt74
noncomputable def kc74_2 : K74 := fun s => normC [5] s (kq74_1 n)
noncomputable def S74 (l0 : LP) (i1 : Int) : Option R74 := run (E74 n) c74 an74 rt74 (fun _ _ => none) rt74 { tm := [.c (.sl (.pair (.int .i64) (.int .i64)) l0 false),.c (.int .i64 i1),uu,uu,uu,uu,uu,uu,uu,uu,uu,uu,uu,uu,uu,uu,uu,uu,uu],hp := emp }
theorem S74_eq (l0 : LP) (i1 : Int) : S74 n l0 i1 =
    (S25 n l0).bind fun r1' =>
    ((bif ((r1' == 0) == true) then (S71 n i1 0 (wr .i64 ((l0.length : Int) - 1))).bind fun r2' =>
        some (!r2')
      else some false)).bind fun b3' =>
    (bif b3' then some 2
    else some r1') := by kernel_rfl
theorem S74_run (xs : pksDen pk74) : S74 n xs.1 xs.2.1 = runG (E74 n) noScope c74 an74 (rtG rk74) (fun _ _ => none) (rtG rk74) (st0 pk74 xs Try.f74.ntmps) := by kernel_rfl
noncomputable def P74 := phiOf pk74 rk74 (fun xs => S74 n xs.1 xs.2.1)
theorem call74 : CallOK Try.prog 74 := callOK_of Try.func74 (by kernel_rfl) (by kernel_rfl)
theorem env74 : EnvOK Try.prog (E74 n) := envOK0 (consPhi_ok (FC25 n) call25 (consPhi_ok (FC71 n) call71 noPhi_ok)) rfl rfl
theorem par74 : EnvPar (E74 n) := envPar0 (consPhi_par phiOf_Par1 (consPhi_par phiOf_Par1 noPhi_par)) rfl
theorem FC74 : FCs Try.prog 74 (P74 n) := phiOf_FCs fun xs r h vs hv => FC.of_runG tabOK eqsOK (env74 n) (par74 n) mixed (fun _ => noScope_ok) Try.func74 (c := c74) (an := an74) (pks := pk74) (rks := rk74) (by kernel_rfl) (by kernel_rfl) hv ((S74_run n xs).symm.trans h)
abbrev R89 := Bool
abbrev K89 := St → Option R89
noncomputable def c89 : Code := bodyOf Try.f89
noncomputable def an89 : Ann := .l
def pk89 : List PK := [.c (.pair (.int .i64) (.int .i64)),.c (.pair (.int .i64) (.int .i64))]
def rk89 : List RK := [.c .bool 4]
noncomputable def rt89 (st : St) : Option R89 := rtG rk89 st
noncomputable def E89 : Env := { T := tab,phi := noPhi,eff := fun _ => false,fuel := n.1,hold := n.2 }
noncomputable def S89 (a0 : Int × Int) (b1 : Int × Int) : Option R89 := run (E89 n) c89 an89 rt89 (fun _ _ => none) rt89 { tm := [.agg [.int .i64 a0.1,.int .i64 a0.2],.agg [.int .i64 b1.1,.int .i64 b1.2],uu,uu,uu,uu,uu,uu,uu,uu,uu,uu,uu,uu,uu,uu],hp := emp }
theorem S89_eq (a0 : Int × Int) (b1 : Int × Int) : S89 n a0 b1 =
    some (decide (wr .i64 (a0.1 * b1.2) < wr .i64 (b1.1 * a0.2))) := by kernel_rfl
theorem S89_run (xs : pksDen pk89) : S89 n xs.1 xs.2.1 = runG (E89 n) noScope c89 an89 (rtG rk89) (fun _ _ => none) (rtG rk89) (st0 pk89 xs Try.f89.ntmps) := by kernel_rfl
noncomputable def P89 := phiOf pk89 rk89 (fun xs => S89 n xs.1 xs.2.1)
theorem call89 : CallOK Try.prog 89 := callOK_of Try.func89 (by kernel_rfl) (by kernel_rfl)
theorem env89 : EnvOK Try.prog (E89 n) := envOK0 noPhi_ok rfl rfl
theorem par89 : EnvPar (E89 n) := envPar0 noPhi_par rfl
theorem FC89 : FCs Try.prog 89 (P89 n) := phiOf_FCs fun xs r h vs hv => FC.of_runG tabOK eqsOK (env89 n) (par89 n) mixed (fun _ => noScope_ok) Try.func89 (c := c89) (an := an89) (pks := pk89) (rks := rk89) (by kernel_rfl) (by kernel_rfl) hv ((S89_run n xs).symm.trans h)
abbrev R75 := Int × Int
abbrev K75 := St → Option R75
noncomputable def c75 : Code := bodyOf Try.f75
noncomputable def an75 : Ann := (.s .l (.s .l (.s (.s .l (.j [4,5] (.j [0,1,4,5,6,42,43,44] (.s (.s .l (.j [0,1,4,5,6,42,43,44] .l .l)) (.j [] (.j [0,1,4,5,6,42,43,44] (.s .l (.s (.s .l (.j [0,1,4,5,6,7,42,43,44] (.j [0,1,4,5,6,7,8,42,43,44] (.s (.s .l (.j [0,1,4,5,6,7,8,42,43,44] .l .l)) (.j [] (.j [0,1,4,5,6,7,8,42,43,44] (.s .l (.s .l (.j [0,1,4,5,6,7,8,42,43,44] .l .l))) .l) .l)) .l) .l)) (.s .l (.j [0,1,4,5,6,42,43,44] .l .l)))) .l) .l)) .l) .l)) .l)))
def pk75 : List PK := [.c (.sl (.pair (.int .i64) (.int .i64))),.c (.int .i64)]
def rk75 : List RK := [.box (.pair (.int .i64) (.int .i64)) 4]
noncomputable def rt75 (st : St) : Option R75 := rtG rk75 st
noncomputable def E75 : Env := { T := tab,phi := (consPhi 72 (fun _ => true) (P72 n) (consPhi 89 (fun _ => true) (P89 n) noPhi)),eff := fun _ => false,fuel := n.1,hold := n.2 }
noncomputable def kq75_1 : K75 := run (E75 n) (cB (cB (cB c75))) an75.snd.snd.snd rt75 (fun _ _ => none) rt75
noncomputable def kc75_2 : K75 := fun s => normC [4,5] s (kq75_1 n)
noncomputable def xb75_3 : Nat → K75 := fun j s => bif Nat.beq j 0 then normC [4,5] s (kq75_1 n) else (fun _ _ => none) j s
noncomputable def F75_4 : (K75) → K75 := fun K s => run (E75 n) (cA (cA (cB (cA (cB (cB c75)))))) an75.snd.snd.fst.snd.fst.fst (fun s => normC [0,1,4,5,6,42,43,44] s K) (xb75_3 n) rt75 s
noncomputable def kq75_5 (m1 : Nat) : K75 := run (E75 n) (cB (cA (cA (cB (cA (cB (cB c75))))))) an75.snd.snd.fst.snd.fst.fst.snd (fun s => normC [0,1,4,5,6,42,43,44] s (loopN (F75_4 n) m1)) (xb75_3 n) rt75
noncomputable def kc75_6 (m1 : Nat) : K75 := fun s => normC [0,1,4,5,6,42,43,44] s (kq75_5 n m1)
noncomputable def kq75_7 (m1 : Nat) : K75 := run (E75 n) (cB (cB (cA (cA (cB (cA (cB (cB c75)))))))) an75.snd.snd.fst.snd.fst.fst.snd.snd (fun s => normC [0,1,4,5,6,42,43,44] s (loopN (F75_4 n) m1)) (xb75_3 n) rt75
noncomputable def kc75_8 (m1 : Nat) : K75 := fun s => normC [0,1,4,5,6,42,43,44] s (loopN (fun _ => (kq75_7 n m1)) n.2)
noncomputable def xb75_9 (m1 : Nat) : Nat → K75 := fun j s => bif Nat.beq j 1 then normC [0,1,4,5,6,42,43,44] s (loopN (fun _ => (kq75_7 n m1)) n.2) else (xb75_3 n) j s
noncomputable def kq75_10 (m1 : Nat) : K75 := run (E75 n) (cB (cB (cA (cA (cB (cA (cA (cB (cA (cB (cB c75))))))))))) an75.snd.snd.fst.snd.fst.fst.snd.fst.fst.snd.snd (kc75_8 n m1) (xb75_9 n m1) rt75
noncomputable def kc75_11 (m1 : Nat) : K75 := fun s => normC [0,1,4,5,6,7,42,43,44] s (kq75_10 n m1)
noncomputable def xb75_12 (m1 : Nat) : Nat → K75 := fun j s => bif Nat.beq j 2 then normC [0,1,4,5,6,7,42,43,44] s (kq75_10 n m1) else (xb75_9 n m1) j s
noncomputable def F75_13 (m1 : Nat) : (K75) → K75 := fun K s => run (E75 n) (cA (cA (cB (cA (cB (cA (cA (cB (cA (cA (cB (cA (cB (cB c75)))))))))))))) an75.snd.snd.fst.snd.fst.fst.snd.fst.fst.snd.fst.snd.fst.fst (fun s => normC [0,1,4,5,6,7,8,42,43,44] s K) (xb75_12 n m1) rt75 s
noncomputable def kq75_14 (m1 m2 : Nat) : K75 := run (E75 n) (cB (cA (cA (cB (cA (cB (cA (cA (cB (cA (cA (cB (cA (cB (cB c75))))))))))))))) an75.snd.snd.fst.snd.fst.fst.snd.fst.fst.snd.fst.snd.fst.fst.snd (fun s => normC [0,1,4,5,6,7,8,42,43,44] s (loopN (F75_13 n m1) m2)) (xb75_12 n m1) rt75
noncomputable def kc75_15 (m1 m2 : Nat) : K75 := fun s => normC [0,1,4,5,6,7,8,42,43,44] s (kq75_14 n m1 m2)
noncomputable def kq75_16 (m1 m2 : Nat) : K75 := run (E75 n) (cB (cB (cA (cA (cB (cA (cB (cA (cA (cB (cA (cA (cB (cA (cB (cB c75)))))))))))))))) an75.snd.snd.fst.snd.fst.fst.snd.fst.fst.snd.fst.snd.fst.fst.snd.snd (fun s => normC [0,1,4,5,6,7,8,42,43,44] s (loopN (F75_13 n m1) m2)) (xb75_12 n m1) rt75
noncomputable def kc75_17 (m1 m2 : Nat) : K75 := fun s => normC [0,1,4,5,6,7,8,42,43,44] s (loopN (fun _ => (kq75_16 n m1 m2)) n.2)
noncomputable def xb75_18 (m1 m2 : Nat) : Nat → K75 := fun j s => bif Nat.beq j 3 then normC [0,1,4,5,6,7,8,42,43,44] s (loopN (fun _ => (kq75_16 n m1 m2)) n.2) else (xb75_12 n m1) j s
noncomputable def kc75_19 (m1 m2 : Nat) : K75 := fun s => normC [0,1,4,5,6,7,8,42,43,44] s (kc75_17 n m1 m2)
noncomputable def kc75_20 (m1 : Nat) : K75 := fun s => normC [0,1,4,5,6,42,43,44] s (kc75_8 n m1)
noncomputable def L75_1 (m : Nat) (l0 : LP) (i1 : Int) (a6 : Int) (v4_0 : Int) (v4_1 : Int) (best5_0 : Int) (best5_1 : Int) : Option R75 := loopN (F75_4 n) m { tm := [.c (.sl (.pair (.int .i64) (.int .i64)) l0 false),.c (.int .i64 i1),uu,uu,.ptr 4 0,.ptr 5 0,.c (.int .i64 a6),uu,uu,uu,uu,uu,uu,uu,uu,uu,uu,uu,uu,uu,uu,uu,uu,uu,uu,uu,uu,uu,uu,uu,uu,uu,uu,uu,uu,uu,uu,uu,uu,uu,uu,uu,uu,uu,uu,uu,uu,uu],hp := (upd (upd emp 5 (.box [.int .i64 best5_0,.int .i64 best5_1])) 4 (.box [.int .i64 v4_0,.int .i64 v4_1])) }
noncomputable def L75_2 (m1 : Nat) (m : Nat) (l0 : LP) (i1 : Int) (a6 : Int) (b8 : Int) (v4_0 : Int) (v4_1 : Int) (best5_0 : Int) (best5_1 : Int) (least7_0 : Int) (least7_1 : Int) : Option R75 := loopN (F75_13 n m1) m { tm := [.c (.sl (.pair (.int .i64) (.int .i64)) l0 false),.c (.int .i64 i1),uu,uu,.ptr 4 0,.ptr 5 0,.c (.int .i64 a6),.ptr 7 0,.c (.int .i64 b8),uu,uu,uu,uu,uu,uu,uu,uu,uu,uu,uu,uu,uu,uu,uu,uu,uu,uu,uu,uu,uu,uu,uu,uu,uu,uu,uu,uu,uu,uu,uu,uu,uu,uu,uu,uu,uu,uu,uu],hp := (upd (upd (upd emp 7 (.box [.int .i64 least7_0,.int .i64 least7_1])) 5 (.box [.int .i64 best5_0,.int .i64 best5_1])) 4 (.box [.int .i64 v4_0,.int .i64 v4_1])) }
noncomputable def L75_3 (m1 m2 : Nat) (l0 : LP) (i1 : Int) (a6 : Int) (b8 : Int) (v4_0 : Int) (v4_1 : Int) (best5_0 : Int) (best5_1 : Int) (least7_0 : Int) (least7_1 : Int) : Option R75 := loopN (fun _ => (kq75_16 n m1 m2)) n.2 { tm := [.c (.sl (.pair (.int .i64) (.int .i64)) l0 false),.c (.int .i64 i1),uu,uu,.ptr 4 0,.ptr 5 0,.c (.int .i64 a6),.ptr 7 0,.c (.int .i64 b8),uu,uu,uu,uu,uu,uu,uu,uu,uu,uu,uu,uu,uu,uu,uu,uu,uu,uu,uu,uu,uu,uu,uu,uu,uu,uu,uu,uu,uu,uu,uu,uu,uu,uu,uu,uu,uu,uu,uu],hp := (upd (upd (upd emp 7 (.box [.int .i64 least7_0,.int .i64 least7_1])) 5 (.box [.int .i64 best5_0,.int .i64 best5_1])) 4 (.box [.int .i64 v4_0,.int .i64 v4_1])) }
noncomputable def L75_4 (m1 : Nat) (l0 : LP) (i1 : Int) (a6 : Int) (v4_0 : Int) (v4_1 : Int) (best5_0 : Int) (best5_1 : Int) : Option R75 := loopN (fun _ => (kq75_7 n m1)) n.2 { tm := [.c (.sl (.pair (.int .i64) (.int .i64)) l0 false),.c (.int .i64 i1),uu,uu,.ptr 4 0,.ptr 5 0,.c (.int .i64 a6),uu,uu,uu,uu,uu,uu,uu,uu,uu,uu,uu,uu,uu,uu,uu,uu,uu,uu,uu,uu,uu,uu,uu,uu,uu,uu,uu,uu,uu,uu,uu,uu,uu,uu,uu,uu,uu,uu,uu,uu,uu],hp := (upd (upd emp 5 (.box [.int .i64 best5_0,.int .i64 best5_1])) 4 (.box [.int .i64 v4_0,.int .i64 v4_1])) }
theorem L75_1_eq (m1 : Nat) (l0 : LP) (i1 : Int) (a6 : Int) (v4_0 : Int) (v4_1 : Int) (best5_0 : Int) (best5_1 : Int) : L75_1 n (m1 + 1) l0 i1 a6 v4_0 v4_1 best5_0 best5_1 =
    (bif decide (a6 ≤ i1) then (bif bounds (some a6) (some (wr .i64 (i1 + 1))) none l0.length then (S72 n ((l0.take (Int.toNat (wr .i64 (i1 + 1)))).drop (Int.toNat a6))).bind fun r1' =>
        L75_2 n m1 n.1 l0 i1 a6 (wr .i64 (i1 + 1)) v4_0 v4_1 best5_0 best5_1 r1'.1 r1'.2
      else none)
    else some (best5_0,best5_1)) := by kernel_rfl
theorem L75_2_eq (m1 m2 : Nat) (l0 : LP) (i1 : Int) (a6 : Int) (b8 : Int) (v4_0 : Int) (v4_1 : Int) (best5_0 : Int) (best5_1 : Int) (least7_0 : Int) (least7_1 : Int) : L75_2 n m1 (m2 + 1) l0 i1 a6 b8 v4_0 v4_1 best5_0 best5_1 least7_0 least7_1 =
    (bif decide (b8 < (l0.length : Int)) then (bif bounds (some a6) (some (wr .i64 (b8 + 1))) none l0.length then (S72 n ((l0.take (Int.toNat (wr .i64 (b8 + 1)))).drop (Int.toNat a6))).bind fun r2' =>
        (S89 n r2' (least7_0,least7_1)).bind fun r3' =>
        (bif r3' then L75_3 n m1 m2 l0 i1 a6 b8 v4_0 v4_1 best5_0 best5_1 r2'.1 r2'.2
        else L75_3 n m1 m2 l0 i1 a6 b8 v4_0 v4_1 best5_0 best5_1 least7_0 least7_1)
      else none)
    else ((bif ((a6 == 0) == false) then (S89 n (best5_0,best5_1) (least7_0,least7_1)).bind fun r4' =>
          some r4'
        else some true)).bind fun b5' =>
      (bif b5' then L75_4 n m1 l0 i1 a6 v4_0 v4_1 least7_0 least7_1
      else L75_4 n m1 l0 i1 a6 v4_0 v4_1 best5_0 best5_1)) := by kernel_rfl
theorem L75_3_raw (m1 m2 : Nat) (l0 : LP) (i1 : Int) (a6 : Int) (b8 : Int) (v4_0 : Int) (v4_1 : Int) (best5_0 : Int) (best5_1 : Int) (least7_0 : Int) (least7_1 : Int) : (kq75_16 n m1 m2) { tm := [.c (.sl (.pair (.int .i64) (.int .i64)) l0 false),.c (.int .i64 i1),uu,uu,.ptr 4 0,.ptr 5 0,.c (.int .i64 a6),.ptr 7 0,.c (.int .i64 b8),uu,uu,uu,uu,uu,uu,uu,uu,uu,uu,uu,uu,uu,uu,uu,uu,uu,uu,uu,uu,uu,uu,uu,uu,uu,uu,uu,uu,uu,uu,uu,uu,uu,uu,uu,uu,uu,uu,uu],hp := (upd (upd (upd emp 7 (.box [.int .i64 least7_0,.int .i64 least7_1])) 5 (.box [.int .i64 best5_0,.int .i64 best5_1])) 4 (.box [.int .i64 v4_0,.int .i64 v4_1])) } =
    L75_2 n m1 m2 l0 i1 a6 (wr .i64 (b8 + 1)) v4_0 v4_1 best5_0 best5_1 least7_0 least7_1 := by kernel_rfl
theorem L75_4_raw (m1 : Nat) (l0 : LP) (i1 : Int) (a6 : Int) (v4_0 : Int) (v4_1 : Int) (best5_0 : Int) (best5_1 : Int) : (kq75_7 n m1) { tm := [.c (.sl (.pair (.int .i64) (.int .i64)) l0 false),.c (.int .i64 i1),uu,uu,.ptr 4 0,.ptr 5 0,.c (.int .i64 a6),uu,uu,uu,uu,uu,uu,uu,uu,uu,uu,uu,uu,uu,uu,uu,uu,uu,uu,uu,uu,uu,uu,uu,uu,uu,uu,uu,uu,uu,uu,uu,uu,uu,uu,uu,uu,uu,uu,uu,uu,uu],hp := (upd (upd emp 5 (.box [.int .i64 best5_0,.int .i64 best5_1])) 4 (.box [.int .i64 v4_0,.int .i64 v4_1])) } =
    L75_1 n m1 l0 i1 (wr .i64 (a6 + 1)) v4_0 v4_1 best5_0 best5_1 := by kernel_rfl
noncomputable def S75 (l0 : LP) (i1 : Int) : Option R75 := run (E75 n) c75 an75 rt75 (fun _ _ => none) rt75 { tm := [.c (.sl (.pair (.int .i64) (.int .i64)) l0 false),.c (.int .i64 i1),uu,uu,uu,uu,uu,uu,uu,uu,uu,uu,uu,uu,uu,uu,uu,uu,uu,uu,uu,uu,uu,uu,uu,uu,uu,uu,uu,uu,uu,uu,uu,uu,uu,uu,uu,uu,uu,uu,uu,uu,uu,uu,uu,uu,uu,uu],hp := emp }
theorem S75_eq (l0 : LP) (i1 : Int) : S75 n l0 i1 =
    L75_1 n n.1 l0 i1 0 0 0 0 0 := by kernel_rfl
theorem S75_run (xs : pksDen pk75) : S75 n xs.1 xs.2.1 = runG (E75 n) noScope c75 an75 (rtG rk75) (fun _ _ => none) (rtG rk75) (st0 pk75 xs Try.f75.ntmps) := by kernel_rfl
noncomputable def P75 := phiOf pk75 rk75 (fun xs => S75 n xs.1 xs.2.1)
theorem call75 : CallOK Try.prog 75 := callOK_of Try.func75 (by kernel_rfl) (by kernel_rfl)
theorem env75 : EnvOK Try.prog (E75 n) := envOK0 (consPhi_ok (FC72 n) call72 (consPhi_ok (FC89 n) call89 noPhi_ok)) rfl rfl
theorem par75 : EnvPar (E75 n) := envPar0 (consPhi_par phiOf_Par1 (consPhi_par phiOf_Par1 noPhi_par)) rfl
theorem FC75 : FCs Try.prog 75 (P75 n) := phiOf_FCs fun xs r h vs hv => FC.of_runG tabOK eqsOK (env75 n) (par75 n) mixed (fun _ => noScope_ok) Try.func75 (c := c75) (an := an75) (pks := pk75) (rks := rk75) (by kernel_rfl) (by kernel_rfl) hv ((S75_run n xs).symm.trans h)
abbrev R27 := (Int × Int) × Int
abbrev K27 := St → Option R27
noncomputable def c27 : Code := bodyOf Try.f27
noncomputable def an27 : Ann := (.s .l (.s .l (.s (.s .l (.j [0,1,4] .l .l)) .l)))
def pk27 : List PK := [.c (.sl (.pair (.int .i64) (.int .i64))),.c (.int .i64)]
def rk27 : List RK := [.box (.pair (.int .i64) (.int .i64)) 4,.c (.int .i64) 5]
noncomputable def rt27 (st : St) : Option R27 := rtG rk27 st
noncomputable def E27 : Env := { T := tab,phi := (consPhi 74 (fun _ => true) (P74 n) (consPhi 75 (fun _ => true) (P75 n) noPhi)),eff := fun _ => false,fuel := n.1,hold := n.2 }
noncomputable def kq27_1 : K27 := run (E27 n) (cB (cB (cB c27))) an27.snd.snd.snd rt27 (fun _ _ => none) rt27
noncomputable def kc27_2 : K27 := fun s => normC [0,1,4] s (kq27_1 n)
noncomputable def S27 (l0 : LP) (i1 : Int) : Option R27 := run (E27 n) c27 an27 rt27 (fun _ _ => none) rt27 { tm := [.c (.sl (.pair (.int .i64) (.int .i64)) l0 false),.c (.int .i64 i1),uu,uu,uu,uu,uu,uu,uu,uu,uu,uu,uu,uu,uu,uu,uu],hp := emp }
theorem S27_eq (l0 : LP) (i1 : Int) : S27 n l0 i1 =
    (S74 n l0 i1).bind fun r1' =>
    (bif (r1' != 0) then some ((0,0),r1')
    else (S75 n l0 i1).bind fun r2' =>
      some (r2',0)) := by kernel_rfl
theorem S27_run (xs : pksDen pk27) : S27 n xs.1 xs.2.1 = runG (E27 n) noScope c27 an27 (rtG rk27) (fun _ _ => none) (rtG rk27) (st0 pk27 xs Try.f27.ntmps) := by kernel_rfl
noncomputable def P27 := phiOf pk27 rk27 (fun xs => S27 n xs.1 xs.2.1)
theorem call27 : CallOK Try.prog 27 := callOK_of Try.func27 (by kernel_rfl) (by kernel_rfl)
theorem env27 : EnvOK Try.prog (E27 n) := envOK0 (consPhi_ok (FC74 n) call74 (consPhi_ok (FC75 n) call75 noPhi_ok)) rfl rfl
theorem par27 : EnvPar (E27 n) := envPar0 (consPhi_par phiOf_Par1 (consPhi_par phiOf_Par1 noPhi_par)) rfl
theorem FC27 : FCs Try.prog 27 (P27 n) := phiOf_FCs fun xs r h vs hv => FC.of_runG tabOK eqsOK (env27 n) (par27 n) mixed (fun _ => noScope_ok) Try.func27 (c := c27) (an := an27) (pks := pk27) (rks := rk27) (by kernel_rfl) (by kernel_rfl) hv ((S27_run n xs).symm.trans h)
abbrev R76 := Int × Int
abbrev K76 := St → Option R76
noncomputable def c76 : Code := bodyOf Try.f76
noncomputable def an76 : Ann := (.s .l (.s .l (.s (.s .l (.j [4,5] (.j [0,1,4,5,6,42,43,44] (.s (.s .l (.j [0,1,4,5,6,42,43,44] .l .l)) (.j [] (.j [0,1,4,5,6,42,43,44] (.s .l (.s (.s .l (.j [0,1,4,5,6,7,42,43,44] (.j [0,1,4,5,6,7,8,42,43,44] (.s (.s .l (.j [0,1,4,5,6,7,8,42,43,44] .l .l)) (.j [] (.j [0,1,4,5,6,7,8,42,43,44] (.s .l (.s .l (.j [0,1,4,5,6,7,8,42,43,44] .l .l))) .l) .l)) .l) .l)) (.s .l (.j [0,1,4,5,6,42,43,44] .l .l)))) .l) .l)) .l) .l)) .l)))
def pk76 : List PK := [.c (.sl (.pair (.int .i64) (.int .i64))),.c (.int .i64)]
def rk76 : List RK := [.box (.pair (.int .i64) (.int .i64)) 4]
noncomputable def rt76 (st : St) : Option R76 := rtG rk76 st
noncomputable def E76 : Env := { T := tab,phi := (consPhi 72 (fun _ => true) (P72 n) (consPhi 89 (fun _ => true) (P89 n) noPhi)),eff := fun _ => false,fuel := n.1,hold := n.2 }
noncomputable def kq76_1 : K76 := run (E76 n) (cB (cB (cB c76))) an76.snd.snd.snd rt76 (fun _ _ => none) rt76
noncomputable def kc76_2 : K76 := fun s => normC [4,5] s (kq76_1 n)
noncomputable def xb76_3 : Nat → K76 := fun j s => bif Nat.beq j 0 then normC [4,5] s (kq76_1 n) else (fun _ _ => none) j s
noncomputable def F76_4 : (K76) → K76 := fun K s => run (E76 n) (cA (cA (cB (cA (cB (cB c76)))))) an76.snd.snd.fst.snd.fst.fst (fun s => normC [0,1,4,5,6,42,43,44] s K) (xb76_3 n) rt76 s
noncomputable def kq76_5 (m1 : Nat) : K76 := run (E76 n) (cB (cA (cA (cB (cA (cB (cB c76))))))) an76.snd.snd.fst.snd.fst.fst.snd (fun s => normC [0,1,4,5,6,42,43,44] s (loopN (F76_4 n) m1)) (xb76_3 n) rt76
noncomputable def kc76_6 (m1 : Nat) : K76 := fun s => normC [0,1,4,5,6,42,43,44] s (kq76_5 n m1)
noncomputable def kq76_7 (m1 : Nat) : K76 := run (E76 n) (cB (cB (cA (cA (cB (cA (cB (cB c76)))))))) an76.snd.snd.fst.snd.fst.fst.snd.snd (fun s => normC [0,1,4,5,6,42,43,44] s (loopN (F76_4 n) m1)) (xb76_3 n) rt76
noncomputable def kc76_8 (m1 : Nat) : K76 := fun s => normC [0,1,4,5,6,42,43,44] s (loopN (fun _ => (kq76_7 n m1)) n.2)
noncomputable def xb76_9 (m1 : Nat) : Nat → K76 := fun j s => bif Nat.beq j 1 then normC [0,1,4,5,6,42,43,44] s (loopN (fun _ => (kq76_7 n m1)) n.2) else (xb76_3 n) j s
noncomputable def kq76_10 (m1 : Nat) : K76 := run (E76 n) (cB (cB (cA (cA (cB (cA (cA (cB (cA (cB (cB c76))))))))))) an76.snd.snd.fst.snd.fst.fst.snd.fst.fst.snd.snd (kc76_8 n m1) (xb76_9 n m1) rt76
noncomputable def kc76_11 (m1 : Nat) : K76 := fun s => normC [0,1,4,5,6,7,42,43,44] s (kq76_10 n m1)
noncomputable def xb76_12 (m1 : Nat) : Nat → K76 := fun j s => bif Nat.beq j 2 then normC [0,1,4,5,6,7,42,43,44] s (kq76_10 n m1) else (xb76_9 n m1) j s
noncomputable def F76_13 (m1 : Nat) : (K76) → K76 := fun K s => run (E76 n) (cA (cA (cB (cA (cB (cA (cA (cB (cA (cA (cB (cA (cB (cB c76)))))))))))))) an76.snd.snd.fst.snd.fst.fst.snd.fst.fst.snd.fst.snd.fst.fst (fun s => normC [0,1,4,5,6,7,8,42,43,44] s K) (xb76_12 n m1) rt76 s
noncomputable def kq76_14 (m1 m2 : Nat) : K76 := run (E76 n) (cB (cA (cA (cB (cA (cB (cA (cA (cB (cA (cA (cB (cA (cB (cB c76))))))))))))))) an76.snd.snd.fst.snd.fst.fst.snd.fst.fst.snd.fst.snd.fst.fst.snd (fun s => normC [0,1,4,5,6,7,8,42,43,44] s (loopN (F76_13 n m1) m2)) (xb76_12 n m1) rt76
noncomputable def kc76_15 (m1 m2 : Nat) : K76 := fun s => normC [0,1,4,5,6,7,8,42,43,44] s (kq76_14 n m1 m2)
noncomputable def kq76_16 (m1 m2 : Nat) : K76 := run (E76 n) (cB (cB (cA (cA (cB (cA (cB (cA (cA (cB (cA (cA (cB (cA (cB (cB c76)))))))))))))))) an76.snd.snd.fst.snd.fst.fst.snd.fst.fst.snd.fst.snd.fst.fst.snd.snd (fun s => normC [0,1,4,5,6,7,8,42,43,44] s (loopN (F76_13 n m1) m2)) (xb76_12 n m1) rt76
noncomputable def kc76_17 (m1 m2 : Nat) : K76 := fun s => normC [0,1,4,5,6,7,8,42,43,44] s (loopN (fun _ => (kq76_16 n m1 m2)) n.2)
noncomputable def xb76_18 (m1 m2 : Nat) : Nat → K76 := fun j s => bif Nat.beq j 3 then normC [0,1,4,5,6,7,8,42,43,44] s (loopN (fun _ => (kq76_16 n m1 m2)) n.2) else (xb76_12 n m1) j s
noncomputable def kc76_19 (m1 m2 : Nat) : K76 := fun s => normC [0,1,4,5,6,7,8,42,43,44] s (kc76_17 n m1 m2)
noncomputable def kc76_20 (m1 : Nat) : K76 := fun s => normC [0,1,4,5,6,42,43,44] s (kc76_8 n m1)
noncomputable def L76_1 (m : Nat) (l0 : LP) (i1 : Int) (b6 : Int) (v4_0 : Int) (v4_1 : Int) (best5_0 : Int) (best5_1 : Int) : Option R76 := loopN (F76_4 n) m { tm := [.c (.sl (.pair (.int .i64) (.int .i64)) l0 false),.c (.int .i64 i1),uu,uu,.ptr 4 0,.ptr 5 0,.c (.int .i64 b6),uu,uu,uu,uu,uu,uu,uu,uu,uu,uu,uu,uu,uu,uu,uu,uu,uu,uu,uu,uu,uu,uu,uu,uu,uu,uu,uu,uu,uu,uu,uu,uu,uu,uu,uu,uu,uu,uu,uu,uu,uu],hp := (upd (upd emp 5 (.box [.int .i64 best5_0,.int .i64 best5_1])) 4 (.box [.int .i64 v4_0,.int .i64 v4_1])) }
noncomputable def L76_2 (m1 : Nat) (m : Nat) (l0 : LP) (i1 : Int) (b6 : Int) (a8 : Int) (v4_0 : Int) (v4_1 : Int) (best5_0 : Int) (best5_1 : Int) (most7_0 : Int) (most7_1 : Int) : Option R76 := loopN (F76_13 n m1) m { tm := [.c (.sl (.pair (.int .i64) (.int .i64)) l0 false),.c (.int .i64 i1),uu,uu,.ptr 4 0,.ptr 5 0,.c (.int .i64 b6),.ptr 7 0,.c (.int .i64 a8),uu,uu,uu,uu,uu,uu,uu,uu,uu,uu,uu,uu,uu,uu,uu,uu,uu,uu,uu,uu,uu,uu,uu,uu,uu,uu,uu,uu,uu,uu,uu,uu,uu,uu,uu,uu,uu,uu,uu],hp := (upd (upd (upd emp 7 (.box [.int .i64 most7_0,.int .i64 most7_1])) 5 (.box [.int .i64 best5_0,.int .i64 best5_1])) 4 (.box [.int .i64 v4_0,.int .i64 v4_1])) }
noncomputable def L76_3 (m1 m2 : Nat) (l0 : LP) (i1 : Int) (b6 : Int) (a8 : Int) (v4_0 : Int) (v4_1 : Int) (best5_0 : Int) (best5_1 : Int) (most7_0 : Int) (most7_1 : Int) : Option R76 := loopN (fun _ => (kq76_16 n m1 m2)) n.2 { tm := [.c (.sl (.pair (.int .i64) (.int .i64)) l0 false),.c (.int .i64 i1),uu,uu,.ptr 4 0,.ptr 5 0,.c (.int .i64 b6),.ptr 7 0,.c (.int .i64 a8),uu,uu,uu,uu,uu,uu,uu,uu,uu,uu,uu,uu,uu,uu,uu,uu,uu,uu,uu,uu,uu,uu,uu,uu,uu,uu,uu,uu,uu,uu,uu,uu,uu,uu,uu,uu,uu,uu,uu],hp := (upd (upd (upd emp 7 (.box [.int .i64 most7_0,.int .i64 most7_1])) 5 (.box [.int .i64 best5_0,.int .i64 best5_1])) 4 (.box [.int .i64 v4_0,.int .i64 v4_1])) }
noncomputable def L76_4 (m1 : Nat) (l0 : LP) (i1 : Int) (b6 : Int) (v4_0 : Int) (v4_1 : Int) (best5_0 : Int) (best5_1 : Int) : Option R76 := loopN (fun _ => (kq76_7 n m1)) n.2 { tm := [.c (.sl (.pair (.int .i64) (.int .i64)) l0 false),.c (.int .i64 i1),uu,uu,.ptr 4 0,.ptr 5 0,.c (.int .i64 b6),uu,uu,uu,uu,uu,uu,uu,uu,uu,uu,uu,uu,uu,uu,uu,uu,uu,uu,uu,uu,uu,uu,uu,uu,uu,uu,uu,uu,uu,uu,uu,uu,uu,uu,uu,uu,uu,uu,uu,uu,uu],hp := (upd (upd emp 5 (.box [.int .i64 best5_0,.int .i64 best5_1])) 4 (.box [.int .i64 v4_0,.int .i64 v4_1])) }
theorem L76_1_eq (m1 : Nat) (l0 : LP) (i1 : Int) (b6 : Int) (v4_0 : Int) (v4_1 : Int) (best5_0 : Int) (best5_1 : Int) : L76_1 n (m1 + 1) l0 i1 b6 v4_0 v4_1 best5_0 best5_1 =
    (bif decide (b6 < (l0.length : Int)) then (bif bounds (some i1) (some (wr .i64 (b6 + 1))) none l0.length then (S72 n ((l0.take (Int.toNat (wr .i64 (b6 + 1)))).drop (Int.toNat i1))).bind fun r1' =>
        L76_2 n m1 n.1 l0 i1 b6 0 v4_0 v4_1 best5_0 best5_1 r1'.1 r1'.2
      else none)
    else some (best5_0,best5_1)) := by kernel_rfl
theorem L76_2_eq (m1 m2 : Nat) (l0 : LP) (i1 : Int) (b6 : Int) (a8 : Int) (v4_0 : Int) (v4_1 : Int) (best5_0 : Int) (best5_1 : Int) (most7_0 : Int) (most7_1 : Int) : L76_2 n m1 (m2 + 1) l0 i1 b6 a8 v4_0 v4_1 best5_0 best5_1 most7_0 most7_1 =
    (bif decide (a8 < i1) then (bif bounds (some a8) (some (wr .i64 (b6 + 1))) none l0.length then (S72 n ((l0.take (Int.toNat (wr .i64 (b6 + 1)))).drop (Int.toNat a8))).bind fun r2' =>
        (S89 n (most7_0,most7_1) r2').bind fun r3' =>
        (bif r3' then L76_3 n m1 m2 l0 i1 b6 a8 v4_0 v4_1 best5_0 best5_1 r2'.1 r2'.2
        else L76_3 n m1 m2 l0 i1 b6 a8 v4_0 v4_1 best5_0 best5_1 most7_0 most7_1)
      else none)
    else ((bif ((b6 == i1) == false) then (S89 n (most7_0,most7_1) (best5_0,best5_1)).bind fun r4' =>
          some r4'
        else some true)).bind fun b5' =>
      (bif b5' then L76_4 n m1 l0 i1 b6 v4_0 v4_1 most7_0 most7_1
      else L76_4 n m1 l0 i1 b6 v4_0 v4_1 best5_0 best5_1)) := by kernel_rfl
theorem L76_3_raw (m1 m2 : Nat) (l0 : LP) (i1 : Int) (b6 : Int) (a8 : Int) (v4_0 : Int) (v4_1 : Int) (best5_0 : Int) (best5_1 : Int) (most7_0 : Int) (most7_1 : Int) : (kq76_16 n m1 m2) { tm := [.c (.sl (.pair (.int .i64) (.int .i64)) l0 false),.c (.int .i64 i1),uu,uu,.ptr 4 0,.ptr 5 0,.c (.int .i64 b6),.ptr 7 0,.c (.int .i64 a8),uu,uu,uu,uu,uu,uu,uu,uu,uu,uu,uu,uu,uu,uu,uu,uu,uu,uu,uu,uu,uu,uu,uu,uu,uu,uu,uu,uu,uu,uu,uu,uu,uu,uu,uu,uu,uu,uu,uu],hp := (upd (upd (upd emp 7 (.box [.int .i64 most7_0,.int .i64 most7_1])) 5 (.box [.int .i64 best5_0,.int .i64 best5_1])) 4 (.box [.int .i64 v4_0,.int .i64 v4_1])) } =
    L76_2 n m1 m2 l0 i1 b6 (wr .i64 (a8 + 1)) v4_0 v4_1 best5_0 best5_1 most7_0 most7_1 := by kernel_rfl
theorem L76_4_raw (m1 : Nat) (l0 : LP) (i1 : Int) (b6 : Int) (v4_0 : Int) (v4_1 : Int) (best5_0 : Int) (best5_1 : Int) : (kq76_7 n m1) { tm := [.c (.sl (.pair (.int .i64) (.int .i64)) l0 false),.c (.int .i64 i1),uu,uu,.ptr 4 0,.ptr 5 0,.c (.int .i64 b6),uu,uu,uu,uu,uu,uu,uu,uu,uu,uu,uu,uu,uu,uu,uu,uu,uu,uu,uu,uu,uu,uu,uu,uu,uu,uu,uu,uu,uu,uu,uu,uu,uu,uu,uu,uu,uu,uu,uu,uu,uu],hp := (upd (upd emp 5 (.box [.int .i64 best5_0,.int .i64 best5_1])) 4 (.box [.int .i64 v4_0,.int .i64 v4_1])) } =
    L76_1 n m1 l0 i1 (wr .i64 (b6 + 1)) v4_0 v4_1 best5_0 best5_1 := by kernel_rfl
noncomputable def S76 (l0 : LP) (i1 : Int) : Option R76 := run (E76 n) c76 an76 rt76 (fun _ _ => none) rt76 { tm := [.c (.sl (.pair (.int .i64) (.int .i64)) l0 false),.c (.int .i64 i1),uu,uu,uu,uu,uu,uu,uu,uu,uu,uu,uu,uu,uu,uu,uu,uu,uu,uu,uu,uu,uu,uu,uu,uu,uu,uu,uu,uu,uu,uu,uu,uu,uu,uu,uu,uu,uu,uu,uu,uu,uu,uu,uu,uu,uu,uu],hp := emp }
theorem S76_eq (l0 : LP) (i1 : Int) : S76 n l0 i1 =
    L76_1 n n.1 l0 i1 i1 0 0 0 0 := by kernel_rfl
theorem S76_run (xs : pksDen pk76) : S76 n xs.1 xs.2.1 = runG (E76 n) noScope c76 an76 (rtG rk76) (fun _ _ => none) (rtG rk76) (st0 pk76 xs Try.f76.ntmps) := by kernel_rfl
noncomputable def P76 := phiOf pk76 rk76 (fun xs => S76 n xs.1 xs.2.1)
theorem call76 : CallOK Try.prog 76 := callOK_of Try.func76 (by kernel_rfl) (by kernel_rfl)
theorem env76 : EnvOK Try.prog (E76 n) := envOK0 (consPhi_ok (FC72 n) call72 (consPhi_ok (FC89 n) call89 noPhi_ok)) rfl rfl
theorem par76 : EnvPar (E76 n) := envPar0 (consPhi_par phiOf_Par1 (consPhi_par phiOf_Par1 noPhi_par)) rfl
theorem FC76 : FCs Try.prog 76 (P76 n) := phiOf_FCs fun xs r h vs hv => FC.of_runG tabOK eqsOK (env76 n) (par76 n) mixed (fun _ => noScope_ok) Try.func76 (c := c76) (an := an76) (pks := pk76) (rks := rk76) (by kernel_rfl) (by kernel_rfl) hv ((S76_run n xs).symm.trans h)
abbrev R29 := (Int × Int) × Int
abbrev K29 := St → Option R29
noncomputable def c29 : Code := bodyOf Try.f29
noncomputable def an29 : Ann := (.s .l (.s .l (.s (.s .l (.j [0,1,4] .l .l)) .l)))
def pk29 : List PK := [.c (.sl (.pair (.int .i64) (.int .i64))),.c (.int .i64)]
def rk29 : List RK := [.box (.pair (.int .i64) (.int .i64)) 4,.c (.int .i64) 5]
noncomputable def rt29 (st : St) : Option R29 := rtG rk29 st
noncomputable def E29 : Env := { T := tab,phi := (consPhi 74 (fun _ => true) (P74 n) (consPhi 76 (fun _ => true) (P76 n) noPhi)),eff := fun _ => false,fuel := n.1,hold := n.2 }
noncomputable def kq29_1 : K29 := run (E29 n) (cB (cB (cB c29))) an29.snd.snd.snd rt29 (fun _ _ => none) rt29
noncomputable def kc29_2 : K29 := fun s => normC [0,1,4] s (kq29_1 n)
noncomputable def S29 (l0 : LP) (i1 : Int) : Option R29 := run (E29 n) c29 an29 rt29 (fun _ _ => none) rt29 { tm := [.c (.sl (.pair (.int .i64) (.int .i64)) l0 false),.c (.int .i64 i1),uu,uu,uu,uu,uu,uu,uu,uu,uu,uu,uu,uu,uu,uu,uu],hp := emp }
theorem S29_eq (l0 : LP) (i1 : Int) : S29 n l0 i1 =
    (S74 n l0 i1).bind fun r1' =>
    (bif (r1' != 0) then some ((0,0),r1')
    else (S76 n l0 i1).bind fun r2' =>
      some (r2',0)) := by kernel_rfl
theorem S29_run (xs : pksDen pk29) : S29 n xs.1 xs.2.1 = runG (E29 n) noScope c29 an29 (rtG rk29) (fun _ _ => none) (rtG rk29) (st0 pk29 xs Try.f29.ntmps) := by kernel_rfl
noncomputable def P29 := phiOf pk29 rk29 (fun xs => S29 n xs.1 xs.2.1)
theorem call29 : CallOK Try.prog 29 := callOK_of Try.func29 (by kernel_rfl) (by kernel_rfl)
theorem env29 : EnvOK Try.prog (E29 n) := envOK0 (consPhi_ok (FC74 n) call74 (consPhi_ok (FC76 n) call76 noPhi_ok)) rfl rfl
theorem par29 : EnvPar (E29 n) := envPar0 (consPhi_par phiOf_Par1 (consPhi_par phiOf_Par1 noPhi_par)) rfl
theorem FC29 : FCs Try.prog 29 (P29 n) := phiOf_FCs fun xs r h vs hv => FC.of_runG tabOK eqsOK (env29 n) (par29 n) mixed (fun _ => noScope_ok) Try.func29 (c := c29) (an := an29) (pks := pk29) (rks := rk29) (by kernel_rfl) (by kernel_rfl) hv ((S29_run n xs).symm.trans h)
abbrev R78 := LP
abbrev K78 := St → Option R78
noncomputable def c78 : Code := bodyOf Try.f78
noncomputable def an78 : Ann := (.s .l (.s .l (.s (.s .l (.j [3] (.j [0,3,4] (.s (.s .l (.j [0,3,4] .l .l)) (.s (.j [0,3,4] .l .l) .l)) .l) .l)) .l)))
def pk78 : List PK := [.c (.sl (.pair (.int .i64) (.int .i64)))]
def rk78 : List RK := [.own (.pair (.int .i64) (.int .i64)) 2]
noncomputable def rt78 (st : St) : Option R78 := rtG rk78 st
noncomputable def E78 : Env := { T := tab,phi := (consPhi 75 (fun _ => true) (P75 n) noPhi),eff := fun _ => false,fuel := n.1,hold := n.2 }
noncomputable def kq78_1 : K78 := run (E78 n) (cB (cB (cB c78))) an78.snd.snd.snd rt78 (fun _ _ => none) rt78
noncomputable def kc78_2 : K78 := fun s => normC [3] s (kq78_1 n)
noncomputable def xb78_3 : Nat → K78 := fun j s => bif Nat.beq j 0 then normC [3] s (kq78_1 n) else (fun _ _ => none) j s
noncomputable def F78_4 : (K78) → K78 := fun K s => run (E78 n) (cA (cA (cB (cA (cB (cB c78)))))) an78.snd.snd.fst.snd.fst.fst (fun s => normC [0,3,4] s K) (xb78_3 n) rt78 s
noncomputable def kq78_5 (m1 : Nat) : K78 := run (E78 n) (cB (cA (cA (cB (cA (cB (cB c78))))))) an78.snd.snd.fst.snd.fst.fst.snd (fun s => normC [0,3,4] s (loopN (F78_4 n) m1)) (xb78_3 n) rt78
noncomputable def kc78_6 (m1 : Nat) : K78 := fun s => normC [0,3,4] s (kq78_5 n m1)
noncomputable def kq78_7 (m1 : Nat) : K78 := run (E78 n) (cB (cB (cA (cA (cB (cA (cB (cB c78)))))))) an78.snd.snd.fst.snd.fst.fst.snd.snd (fun s => normC [0,3,4] s (loopN (F78_4 n) m1)) (xb78_3 n) rt78
noncomputable def kc78_8 (m1 : Nat) : K78 := fun s => normC [0,3,4] s (kq78_7 n m1)
noncomputable def xb78_9 (m1 : Nat) : Nat → K78 := fun j s => bif Nat.beq j 1 then normC [0,3,4] s (kq78_7 n m1) else (xb78_3 n) j s
noncomputable def L78_1 (m : Nat) (l0 : LP) (i4 : Int) (out3 : LP) : Option R78 := loopN (F78_4 n) m { tm := [.c (.sl (.pair (.int .i64) (.int .i64)) l0 false),uu,uu,.own 3 none false,.c (.int .i64 i4),uu,uu,uu,uu,uu,uu,uu,uu,uu,uu,uu,uu,uu],hp := (upd emp 3 (.arr (.pair (.int .i64) (.int .i64)) out3 true)) }
theorem L78_1_eq (m1 : Nat) (l0 : LP) (i4 : Int) (out3 : LP) : L78_1 n (m1 + 1) l0 i4 out3 =
    (bif decide (i4 < (l0.length : Int)) then (S75 n l0 i4).bind fun r1' =>
      (bif decide (out3.length + [r1'].length ≤ lim) then L78_1 n m1 l0 (wr .i64 (i4 + 1)) (out3 ++ [r1'])
      else none)
    else some out3) := by kernel_rfl
noncomputable def S78 (l0 : LP) : Option R78 := run (E78 n) c78 an78 rt78 (fun _ _ => none) rt78 { tm := [.c (.sl (.pair (.int .i64) (.int .i64)) l0 false),uu,uu,uu,uu,uu,uu,uu,uu,uu,uu,uu,uu,uu,uu,uu,uu,uu],hp := emp }
theorem S78_eq (l0 : LP) : S78 n l0 =
    L78_1 n n.1 l0 0 [] := by kernel_rfl
theorem S78_run (xs : pksDen pk78) : S78 n xs.1 = runG (E78 n) noScope c78 an78 (rtG rk78) (fun _ _ => none) (rtG rk78) (st0 pk78 xs Try.f78.ntmps) := by kernel_rfl
noncomputable def P78 := phiOf pk78 rk78 (fun xs => S78 n xs.1)
theorem call78 : CallOK Try.prog 78 := callOK_of Try.func78 (by kernel_rfl) (by kernel_rfl)
theorem env78 : EnvOK Try.prog (E78 n) := envOK0 (consPhi_ok (FC75 n) call75 noPhi_ok) rfl rfl
theorem par78 : EnvPar (E78 n) := envPar0 (consPhi_par phiOf_Par1 noPhi_par) rfl
theorem FC78 : FCs Try.prog 78 (P78 n) := phiOf_FCs fun xs r h vs hv => FC.of_runG tabOK eqsOK (env78 n) (par78 n) mixed (fun _ => noScope_ok) Try.func78 (c := c78) (an := an78) (pks := pk78) (rks := rk78) (by kernel_rfl) (by kernel_rfl) hv ((S78_run n xs).symm.trans h)
abbrev R31 := LP × Int
abbrev K31 := St → Option R31
noncomputable def c31 : Code := bodyOf Try.f31
noncomputable def an31 : Ann := (.s .l (.s .l (.s (.s .l (.j [0] .l .l)) .l)))
def pk31 : List PK := [.c (.sl (.pair (.int .i64) (.int .i64)))]
def rk31 : List RK := [.own (.pair (.int .i64) (.int .i64)) 2,.c (.int .i64) 3]
noncomputable def rt31 (st : St) : Option R31 := rtG rk31 st
noncomputable def E31 : Env := { T := tab,phi := (consPhi 25 (fun _ => true) (P25 n) (consPhi 78 (fun _ => true) (P78 n) noPhi)),eff := fun _ => false,fuel := n.1,hold := n.2 }
noncomputable def kq31_1 : K31 := run (E31 n) (cB (cB (cB c31))) an31.snd.snd.snd rt31 (fun _ _ => none) rt31
noncomputable def kc31_2 : K31 := fun s => normC [0] s (kq31_1 n)
noncomputable def S31 (l0 : LP) : Option R31 := run (E31 n) c31 an31 rt31 (fun _ _ => none) rt31 { tm := [.c (.sl (.pair (.int .i64) (.int .i64)) l0 false),uu,uu,uu,uu,uu,uu,uu,uu,uu,uu,uu],hp := emp }
theorem S31_eq (l0 : LP) : S31 n l0 =
    (S25 n l0).bind fun r1' =>
    (bif (r1' != 0) then some ([],r1')
    else (S78 n l0).bind fun r2' =>
      some (r2',0)) := by kernel_rfl
theorem S31_run (xs : pksDen pk31) : S31 n xs.1 = runG (E31 n) noScope c31 an31 (rtG rk31) (fun _ _ => none) (rtG rk31) (st0 pk31 xs Try.f31.ntmps) := by kernel_rfl
noncomputable def P31 := phiOf pk31 rk31 (fun xs => S31 n xs.1)
theorem call31 : CallOK Try.prog 31 := callOK_of Try.func31 (by kernel_rfl) (by kernel_rfl)
theorem env31 : EnvOK Try.prog (E31 n) := envOK0 (consPhi_ok (FC25 n) call25 (consPhi_ok (FC78 n) call78 noPhi_ok)) rfl rfl
theorem par31 : EnvPar (E31 n) := envPar0 (consPhi_par phiOf_Par1 (consPhi_par phiOf_Par1 noPhi_par)) rfl
theorem FC31 : FCs Try.prog 31 (P31 n) := phiOf_FCs fun xs r h vs hv => FC.of_runG tabOK eqsOK (env31 n) (par31 n) mixed (fun _ => noScope_ok) Try.func31 (c := c31) (an := an31) (pks := pk31) (rks := rk31) (by kernel_rfl) (by kernel_rfl) hv ((S31_run n xs).symm.trans h)
abbrev R33 := (List (Int × Int × Int × Int)) × Int
abbrev K33 := St → Option R33
noncomputable def c33 : Code := bodyOf Try.f33
noncomputable def an33 : Ann := (.s .l (.s .l (.s (.s .l (.j [0,27,28,29,30,31,32,33,34,35] .l .l)) (.s .l (.s .l (.s .l (.s (.s .l (.j [6] (.j [0,5,6,7,8,27,28,29,30,31,32,33,34,35] (.s (.s .l (.j [0,5,6,7,8,27,28,29,30,31,32,33,34,35] .l .l)) (.j [] (.j [0,5,6,7,8,27,28,29,30,31,32,33,34,35] (.s .l (.j [0,5,6,7,8,27,28,29,30,31,32,33,34,35] .l .l)) .l) .l)) .l) .l)) .l)))))))
def pk33 : List PK := [.c (.sl (.pair (.int .i64) (.int .i64)))]
def rk33 : List RK := [.own (.pair (.int .i64) (.pair (.int .i64) (.pair (.int .i64) (.int .i64)))) 2,.c (.int .i64) 3]
noncomputable def rt33 (st : St) : Option R33 := rtG rk33 st
noncomputable def E33 : Env := { T := tab,phi := (consPhi 25 (fun _ => true) (P25 n) (consPhi 78 (fun _ => true) (P78 n) noPhi)),eff := fun _ => false,fuel := n.1,hold := n.2 }
noncomputable def kq33_1 : K33 := run (E33 n) (cB (cB (cB c33))) an33.snd.snd.snd rt33 (fun _ _ => none) rt33
noncomputable def kc33_2 : K33 := fun s => normC [0,27,28,29,30,31,32,33,34,35] s (kq33_1 n)
noncomputable def kq33_3 : K33 := run (E33 n) (cB (cB (cB (cB (cB (cB (cB c33))))))) an33.snd.snd.snd.snd.snd.snd.snd rt33 (fun _ _ => none) rt33
noncomputable def kc33_4 : K33 := fun s => normC [6] s (kq33_3 n)
noncomputable def xb33_5 : Nat → K33 := fun j s => bif Nat.beq j 0 then normC [6] s (kq33_3 n) else (fun _ _ => none) j s
noncomputable def F33_6 : (K33) → K33 := fun K s => run (E33 n) (cA (cA (cB (cA (cB (cB (cB (cB (cB (cB c33)))))))))) an33.snd.snd.snd.snd.snd.snd.fst.snd.fst.fst (fun s => normC [0,5,6,7,8,27,28,29,30,31,32,33,34,35] s K) (xb33_5 n) rt33 s
noncomputable def kq33_7 (m1 : Nat) : K33 := run (E33 n) (cB (cA (cA (cB (cA (cB (cB (cB (cB (cB (cB c33))))))))))) an33.snd.snd.snd.snd.snd.snd.fst.snd.fst.fst.snd (fun s => normC [0,5,6,7,8,27,28,29,30,31,32,33,34,35] s (loopN (F33_6 n) m1)) (xb33_5 n) rt33
noncomputable def kc33_8 (m1 : Nat) : K33 := fun s => normC [0,5,6,7,8,27,28,29,30,31,32,33,34,35] s (kq33_7 n m1)
noncomputable def kq33_9 (m1 : Nat) : K33 := run (E33 n) (cB (cB (cA (cA (cB (cA (cB (cB (cB (cB (cB (cB c33)))))))))))) an33.snd.snd.snd.snd.snd.snd.fst.snd.fst.fst.snd.snd (fun s => normC [0,5,6,7,8,27,28,29,30,31,32,33,34,35] s (loopN (F33_6 n) m1)) (xb33_5 n) rt33
noncomputable def kc33_10 (m1 : Nat) : K33 := fun s => normC [0,5,6,7,8,27,28,29,30,31,32,33,34,35] s (loopN (fun _ => (kq33_9 n m1)) n.2)
noncomputable def xb33_11 (m1 : Nat) : Nat → K33 := fun j s => bif Nat.beq j 1 then normC [0,5,6,7,8,27,28,29,30,31,32,33,34,35] s (loopN (fun _ => (kq33_9 n m1)) n.2) else (xb33_5 n) j s
noncomputable def kc33_12 (m1 : Nat) : K33 := fun s => normC [0,5,6,7,8,27,28,29,30,31,32,33,34,35] s (kc33_10 n m1)
noncomputable def L33_1 (m : Nat) (l0 : LP) (begin7 : Int) (v8 : Int) (v5 : LP) (out6 : List (Int × Int × Int × Int)) : Option R33 := loopN (F33_6 n) m { tm := [.c (.sl (.pair (.int .i64) (.int .i64)) l0 false),uu,uu,uu,uu,.own 5 none false,.own 6 none false,.c (.int .i64 begin7),.c (.int .i64 v8),uu,uu,uu,uu,uu,uu,uu,uu,uu,uu,uu,uu,uu,uu,uu,uu,uu,uu,uu,uu,uu,uu,uu,uu,uu,uu,uu,uu,uu,uu,uu,uu,uu,uu,uu,uu,uu,uu,uu,uu],hp := (upd (upd emp 6 (.arr (.pair (.int .i64) (.pair (.int .i64) (.pair (.int .i64) (.int .i64)))) out6 true)) 5 (.arr (.pair (.int .i64) (.int .i64)) v5 false)) }
noncomputable def L33_2 (m1 : Nat) (l0 : LP) (begin7 : Int) (v8 : Int) (v5 : LP) (out6 : List (Int × Int × Int × Int)) : Option R33 := loopN (fun _ => (kq33_9 n m1)) n.2 { tm := [.c (.sl (.pair (.int .i64) (.int .i64)) l0 false),uu,uu,uu,uu,.own 5 none false,.own 6 none false,.c (.int .i64 begin7),.c (.int .i64 v8),uu,uu,uu,uu,uu,uu,uu,uu,uu,uu,uu,uu,uu,uu,uu,uu,uu,uu,uu,uu,uu,uu,uu,uu,uu,uu,uu,uu,uu,uu,uu,uu,uu,uu,uu,uu,uu,uu,uu,uu],hp := (upd (upd emp 6 (.arr (.pair (.int .i64) (.pair (.int .i64) (.pair (.int .i64) (.int .i64)))) out6 true)) 5 (.arr (.pair (.int .i64) (.int .i64)) v5 false)) }
theorem L33_1_eq (m1 : Nat) (l0 : LP) (begin7 : Int) (v8 : Int) (v5 : LP) (out6 : List (Int × Int × Int × Int)) : L33_1 n (m1 + 1) l0 begin7 v8 v5 out6 =
    (bif decide (v8 ≤ (l0.length : Int)) then ((bif ((v8 == (l0.length : Int)) == false) then (bif inB v8 v5.length then (idx v5 v8).bind fun x3' =>
            (bif inB begin7 v5.length then (idx v5 begin7).bind fun x4' =>
              some (!((x3'.1 == x4'.1) && ((x3'.2 == x4'.2) && true)))
            else none)
          else none)
        else some true)).bind fun b5' =>
      (bif b5' then (bif inB begin7 v5.length then (idx v5 begin7).bind fun x6' =>
          (bif decide (out6.length + [(begin7,v8,x6')].length ≤ lim) then L33_2 n m1 l0 v8 v8 v5 (out6 ++ [(begin7,v8,x6')])
          else none)
        else none)
      else L33_2 n m1 l0 begin7 v8 v5 out6)
    else some (out6,0)) := by kernel_rfl
theorem L33_2_raw (m1 : Nat) (l0 : LP) (begin7 : Int) (v8 : Int) (v5 : LP) (out6 : List (Int × Int × Int × Int)) : (kq33_9 n m1) { tm := [.c (.sl (.pair (.int .i64) (.int .i64)) l0 false),uu,uu,uu,uu,.own 5 none false,.own 6 none false,.c (.int .i64 begin7),.c (.int .i64 v8),uu,uu,uu,uu,uu,uu,uu,uu,uu,uu,uu,uu,uu,uu,uu,uu,uu,uu,uu,uu,uu,uu,uu,uu,uu,uu,uu,uu,uu,uu,uu,uu,uu,uu,uu,uu,uu,uu,uu,uu],hp := (upd (upd emp 6 (.arr (.pair (.int .i64) (.pair (.int .i64) (.pair (.int .i64) (.int .i64)))) out6 true)) 5 (.arr (.pair (.int .i64) (.int .i64)) v5 false)) } =
    L33_1 n m1 l0 begin7 (wr .i64 (v8 + 1)) v5 out6 := by kernel_rfl
noncomputable def S33 (l0 : LP) : Option R33 := run (E33 n) c33 an33 rt33 (fun _ _ => none) rt33 { tm := [.c (.sl (.pair (.int .i64) (.int .i64)) l0 false),uu,uu,uu,uu,uu,uu,uu,uu,uu,uu,uu,uu,uu,uu,uu,uu,uu,uu,uu,uu,uu,uu,uu,uu,uu,uu,uu,uu,uu,uu,uu,uu,uu,uu,uu,uu,uu,uu,uu,uu,uu,uu,uu,uu,uu,uu,uu,uu],hp := emp }
theorem S33_eq (l0 : LP) : S33 n l0 =
    (S25 n l0).bind fun r1' =>
    (bif (r1' != 0) then some ([],r1')
    else (S78 n l0).bind fun r2' =>
      L33_1 n n.1 l0 0 1 r2' []) := by kernel_rfl
theorem S33_run (xs : pksDen pk33) : S33 n xs.1 = runG (E33 n) noScope c33 an33 (rtG rk33) (fun _ _ => none) (rtG rk33) (st0 pk33 xs Try.f33.ntmps) := by kernel_rfl
noncomputable def P33 := phiOf pk33 rk33 (fun xs => S33 n xs.1)
theorem call33 : CallOK Try.prog 33 := callOK_of Try.func33 (by kernel_rfl) (by kernel_rfl)
theorem env33 : EnvOK Try.prog (E33 n) := envOK0 (consPhi_ok (FC25 n) call25 (consPhi_ok (FC78 n) call78 noPhi_ok)) rfl rfl
theorem par33 : EnvPar (E33 n) := envPar0 (consPhi_par phiOf_Par1 (consPhi_par phiOf_Par1 noPhi_par)) rfl
theorem FC33 : FCs Try.prog 33 (P33 n) := phiOf_FCs fun xs r h vs hv => FC.of_runG tabOK eqsOK (env33 n) (par33 n) mixed (fun _ => noScope_ok) Try.func33 (c := c33) (an := an33) (pks := pk33) (rks := rk33) (by kernel_rfl) (by kernel_rfl) hv ((S33_run n xs).symm.trans h)
abbrev R34 := Bool
abbrev K34 := St → Option R34
noncomputable def c34 : Code := bodyOf Try.f34
noncomputable def an34 : Ann := (.s .l (.s (.s .l (.j [0,1] .l .l)) (.s (.s .l (.j [] (.j [0,1,5] (.s (.s .l (.j [0,1,5] .l .l)) (.s (.j [0,1,5] (.s .l (.j [0,1,5] .l .l)) .l) .l)) .l) .l)) .l)))
def pk34 : List PK := [.c (.sl (.pair (.int .i64) (.int .i64))),.c (.sl (.pair (.int .i64) (.int .i64)))]
def rk34 : List RK := [.c .bool 4]
noncomputable def rt34 (st : St) : Option R34 := rtG rk34 st
noncomputable def E34 : Env := { T := tab,phi := noPhi,eff := fun _ => false,fuel := n.1,hold := n.2 }
noncomputable def kq34_1 : K34 := run (E34 n) (cB (cB c34)) an34.snd.snd rt34 (fun _ _ => none) rt34
noncomputable def kc34_2 : K34 := fun s => normC [0,1] s (kq34_1 n)
noncomputable def kq34_3 : K34 := run (E34 n) (cB (cB (cB c34))) an34.snd.snd.snd rt34 (fun _ _ => none) rt34
noncomputable def kc34_4 : K34 := fun s => normC [] s (kq34_3 n)
noncomputable def xb34_5 : Nat → K34 := fun j s => bif Nat.beq j 0 then normC [] s (kq34_3 n) else (fun _ _ => none) j s
noncomputable def F34_6 : (K34) → K34 := fun K s => run (E34 n) (cA (cA (cB (cA (cB (cB c34)))))) an34.snd.snd.fst.snd.fst.fst (fun s => normC [0,1,5] s K) (xb34_5 n) rt34 s
noncomputable def kq34_7 (m1 : Nat) : K34 := run (E34 n) (cB (cA (cA (cB (cA (cB (cB c34))))))) an34.snd.snd.fst.snd.fst.fst.snd (fun s => normC [0,1,5] s (loopN (F34_6 n) m1)) (xb34_5 n) rt34
noncomputable def kc34_8 (m1 : Nat) : K34 := fun s => normC [0,1,5] s (kq34_7 n m1)
noncomputable def kq34_9 (m1 : Nat) : K34 := run (E34 n) (cB (cB (cA (cA (cB (cA (cB (cB c34)))))))) an34.snd.snd.fst.snd.fst.fst.snd.snd (fun s => normC [0,1,5] s (loopN (F34_6 n) m1)) (xb34_5 n) rt34
noncomputable def kc34_10 (m1 : Nat) : K34 := fun s => normC [0,1,5] s (kq34_9 n m1)
noncomputable def xb34_11 (m1 : Nat) : Nat → K34 := fun j s => bif Nat.beq j 1 then normC [0,1,5] s (kq34_9 n m1) else (xb34_5 n) j s
noncomputable def kc34_12 (m1 : Nat) : K34 := fun s => normC [0,1,5] s (kc34_10 n m1)
noncomputable def L34_1 (m : Nat) (a0 : LP) (b1 : LP) (i5 : Int) : Option R34 := loopN (F34_6 n) m { tm := [.c (.sl (.pair (.int .i64) (.int .i64)) a0 false),.c (.sl (.pair (.int .i64) (.int .i64)) b1 false),uu,uu,uu,.c (.int .i64 i5),uu,uu,uu,uu,uu,uu,uu,uu,uu,uu,uu,uu,uu,uu,uu,uu,uu,uu,uu,uu],hp := emp }
theorem L34_1_eq (m1 : Nat) (a0 : LP) (b1 : LP) (i5 : Int) : L34_1 n (m1 + 1) a0 b1 i5 =
    (bif decide (i5 < (a0.length : Int)) then (idx a0 i5).bind fun x1' =>
      (idx b1 i5).bind fun x2' =>
      (bif (!((x1'.1 == x2'.1) && ((x1'.2 == x2'.2) && true))) then some false
      else L34_1 n m1 a0 b1 (wr .i64 (i5 + 1)))
    else some true) := by kernel_rfl
noncomputable def S34 (a0 : LP) (b1 : LP) : Option R34 := run (E34 n) c34 an34 rt34 (fun _ _ => none) rt34 { tm := [.c (.sl (.pair (.int .i64) (.int .i64)) a0 false),.c (.sl (.pair (.int .i64) (.int .i64)) b1 false),uu,uu,uu,uu,uu,uu,uu,uu,uu,uu,uu,uu,uu,uu,uu,uu,uu,uu,uu,uu,uu,uu,uu,uu],hp := emp }
theorem S34_eq (a0 : LP) (b1 : LP) : S34 n a0 b1 =
    (bif ((a0.length : Int) != (b1.length : Int)) then some false
    else L34_1 n n.1 a0 b1 0) := by kernel_rfl
theorem S34_run (xs : pksDen pk34) : S34 n xs.1 xs.2.1 = runG (E34 n) noScope c34 an34 (rtG rk34) (fun _ _ => none) (rtG rk34) (st0 pk34 xs Try.f34.ntmps) := by kernel_rfl
noncomputable def P34 := phiOf pk34 rk34 (fun xs => S34 n xs.1 xs.2.1)
theorem call34 : CallOK Try.prog 34 := callOK_of Try.func34 (by kernel_rfl) (by kernel_rfl)
theorem env34 : EnvOK Try.prog (E34 n) := envOK0 noPhi_ok rfl rfl
theorem par34 : EnvPar (E34 n) := envPar0 noPhi_par rfl
theorem FC34 : FCs Try.prog 34 (P34 n) := phiOf_FCs fun xs r h vs hv => FC.of_runG tabOK eqsOK (env34 n) (par34 n) mixed (fun _ => noScope_ok) Try.func34 (c := c34) (an := an34) (pks := pk34) (rks := rk34) (by kernel_rfl) (by kernel_rfl) hv ((S34_run n xs).symm.trans h)
abbrev R81 := Int × Int
abbrev K81 := St → Option R81
noncomputable def c81 : Code := bodyOf Try.f81
noncomputable def an81 : Ann := .l
def pk81 : List PK := [.c (.pair (.int .i64) (.int .i64)),.c (.pair (.int .i64) (.int .i64))]
def rk81 : List RK := [.box (.pair (.int .i64) (.int .i64)) 4]
noncomputable def rt81 (st : St) : Option R81 := rtG rk81 st
noncomputable def E81 : Env := { T := tab,phi := (consPhi 82 (fun _ => true) (P82 n) noPhi),eff := fun _ => false,fuel := n.1,hold := n.2 }
noncomputable def S81 (a0 : Int × Int) (b1 : Int × Int) : Option R81 := run (E81 n) c81 an81 rt81 (fun _ _ => none) rt81 { tm := [.agg [.int .i64 a0.1,.int .i64 a0.2],.agg [.int .i64 b1.1,.int .i64 b1.2],uu,uu,uu,uu,uu,uu,uu,uu,uu,uu,uu,uu,uu,uu,uu,uu,uu,uu,uu,uu,uu,uu,uu,uu,uu,uu],hp := emp }
theorem S81_eq (a0 : Int × Int) (b1 : Int × Int) : S81 n a0 b1 =
    (S82 n a0.2 b1.2).bind fun r1' =>
    (S82 n (wr .i64 ((wr .i64 (a0.1 * r1'.2)) + (wr .i64 (b1.1 * r1'.1)))) (wr .i64 (a0.2 * r1'.2))).bind fun r2' =>
    some r2' := by kernel_rfl
theorem S81_run (xs : pksDen pk81) : S81 n xs.1 xs.2.1 = runG (E81 n) noScope c81 an81 (rtG rk81) (fun _ _ => none) (rtG rk81) (st0 pk81 xs Try.f81.ntmps) := by kernel_rfl
noncomputable def P81 := phiOf pk81 rk81 (fun xs => S81 n xs.1 xs.2.1)
theorem call81 : CallOK Try.prog 81 := callOK_of Try.func81 (by kernel_rfl) (by kernel_rfl)
theorem env81 : EnvOK Try.prog (E81 n) := envOK0 (consPhi_ok (FC82 n) call82 noPhi_ok) rfl rfl
theorem par81 : EnvPar (E81 n) := envPar0 (consPhi_par phiOf_Par1 noPhi_par) rfl
theorem FC81 : FCs Try.prog 81 (P81 n) := phiOf_FCs fun xs r h vs hv => FC.of_runG tabOK eqsOK (env81 n) (par81 n) mixed (fun _ => noScope_ok) Try.func81 (c := c81) (an := an81) (pks := pk81) (rks := rk81) (by kernel_rfl) (by kernel_rfl) hv ((S81_run n xs).symm.trans h)
abbrev R36 := (Int × Int) × Int
abbrev K36 := St → Option R36
noncomputable def c36 : Code := bodyOf Try.f36
noncomputable def an36 : Ann := (.s .l (.s .l (.s (.s .l (.j [0,2] .l .l)) (.s .l (.s .l (.s (.s .l (.j [2,6] (.j [0,2,5,6,7] (.s (.s .l (.j [0,2,5,6,7] .l .l)) (.s (.j [0,2,5,6,7] .l .l) .l)) .l) .l)) .l))))))
def pk36 : List PK := [.c (.sl (.pair (.int .i64) (.int .i64)))]
def rk36 : List RK := [.box (.pair (.int .i64) (.int .i64)) 2,.c (.int .i64) 3]
noncomputable def rt36 (st : St) : Option R36 := rtG rk36 st
noncomputable def E36 : Env := { T := tab,phi := (consPhi 25 (fun _ => true) (P25 n) (consPhi 78 (fun _ => true) (P78 n) (consPhi 81 (fun _ => true) (P81 n) (consPhi 82 (fun _ => true) (P82 n) noPhi)))),eff := fun _ => false,fuel := n.1,hold := n.2 }
noncomputable def kq36_1 : K36 := run (E36 n) (cB (cB (cB c36))) an36.snd.snd.snd rt36 (fun _ _ => none) rt36
noncomputable def kc36_2 : K36 := fun s => normC [0,2] s (kq36_1 n)
noncomputable def kq36_3 : K36 := run (E36 n) (cB (cB (cB (cB (cB (cB c36)))))) an36.snd.snd.snd.snd.snd.snd rt36 (fun _ _ => none) rt36
noncomputable def kc36_4 : K36 := fun s => normC [2,6] s (kq36_3 n)
noncomputable def xb36_5 : Nat → K36 := fun j s => bif Nat.beq j 0 then normC [2,6] s (kq36_3 n) else (fun _ _ => none) j s
noncomputable def F36_6 : (K36) → K36 := fun K s => run (E36 n) (cA (cA (cB (cA (cB (cB (cB (cB (cB c36))))))))) an36.snd.snd.snd.snd.snd.fst.snd.fst.fst (fun s => normC [0,2,5,6,7] s K) (xb36_5 n) rt36 s
noncomputable def kq36_7 (m1 : Nat) : K36 := run (E36 n) (cB (cA (cA (cB (cA (cB (cB (cB (cB (cB c36)))))))))) an36.snd.snd.snd.snd.snd.fst.snd.fst.fst.snd (fun s => normC [0,2,5,6,7] s (loopN (F36_6 n) m1)) (xb36_5 n) rt36
noncomputable def kc36_8 (m1 : Nat) : K36 := fun s => normC [0,2,5,6,7] s (kq36_7 n m1)
noncomputable def kq36_9 (m1 : Nat) : K36 := run (E36 n) (cB (cB (cA (cA (cB (cA (cB (cB (cB (cB (cB c36))))))))))) an36.snd.snd.snd.snd.snd.fst.snd.fst.fst.snd.snd (fun s => normC [0,2,5,6,7] s (loopN (F36_6 n) m1)) (xb36_5 n) rt36
noncomputable def kc36_10 (m1 : Nat) : K36 := fun s => normC [0,2,5,6,7] s (kq36_9 n m1)
noncomputable def xb36_11 (m1 : Nat) : Nat → K36 := fun j s => bif Nat.beq j 1 then normC [0,2,5,6,7] s (kq36_9 n m1) else (xb36_5 n) j s
noncomputable def L36_1 (m : Nat) (l0 : LP) (i7 : Int) (v2_0 : Int) (v2_1 : Int) (v5 : LP) (out6_0 : Int) (out6_1 : Int) : Option R36 := loopN (F36_6 n) m { tm := [.c (.sl (.pair (.int .i64) (.int .i64)) l0 false),uu,.ptr 2 0,uu,uu,.own 5 none false,.ptr 6 0,.c (.int .i64 i7),uu,uu,uu,uu,uu,uu,uu,uu,uu,uu,uu,uu,uu,uu,uu,uu,uu,uu,uu,uu,uu,uu,uu,uu,uu,uu,uu,uu,uu,uu,uu,uu,uu,uu,uu,uu,uu,uu,uu,uu,uu,uu,uu,uu,uu,uu,uu,uu,uu,uu,uu,uu,uu,uu,uu,uu,uu],hp := (upd (upd (upd emp 6 (.box [.int .i64 out6_0,.int .i64 out6_1])) 5 (.arr (.pair (.int .i64) (.int .i64)) v5 false)) 2 (.box [.int .i64 v2_0,.int .i64 v2_1])) }
theorem L36_1_eq (m1 : Nat) (l0 : LP) (i7 : Int) (v2_0 : Int) (v2_1 : Int) (v5 : LP) (out6_0 : Int) (out6_1 : Int) : L36_1 n (m1 + 1) l0 i7 v2_0 v2_1 v5 out6_0 out6_1 =
    (bif decide (i7 < (l0.length : Int)) then (idx l0 i7).bind fun x3' =>
      (bif inB i7 v5.length then (idx v5 i7).bind fun x4' =>
        (bif inB i7 v5.length then (idx v5 i7).bind fun x5' =>
          (idx l0 i7).bind fun x6' =>
          (bif inB i7 v5.length then (idx v5 i7).bind fun x7' =>
            (bif inB i7 v5.length then (idx v5 i7).bind fun x8' =>
              (S82 n (wr .i64 ((wr .i64 (x6'.2 * (wr .i64 ((wr .i64 (x3'.1 * x4'.2)) - x5'.1)))) * (wr .i64 ((wr .i64 (x3'.1 * x4'.2)) - x5'.1)))) (wr .i64 (x7'.2 * x8'.2))).bind fun r9' =>
              (S81 n (out6_0,out6_1) r9').bind fun r10' =>
              L36_1 n m1 l0 (wr .i64 (i7 + 1)) v2_0 v2_1 v5 r10'.1 r10'.2
            else none)
          else none)
        else none)
      else none)
    else some ((out6_0,out6_1),0)) := by kernel_rfl
noncomputable def S36 (l0 : LP) : Option R36 := run (E36 n) c36 an36 rt36 (fun _ _ => none) rt36 { tm := [.c (.sl (.pair (.int .i64) (.int .i64)) l0 false),uu,uu,uu,uu,uu,uu,uu,uu,uu,uu,uu,uu,uu,uu,uu,uu,uu,uu,uu,uu,uu,uu,uu,uu,uu,uu,uu,uu,uu,uu,uu,uu,uu,uu,uu,uu,uu,uu,uu,uu,uu,uu,uu,uu,uu,uu,uu,uu,uu,uu,uu,uu,uu,uu,uu,uu,uu,uu,uu,uu,uu,uu,uu,uu],hp := emp }
theorem S36_eq (l0 : LP) : S36 n l0 =
    (S25 n l0).bind fun r1' =>
    (bif (r1' != 0) then some ((0,0),r1')
    else (S78 n l0).bind fun r2' =>
      L36_1 n n.1 l0 0 0 0 r2' 0 1) := by kernel_rfl
theorem S36_run (xs : pksDen pk36) : S36 n xs.1 = runG (E36 n) noScope c36 an36 (rtG rk36) (fun _ _ => none) (rtG rk36) (st0 pk36 xs Try.f36.ntmps) := by kernel_rfl
noncomputable def P36 := phiOf pk36 rk36 (fun xs => S36 n xs.1)
theorem call36 : CallOK Try.prog 36 := callOK_of Try.func36 (by kernel_rfl) (by kernel_rfl)
theorem env36 : EnvOK Try.prog (E36 n) := envOK0 (consPhi_ok (FC25 n) call25 (consPhi_ok (FC78 n) call78 (consPhi_ok (FC81 n) call81 (consPhi_ok (FC82 n) call82 noPhi_ok)))) rfl rfl
theorem par36 : EnvPar (E36 n) := envPar0 (consPhi_par phiOf_Par1 (consPhi_par phiOf_Par1 (consPhi_par phiOf_Par1 (consPhi_par phiOf_Par1 noPhi_par)))) rfl
theorem FC36 : FCs Try.prog 36 (P36 n) := phiOf_FCs fun xs r h vs hv => FC.of_runG tabOK eqsOK (env36 n) (par36 n) mixed (fun _ => noScope_ok) Try.func36 (c := c36) (an := an36) (pks := pk36) (rks := rk36) (by kernel_rfl) (by kernel_rfl) hv ((S36_run n xs).symm.trans h)
abbrev R84 := LP
abbrev K84 := St → Option R84
noncomputable def c84 : Code := bodyOf Try.f84
noncomputable def an84 : Ann := (.s .l (.s .l (.s .l (.s (.s .l (.j [5] (.j [0,1,5,6,7] (.s (.s .l (.j [0,1,5,6,7] .l .l)) (.s (.j [0,1,5,6,7] .l .l) .l)) .l) .l)) .l))))
def pk84 : List PK := [.c (.sl (.pair (.int .i64) (.int .i64))),.c (.sl (.pair (.int .i64) (.int .i64)))]
def rk84 : List RK := [.own (.pair (.int .i64) (.int .i64)) 4]
noncomputable def rt84 (st : St) : Option R84 := rtG rk84 st
noncomputable def E84 : Env := { T := tab,phi := (consPhi 81 (fun _ => true) (P81 n) (consPhi 82 (fun _ => true) (P82 n) noPhi)),eff := fun _ => false,fuel := n.1,hold := n.2 }
noncomputable def kq84_1 : K84 := run (E84 n) (cB (cB (cB (cB c84)))) an84.snd.snd.snd.snd rt84 (fun _ _ => none) rt84
noncomputable def kc84_2 : K84 := fun s => normC [5] s (kq84_1 n)
noncomputable def xb84_3 : Nat → K84 := fun j s => bif Nat.beq j 0 then normC [5] s (kq84_1 n) else (fun _ _ => none) j s
noncomputable def F84_4 : (K84) → K84 := fun K s => run (E84 n) (cA (cA (cB (cA (cB (cB (cB c84))))))) an84.snd.snd.snd.fst.snd.fst.fst (fun s => normC [0,1,5,6,7] s K) (xb84_3 n) rt84 s
noncomputable def kq84_5 (m1 : Nat) : K84 := run (E84 n) (cB (cA (cA (cB (cA (cB (cB (cB c84)))))))) an84.snd.snd.snd.fst.snd.fst.fst.snd (fun s => normC [0,1,5,6,7] s (loopN (F84_4 n) m1)) (xb84_3 n) rt84
noncomputable def kc84_6 (m1 : Nat) : K84 := fun s => normC [0,1,5,6,7] s (kq84_5 n m1)
noncomputable def kq84_7 (m1 : Nat) : K84 := run (E84 n) (cB (cB (cA (cA (cB (cA (cB (cB (cB c84))))))))) an84.snd.snd.snd.fst.snd.fst.fst.snd.snd (fun s => normC [0,1,5,6,7] s (loopN (F84_4 n) m1)) (xb84_3 n) rt84
noncomputable def kc84_8 (m1 : Nat) : K84 := fun s => normC [0,1,5,6,7] s (kq84_7 n m1)
noncomputable def xb84_9 (m1 : Nat) : Nat → K84 := fun j s => bif Nat.beq j 1 then normC [0,1,5,6,7] s (kq84_7 n m1) else (xb84_3 n) j s
noncomputable def L84_1 (m : Nat) (l0 : LP) (v1 : LP) (i7 : Int) (out5 : LP) (now6_0 : Int) (now6_1 : Int) : Option R84 := loopN (F84_4 n) m { tm := [.c (.sl (.pair (.int .i64) (.int .i64)) l0 false),.c (.sl (.pair (.int .i64) (.int .i64)) v1 false),uu,uu,uu,.own 5 none false,.ptr 6 0,.c (.int .i64 i7),uu,uu,uu,uu,uu,uu,uu,uu,uu,uu,uu,uu,uu,uu,uu,uu,uu,uu,uu,uu,uu,uu,uu,uu,uu,uu,uu,uu,uu,uu,uu,uu,uu,uu,uu,uu,uu,uu,uu,uu,uu,uu,uu],hp := (upd (upd emp 6 (.box [.int .i64 now6_0,.int .i64 now6_1])) 5 (.arr (.pair (.int .i64) (.int .i64)) out5 true)) }
theorem L84_1_eq (m1 : Nat) (l0 : LP) (v1 : LP) (i7 : Int) (out5 : LP) (now6_0 : Int) (now6_1 : Int) : L84_1 n (m1 + 1) l0 v1 i7 out5 now6_0 now6_1 =
    (bif decide (i7 < (l0.length : Int)) then (idx l0 i7).bind fun x1' =>
      (idx l0 i7).bind fun x2' =>
      (idx v1 i7).bind fun x3' =>
      (idx v1 i7).bind fun x4' =>
      (idx v1 i7).bind fun x5' =>
      (S82 n (wr .i64 (x1'.2 * (wr .i64 ((wr .i64 (x2'.1 * x3'.2)) - x4'.1)))) x5'.2).bind fun r6' =>
      (S81 n (now6_0,now6_1) r6').bind fun r7' =>
      (bif decide (out5.length + [r7'].length ≤ lim) then L84_1 n m1 l0 v1 (wr .i64 (i7 + 1)) (out5 ++ [r7']) r7'.1 r7'.2
      else none)
    else some out5) := by kernel_rfl
noncomputable def S84 (l0 : LP) (v1 : LP) : Option R84 := run (E84 n) c84 an84 rt84 (fun _ _ => none) rt84 { tm := [.c (.sl (.pair (.int .i64) (.int .i64)) l0 false),.c (.sl (.pair (.int .i64) (.int .i64)) v1 false),uu,uu,uu,uu,uu,uu,uu,uu,uu,uu,uu,uu,uu,uu,uu,uu,uu,uu,uu,uu,uu,uu,uu,uu,uu,uu,uu,uu,uu,uu,uu,uu,uu,uu,uu,uu,uu,uu,uu,uu,uu,uu,uu,uu,uu,uu,uu,uu,uu],hp := emp }
theorem S84_eq (l0 : LP) (v1 : LP) : S84 n l0 v1 =
    L84_1 n n.1 l0 v1 0 [] 0 1 := by kernel_rfl
theorem S84_run (xs : pksDen pk84) : S84 n xs.1 xs.2.1 = runG (E84 n) noScope c84 an84 (rtG rk84) (fun _ _ => none) (rtG rk84) (st0 pk84 xs Try.f84.ntmps) := by kernel_rfl
noncomputable def P84 := phiOf pk84 rk84 (fun xs => S84 n xs.1 xs.2.1)
theorem call84 : CallOK Try.prog 84 := callOK_of Try.func84 (by kernel_rfl) (by kernel_rfl)
theorem env84 : EnvOK Try.prog (E84 n) := envOK0 (consPhi_ok (FC81 n) call81 (consPhi_ok (FC82 n) call82 noPhi_ok)) rfl rfl
theorem par84 : EnvPar (E84 n) := envPar0 (consPhi_par phiOf_Par1 (consPhi_par phiOf_Par1 noPhi_par)) rfl
theorem FC84 : FCs Try.prog 84 (P84 n) := phiOf_FCs fun xs r h vs hv => FC.of_runG tabOK eqsOK (env84 n) (par84 n) mixed (fun _ => noScope_ok) Try.func84 (c := c84) (an := an84) (pks := pk84) (rks := rk84) (by kernel_rfl) (by kernel_rfl) hv ((S84_run n xs).symm.trans h)
abbrev R38 := LP × Int
abbrev K38 := St → Option R38
noncomputable def c38 : Code := bodyOf Try.f38
noncomputable def an38 : Ann := (.s .l (.s .l (.s (.s .l (.j [0] .l .l)) .l)))
def pk38 : List PK := [.c (.sl (.pair (.int .i64) (.int .i64)))]
def rk38 : List RK := [.own (.pair (.int .i64) (.int .i64)) 2,.c (.int .i64) 3]
noncomputable def rt38 (st : St) : Option R38 := rtG rk38 st
noncomputable def E38 : Env := { T := tab,phi := (consPhi 25 (fun _ => true) (P25 n) (consPhi 78 (fun _ => true) (P78 n) (consPhi 84 (fun _ => true) (P84 n) noPhi))),eff := fun _ => false,fuel := n.1,hold := n.2 }
noncomputable def kq38_1 : K38 := run (E38 n) (cB (cB (cB c38))) an38.snd.snd.snd rt38 (fun _ _ => none) rt38
noncomputable def kc38_2 : K38 := fun s => normC [0] s (kq38_1 n)
noncomputable def S38 (l0 : LP) : Option R38 := run (E38 n) c38 an38 rt38 (fun _ _ => none) rt38 { tm := [.c (.sl (.pair (.int .i64) (.int .i64)) l0 false),uu,uu,uu,uu,uu,uu,uu,uu,uu,uu,uu,uu,uu],hp := emp }
theorem S38_eq (l0 : LP) : S38 n l0 =
    (S25 n l0).bind fun r1' =>
    (bif (r1' != 0) then some ([],r1')
    else (S78 n l0).bind fun r2' =>
      (S84 n l0 r2').bind fun r3' =>
      some (r3',0)) := by kernel_rfl
theorem S38_run (xs : pksDen pk38) : S38 n xs.1 = runG (E38 n) noScope c38 an38 (rtG rk38) (fun _ _ => none) (rtG rk38) (st0 pk38 xs Try.f38.ntmps) := by kernel_rfl
noncomputable def P38 := phiOf pk38 rk38 (fun xs => S38 n xs.1)
theorem call38 : CallOK Try.prog 38 := callOK_of Try.func38 (by kernel_rfl) (by kernel_rfl)
theorem env38 : EnvOK Try.prog (E38 n) := envOK0 (consPhi_ok (FC25 n) call25 (consPhi_ok (FC78 n) call78 (consPhi_ok (FC84 n) call84 noPhi_ok))) rfl rfl
theorem par38 : EnvPar (E38 n) := envPar0 (consPhi_par phiOf_Par1 (consPhi_par phiOf_Par1 (consPhi_par phiOf_Par1 noPhi_par))) rfl
theorem FC38 : FCs Try.prog 38 (P38 n) := phiOf_FCs fun xs r h vs hv => FC.of_runG tabOK eqsOK (env38 n) (par38 n) mixed (fun _ => noScope_ok) Try.func38 (c := c38) (an := an38) (pks := pk38) (rks := rk38) (by kernel_rfl) (by kernel_rfl) hv ((S38_run n xs).symm.trans h)
abbrev R41 := LP
abbrev K41 := St → Option R41
noncomputable def c41 : Code := bodyOf Try.f41
noncomputable def an41 : Ann := (.s .l (.s .l (.s (.s .l (.j [3] (.j [0,3,4] (.s (.s .l (.j [0,3,4] .l .l)) (.s (.j [0,3,4] .l .l) .l)) .l) .l)) .l)))
def pk41 : List PK := [.c (.sl (.pair (.int .i64) (.int .i64)))]
def rk41 : List RK := [.own (.pair (.int .i64) (.int .i64)) 2]
noncomputable def rt41 (st : St) : Option R41 := rtG rk41 st
noncomputable def E41 : Env := { T := tab,phi := noPhi,eff := fun _ => false,fuel := n.1,hold := n.2 }
noncomputable def kq41_1 : K41 := run (E41 n) (cB (cB (cB c41))) an41.snd.snd.snd rt41 (fun _ _ => none) rt41
noncomputable def kc41_2 : K41 := fun s => normC [3] s (kq41_1 n)
noncomputable def xb41_3 : Nat → K41 := fun j s => bif Nat.beq j 0 then normC [3] s (kq41_1 n) else (fun _ _ => none) j s
noncomputable def F41_4 : (K41) → K41 := fun K s => run (E41 n) (cA (cA (cB (cA (cB (cB c41)))))) an41.snd.snd.fst.snd.fst.fst (fun s => normC [0,3,4] s K) (xb41_3 n) rt41 s
noncomputable def kq41_5 (m1 : Nat) : K41 := run (E41 n) (cB (cA (cA (cB (cA (cB (cB c41))))))) an41.snd.snd.fst.snd.fst.fst.snd (fun s => normC [0,3,4] s (loopN (F41_4 n) m1)) (xb41_3 n) rt41
noncomputable def kc41_6 (m1 : Nat) : K41 := fun s => normC [0,3,4] s (kq41_5 n m1)
noncomputable def kq41_7 (m1 : Nat) : K41 := run (E41 n) (cB (cB (cA (cA (cB (cA (cB (cB c41)))))))) an41.snd.snd.fst.snd.fst.fst.snd.snd (fun s => normC [0,3,4] s (loopN (F41_4 n) m1)) (xb41_3 n) rt41
noncomputable def kc41_8 (m1 : Nat) : K41 := fun s => normC [0,3,4] s (kq41_7 n m1)
noncomputable def xb41_9 (m1 : Nat) : Nat → K41 := fun j s => bif Nat.beq j 1 then normC [0,3,4] s (kq41_7 n m1) else (xb41_3 n) j s
noncomputable def L41_1 (m : Nat) (l0 : LP) (i4 : Int) (out3 : LP) : Option R41 := loopN (F41_4 n) m { tm := [.c (.sl (.pair (.int .i64) (.int .i64)) l0 false),uu,uu,.own 3 none false,.c (.int .i64 i4),uu,uu,uu,uu,uu,uu,uu,uu,uu,uu,uu,uu,uu,uu],hp := (upd emp 3 (.arr (.pair (.int .i64) (.int .i64)) out3 true)) }
theorem L41_1_eq (m1 : Nat) (l0 : LP) (i4 : Int) (out3 : LP) : L41_1 n (m1 + 1) l0 i4 out3 =
    (bif decide (i4 < (l0.length : Int)) then (idx l0 i4).bind fun x1' =>
      (bif decide (out3.length + [x1'].length ≤ lim) then L41_1 n m1 l0 (wr .i64 (i4 + 1)) (out3 ++ [x1'])
      else none)
    else some out3) := by kernel_rfl
noncomputable def S41 (l0 : LP) : Option R41 := run (E41 n) c41 an41 rt41 (fun _ _ => none) rt41 { tm := [.c (.sl (.pair (.int .i64) (.int .i64)) l0 false),uu,uu,uu,uu,uu,uu,uu,uu,uu,uu,uu,uu,uu,uu,uu,uu,uu,uu],hp := emp }
theorem S41_eq (l0 : LP) : S41 n l0 =
    L41_1 n n.1 l0 0 [] := by kernel_rfl
theorem S41_run (xs : pksDen pk41) : S41 n xs.1 = runG (E41 n) noScope c41 an41 (rtG rk41) (fun _ _ => none) (rtG rk41) (st0 pk41 xs Try.f41.ntmps) := by kernel_rfl
noncomputable def P41 := phiOf pk41 rk41 (fun xs => S41 n xs.1)
theorem call41 : CallOK Try.prog 41 := callOK_of Try.func41 (by kernel_rfl) (by kernel_rfl)
theorem env41 : EnvOK Try.prog (E41 n) := envOK0 noPhi_ok rfl rfl
theorem par41 : EnvPar (E41 n) := envPar0 noPhi_par rfl
theorem FC41 : FCs Try.prog 41 (P41 n) := phiOf_FCs fun xs r h vs hv => FC.of_runG tabOK eqsOK (env41 n) (par41 n) mixed (fun _ => noScope_ok) Try.func41 (c := c41) (an := an41) (pks := pk41) (rks := rk41) (by kernel_rfl) (by kernel_rfl) hv ((S41_run n xs).symm.trans h)
abbrev R40 := Int
abbrev K40 := St → Option R40
noncomputable def c40 : Code := bodyOf Try.f40
noncomputable def an40 : Ann := (.s .l (.s .l (.s (.s .l (.j [0,1,5,27,28,40,41,42,43,44,45,46,47,48,49,50,51,52,59,60,92,93,94,95,96,97,98,99,100,101,110,111,112,113,114,115,116,117,118] .l .l)) (.s (.s .l (.j [0,1,5,59,60,92,93,94,95,96,97,98,99,100,101,110,111,112,113,114,115,116,117,118] (.j [0,1,5,6,27,28,40,41,42,43,44,45,46,47,48,49,50,51,52,59,60,92,93,94,95,96,97,98,99,100,101,110,111,112,113,114,115,116,117,118] (.s (.s .l (.j [0,1,5,6,27,28,40,41,42,43,44,45,46,47,48,49,50,51,52,59,60,92,93,94,95,96,97,98,99,100,101,110,111,112,113,114,115,116,117,118] .l .l)) (.j [] (.j [0,1,5,6,27,28,40,41,42,43,44,45,46,47,48,49,50,51,52,59,60,92,93,94,95,96,97,98,99,100,101,110,111,112,113,114,115,116,117,118] (.s .l (.j [0,1,5,6,27,28,40,41,42,43,44,45,46,47,48,49,50,51,52,59,60,92,93,94,95,96,97,98,99,100,101,110,111,112,113,114,115,116,117,118] .l .l)) .l) .l)) .l) .l)) (.s (.s .l (.j [0,1,5,92,93,94,95,96,97,98,99,100,101,110,111,112,113,114,115,116,117,118] (.j [0,1,5,7,59,60,92,93,94,95,96,97,98,99,100,101,110,111,112,113,114,115,116,117,118] (.s (.s .l (.j [0,1,5,7,59,60,92,93,94,95,96,97,98,99,100,101,110,111,112,113,114,115,116,117,118] .l .l)) (.j [] (.j [0,1,5,7,59,60,92,93,94,95,96,97,98,99,100,101,110,111,112,113,114,115,116,117,118] (.s .l (.j [0,1,5,7,59,60,92,93,94,95,96,97,98,99,100,101,110,111,112,113,114,115,116,117,118] .l .l)) .l) .l)) .l) .l)) (.s (.s .l (.j [0,1,92,93,94,95,96,97,98,99,100,101,110,111,112,113,114,115,116,117,118] .l .l)) (.s .l (.s (.s .l (.j [] (.j [0,1,8,9,92,93,94,95,96,97,98,99,100,101,110,111,112,113,114,115,116,117,118] (.s (.s .l (.j [0,1,8,9,92,93,94,95,96,97,98,99,100,101,110,111,112,113,114,115,116,117,118] .l .l)) (.s (.j [0,1,8,9,92,93,94,95,96,97,98,99,100,101,110,111,112,113,114,115,116,117,118] (.s .l (.s .l (.j [0,1,8,9,92,93,94,95,96,97,98,99,100,101,110,111,112,113,114,115,116,117,118] .l .l))) .l) .l)) .l) .l)) .l))))))))
def pk40 : List PK := [.c (.sl (.pair (.int .i64) (.int .i64))),.c (.sl (.pair (.int .i64) (.int .i64)))]
def rk40 : List RK := [.c (.int .i64) 4]
noncomputable def rt40 (st : St) : Option R40 := rtG rk40 st
noncomputable def E40 : Env := { T := tab,phi := (consPhi 25 (fun _ => true) (P25 n) (consPhi 71 (fun _ => true) (P71 n) (consPhi 84 (fun _ => true) (P84 n) (consPhi 89 (fun _ => true) (P89 n) noPhi)))),eff := fun _ => false,fuel := n.1,hold := n.2 }
noncomputable def kq40_1 : K40 := run (E40 n) (cB (cB (cB c40))) an40.snd.snd.snd rt40 (fun _ _ => none) rt40
noncomputable def kc40_2 : K40 := fun s => normC [0,1,5,27,28,40,41,42,43,44,45,46,47,48,49,50,51,52,59,60,92,93,94,95,96,97,98,99,100,101,110,111,112,113,114,115,116,117,118] s (kq40_1 n)
noncomputable def kq40_3 : K40 := run (E40 n) (cB (cB (cB (cB c40)))) an40.snd.snd.snd.snd rt40 (fun _ _ => none) rt40
noncomputable def kc40_4 : K40 := fun s => normC [0,1,5,59,60,92,93,94,95,96,97,98,99,100,101,110,111,112,113,114,115,116,117,118] s (kq40_3 n)
noncomputable def xb40_5 : Nat → K40 := fun j s => bif Nat.beq j 0 then normC [0,1,5,59,60,92,93,94,95,96,97,98,99,100,101,110,111,112,113,114,115,116,117,118] s (kq40_3 n) else (fun _ _ => none) j s
noncomputable def F40_6 : (K40) → K40 := fun K s => run (E40 n) (cA (cA (cB (cA (cB (cB (cB c40))))))) an40.snd.snd.snd.fst.snd.fst.fst (fun s => normC [0,1,5,6,27,28,40,41,42,43,44,45,46,47,48,49,50,51,52,59,60,92,93,94,95,96,97,98,99,100,101,110,111,112,113,114,115,116,117,118] s K) (xb40_5 n) rt40 s
noncomputable def kq40_7 (m1 : Nat) : K40 := run (E40 n) (cB (cA (cA (cB (cA (cB (cB (cB c40)))))))) an40.snd.snd.snd.fst.snd.fst.fst.snd (fun s => normC [0,1,5,6,27,28,40,41,42,43,44,45,46,47,48,49,50,51,52,59,60,92,93,94,95,96,97,98,99,100,101,110,111,112,113,114,115,116,117,118] s (loopN (F40_6 n) m1)) (xb40_5 n) rt40
noncomputable def kc40_8 (m1 : Nat) : K40 := fun s => normC [0,1,5,6,27,28,40,41,42,43,44,45,46,47,48,49,50,51,52,59,60,92,93,94,95,96,97,98,99,100,101,110,111,112,113,114,115,116,117,118] s (kq40_7 n m1)
noncomputable def kq40_9 (m1 : Nat) : K40 := run (E40 n) (cB (cB (cA (cA (cB (cA (cB (cB (cB c40))))))))) an40.snd.snd.snd.fst.snd.fst.fst.snd.snd (fun s => normC [0,1,5,6,27,28,40,41,42,43,44,45,46,47,48,49,50,51,52,59,60,92,93,94,95,96,97,98,99,100,101,110,111,112,113,114,115,116,117,118] s (loopN (F40_6 n) m1)) (xb40_5 n) rt40
noncomputable def kc40_10 (m1 : Nat) : K40 := fun s => normC [0,1,5,6,27,28,40,41,42,43,44,45,46,47,48,49,50,51,52,59,60,92,93,94,95,96,97,98,99,100,101,110,111,112,113,114,115,116,117,118] s (loopN (fun _ => (kq40_9 n m1)) n.2)
noncomputable def xb40_11 (m1 : Nat) : Nat → K40 := fun j s => bif Nat.beq j 1 then normC [0,1,5,6,27,28,40,41,42,43,44,45,46,47,48,49,50,51,52,59,60,92,93,94,95,96,97,98,99,100,101,110,111,112,113,114,115,116,117,118] s (loopN (fun _ => (kq40_9 n m1)) n.2) else (xb40_5 n) j s
noncomputable def kc40_12 (m1 : Nat) : K40 := fun s => normC [0,1,5,6,27,28,40,41,42,43,44,45,46,47,48,49,50,51,52,59,60,92,93,94,95,96,97,98,99,100,101,110,111,112,113,114,115,116,117,118] s (kc40_10 n m1)
noncomputable def kq40_13 : K40 := run (E40 n) (cB (cB (cB (cB (cB c40))))) an40.snd.snd.snd.snd.snd rt40 (fun _ _ => none) rt40
noncomputable def kc40_14 : K40 := fun s => normC [0,1,5,92,93,94,95,96,97,98,99,100,101,110,111,112,113,114,115,116,117,118] s (kq40_13 n)
noncomputable def xb40_15 : Nat → K40 := fun j s => bif Nat.beq j 2 then normC [0,1,5,92,93,94,95,96,97,98,99,100,101,110,111,112,113,114,115,116,117,118] s (kq40_13 n) else (fun _ _ => none) j s
noncomputable def F40_16 : (K40) → K40 := fun K s => run (E40 n) (cA (cA (cB (cA (cB (cB (cB (cB c40)))))))) an40.snd.snd.snd.snd.fst.snd.fst.fst (fun s => normC [0,1,5,7,59,60,92,93,94,95,96,97,98,99,100,101,110,111,112,113,114,115,116,117,118] s K) (xb40_15 n) rt40 s
noncomputable def kq40_17 (m1 : Nat) : K40 := run (E40 n) (cB (cA (cA (cB (cA (cB (cB (cB (cB c40))))))))) an40.snd.snd.snd.snd.fst.snd.fst.fst.snd (fun s => normC [0,1,5,7,59,60,92,93,94,95,96,97,98,99,100,101,110,111,112,113,114,115,116,117,118] s (loopN (F40_16 n) m1)) (xb40_15 n) rt40
noncomputable def kc40_18 (m1 : Nat) : K40 := fun s => normC [0,1,5,7,59,60,92,93,94,95,96,97,98,99,100,101,110,111,112,113,114,115,116,117,118] s (kq40_17 n m1)
noncomputable def kq40_19 (m1 : Nat) : K40 := run (E40 n) (cB (cB (cA (cA (cB (cA (cB (cB (cB (cB c40)))))))))) an40.snd.snd.snd.snd.fst.snd.fst.fst.snd.snd (fun s => normC [0,1,5,7,59,60,92,93,94,95,96,97,98,99,100,101,110,111,112,113,114,115,116,117,118] s (loopN (F40_16 n) m1)) (xb40_15 n) rt40
noncomputable def kc40_20 (m1 : Nat) : K40 := fun s => normC [0,1,5,7,59,60,92,93,94,95,96,97,98,99,100,101,110,111,112,113,114,115,116,117,118] s (loopN (fun _ => (kq40_19 n m1)) n.2)
noncomputable def xb40_21 (m1 : Nat) : Nat → K40 := fun j s => bif Nat.beq j 3 then normC [0,1,5,7,59,60,92,93,94,95,96,97,98,99,100,101,110,111,112,113,114,115,116,117,118] s (loopN (fun _ => (kq40_19 n m1)) n.2) else (xb40_15 n) j s
noncomputable def kc40_22 (m1 : Nat) : K40 := fun s => normC [0,1,5,7,59,60,92,93,94,95,96,97,98,99,100,101,110,111,112,113,114,115,116,117,118] s (kc40_20 n m1)
noncomputable def kq40_23 : K40 := run (E40 n) (cB (cB (cB (cB (cB (cB c40)))))) an40.snd.snd.snd.snd.snd.snd rt40 (fun _ _ => none) rt40
noncomputable def kc40_24 : K40 := fun s => normC [0,1,92,93,94,95,96,97,98,99,100,101,110,111,112,113,114,115,116,117,118] s (kq40_23 n)
noncomputable def kq40_25 : K40 := run (E40 n) (cB (cB (cB (cB (cB (cB (cB (cB c40)))))))) an40.snd.snd.snd.snd.snd.snd.snd.snd rt40 (fun _ _ => none) rt40
noncomputable def kc40_26 : K40 := fun s => normC [] s (kq40_25 n)
noncomputable def xb40_27 : Nat → K40 := fun j s => bif Nat.beq j 4 then normC [] s (kq40_25 n) else (fun _ _ => none) j s
noncomputable def F40_28 : (K40) → K40 := fun K s => run (E40 n) (cA (cA (cB (cA (cB (cB (cB (cB (cB (cB (cB c40))))))))))) an40.snd.snd.snd.snd.snd.snd.snd.fst.snd.fst.fst (fun s => normC [0,1,8,9,92,93,94,95,96,97,98,99,100,101,110,111,112,113,114,115,116,117,118] s K) (xb40_27 n) rt40 s
noncomputable def kq40_29 (m1 : Nat) : K40 := run (E40 n) (cB (cA (cA (cB (cA (cB (cB (cB (cB (cB (cB (cB c40)))))))))))) an40.snd.snd.snd.snd.snd.snd.snd.fst.snd.fst.fst.snd (fun s => normC [0,1,8,9,92,93,94,95,96,97,98,99,100,101,110,111,112,113,114,115,116,117,118] s (loopN (F40_28 n) m1)) (xb40_27 n) rt40
noncomputable def kc40_30 (m1 : Nat) : K40 := fun s => normC [0,1,8,9,92,93,94,95,96,97,98,99,100,101,110,111,112,113,114,115,116,117,118] s (kq40_29 n m1)
noncomputable def kq40_31 (m1 : Nat) : K40 := run (E40 n) (cB (cB (cA (cA (cB (cA (cB (cB (cB (cB (cB (cB (cB c40))))))))))))) an40.snd.snd.snd.snd.snd.snd.snd.fst.snd.fst.fst.snd.snd (fun s => normC [0,1,8,9,92,93,94,95,96,97,98,99,100,101,110,111,112,113,114,115,116,117,118] s (loopN (F40_28 n) m1)) (xb40_27 n) rt40
noncomputable def kc40_32 (m1 : Nat) : K40 := fun s => normC [0,1,8,9,92,93,94,95,96,97,98,99,100,101,110,111,112,113,114,115,116,117,118] s (kq40_31 n m1)
noncomputable def xb40_33 (m1 : Nat) : Nat → K40 := fun j s => bif Nat.beq j 5 then normC [0,1,8,9,92,93,94,95,96,97,98,99,100,101,110,111,112,113,114,115,116,117,118] s (kq40_31 n m1) else (xb40_27 n) j s
noncomputable def kc40_34 (m1 : Nat) : K40 := fun s => normC [0,1,8,9,92,93,94,95,96,97,98,99,100,101,110,111,112,113,114,115,116,117,118] s (kc40_32 n m1)
noncomputable def L40_1 (m : Nat) (l0 : LP) (values1 : LP) (e5 : Int) (i6 : Int) : Option R40 := loopN (F40_6 n) m { tm := [.c (.sl (.pair (.int .i64) (.int .i64)) l0 false),.c (.sl (.pair (.int .i64) (.int .i64)) values1 false),uu,uu,uu,.c (.int .i64 e5),.c (.int .i64 i6),uu,uu,uu,uu,uu,uu,uu,uu,uu,uu,uu,uu,uu,uu,uu,uu,uu,uu,uu,uu,uu,uu,uu,uu,uu,uu,uu,uu,uu,uu,uu,uu,uu,uu,uu,uu,uu,uu,uu,uu,uu,uu,uu,uu,uu,uu,uu,uu,uu,uu,uu,uu,uu,uu,uu,uu,uu,uu,uu,uu,uu,uu,uu,uu,uu,uu,uu,uu,uu,uu,uu,uu,uu,uu,uu,uu,uu,uu,uu,uu,uu,uu,uu,uu,uu,uu,uu,uu,uu,uu,uu,uu,uu,uu,uu,uu,uu,uu,uu,uu,uu,uu,uu,uu,uu,uu,uu,uu,uu,uu,uu,uu,uu],hp := emp }
noncomputable def L40_2 (m1 : Nat) (l0 : LP) (values1 : LP) (e5 : Int) (i6 : Int) : Option R40 := loopN (fun _ => (kq40_9 n m1)) n.2 { tm := [.c (.sl (.pair (.int .i64) (.int .i64)) l0 false),.c (.sl (.pair (.int .i64) (.int .i64)) values1 false),uu,uu,uu,.c (.int .i64 e5),.c (.int .i64 i6),uu,uu,uu,uu,uu,uu,uu,uu,uu,uu,uu,uu,uu,uu,uu,uu,uu,uu,uu,uu,uu,uu,uu,uu,uu,uu,uu,uu,uu,uu,uu,uu,uu,uu,uu,uu,uu,uu,uu,uu,uu,uu,uu,uu,uu,uu,uu,uu,uu,uu,uu,uu,uu,uu,uu,uu,uu,uu,uu,uu,uu,uu,uu,uu,uu,uu,uu,uu,uu,uu,uu,uu,uu,uu,uu,uu,uu,uu,uu,uu,uu,uu,uu,uu,uu,uu,uu,uu,uu,uu,uu,uu,uu,uu,uu,uu,uu,uu,uu,uu,uu,uu,uu,uu,uu,uu,uu,uu,uu,uu,uu,uu,uu],hp := emp }
noncomputable def L40_3 (m : Nat) (l0 : LP) (values1 : LP) (e5 : Int) (i7 : Int) : Option R40 := loopN (F40_16 n) m { tm := [.c (.sl (.pair (.int .i64) (.int .i64)) l0 false),.c (.sl (.pair (.int .i64) (.int .i64)) values1 false),uu,uu,uu,.c (.int .i64 e5),uu,.c (.int .i64 i7),uu,uu,uu,uu,uu,uu,uu,uu,uu,uu,uu,uu,uu,uu,uu,uu,uu,uu,uu,uu,uu,uu,uu,uu,uu,uu,uu,uu,uu,uu,uu,uu,uu,uu,uu,uu,uu,uu,uu,uu,uu,uu,uu,uu,uu,uu,uu,uu,uu,uu,uu,uu,uu,uu,uu,uu,uu,uu,uu,uu,uu,uu,uu,uu,uu,uu,uu,uu,uu,uu,uu,uu,uu,uu,uu,uu,uu,uu,uu,uu,uu,uu,uu,uu,uu,uu,uu,uu,uu,uu,uu,uu,uu,uu,uu,uu,uu,uu,uu,uu,uu,uu,uu,uu,uu,uu,uu,uu,uu,uu,uu,uu],hp := emp }
noncomputable def L40_4 (m1 : Nat) (l0 : LP) (values1 : LP) (e5 : Int) (i7 : Int) : Option R40 := loopN (fun _ => (kq40_19 n m1)) n.2 { tm := [.c (.sl (.pair (.int .i64) (.int .i64)) l0 false),.c (.sl (.pair (.int .i64) (.int .i64)) values1 false),uu,uu,uu,.c (.int .i64 e5),uu,.c (.int .i64 i7),uu,uu,uu,uu,uu,uu,uu,uu,uu,uu,uu,uu,uu,uu,uu,uu,uu,uu,uu,uu,uu,uu,uu,uu,uu,uu,uu,uu,uu,uu,uu,uu,uu,uu,uu,uu,uu,uu,uu,uu,uu,uu,uu,uu,uu,uu,uu,uu,uu,uu,uu,uu,uu,uu,uu,uu,uu,uu,uu,uu,uu,uu,uu,uu,uu,uu,uu,uu,uu,uu,uu,uu,uu,uu,uu,uu,uu,uu,uu,uu,uu,uu,uu,uu,uu,uu,uu,uu,uu,uu,uu,uu,uu,uu,uu,uu,uu,uu,uu,uu,uu,uu,uu,uu,uu,uu,uu,uu,uu,uu,uu,uu],hp := emp }
noncomputable def L40_5 (m : Nat) (l0 : LP) (values1 : LP) (i9 : Int) (r8 : LP) : Option R40 := loopN (F40_28 n) m { tm := [.c (.sl (.pair (.int .i64) (.int .i64)) l0 false),.c (.sl (.pair (.int .i64) (.int .i64)) values1 false),uu,uu,uu,uu,uu,uu,.own 8 none false,.c (.int .i64 i9),uu,uu,uu,uu,uu,uu,uu,uu,uu,uu,uu,uu,uu,uu,uu,uu,uu,uu,uu,uu,uu,uu,uu,uu,uu,uu,uu,uu,uu,uu,uu,uu,uu,uu,uu,uu,uu,uu,uu,uu,uu,uu,uu,uu,uu,uu,uu,uu,uu,uu,uu,uu,uu,uu,uu,uu,uu,uu,uu,uu,uu,uu,uu,uu,uu,uu,uu,uu,uu,uu,uu,uu,uu,uu,uu,uu,uu,uu,uu,uu,uu,uu,uu,uu,uu,uu,uu,uu,uu,uu,uu,uu,uu,uu,uu,uu,uu,uu,uu,uu,uu,uu,uu,uu,uu,uu,uu,uu,uu,uu],hp := (upd emp 8 (.arr (.pair (.int .i64) (.int .i64)) r8 false)) }
theorem L40_1_eq (m1 : Nat) (l0 : LP) (values1 : LP) (e5 : Int) (i6 : Int) : L40_1 n (m1 + 1) l0 values1 e5 i6 =
    ((bif (decide (i6 < (values1.length : Int)) == true) then some (e5 == 0)
      else some false)).bind fun b3' =>
    (bif b3' then (idx values1 i6).bind fun x4' =>
      (S71 n x4'.2 1 72).bind fun r5' =>
      ((bif ((!r5') == false) then (idx values1 i6).bind fun x6' =>
          (idx values1 i6).bind fun x7' =>
          (S71 n x6'.1 0 (wr .i64 (100 * x7'.2))).bind fun r8' =>
          some (!r8')
        else some true)).bind fun b9' =>
      (bif b9' then L40_2 n m1 l0 values1 1 i6
      else L40_2 n m1 l0 values1 e5 i6)
    else L40_3 n n.1 l0 values1 e5 1) := by kernel_rfl
theorem L40_2_raw (m1 : Nat) (l0 : LP) (values1 : LP) (e5 : Int) (i6 : Int) : (kq40_9 n m1) { tm := [.c (.sl (.pair (.int .i64) (.int .i64)) l0 false),.c (.sl (.pair (.int .i64) (.int .i64)) values1 false),uu,uu,uu,.c (.int .i64 e5),.c (.int .i64 i6),uu,uu,uu,uu,uu,uu,uu,uu,uu,uu,uu,uu,uu,uu,uu,uu,uu,uu,uu,uu,uu,uu,uu,uu,uu,uu,uu,uu,uu,uu,uu,uu,uu,uu,uu,uu,uu,uu,uu,uu,uu,uu,uu,uu,uu,uu,uu,uu,uu,uu,uu,uu,uu,uu,uu,uu,uu,uu,uu,uu,uu,uu,uu,uu,uu,uu,uu,uu,uu,uu,uu,uu,uu,uu,uu,uu,uu,uu,uu,uu,uu,uu,uu,uu,uu,uu,uu,uu,uu,uu,uu,uu,uu,uu,uu,uu,uu,uu,uu,uu,uu,uu,uu,uu,uu,uu,uu,uu,uu,uu,uu,uu,uu],hp := emp } =
    L40_1 n m1 l0 values1 e5 (wr .i64 (i6 + 1)) := by kernel_rfl
theorem L40_3_eq (m1 : Nat) (l0 : LP) (values1 : LP) (e5 : Int) (i7 : Int) : L40_3 n (m1 + 1) l0 values1 e5 i7 =
    ((bif (decide (i7 < (values1.length : Int)) == true) then some (e5 == 0)
      else some false)).bind fun b10' =>
    (bif b10' then (idx values1 i7).bind fun x11' =>
      (idx values1 (wr .i64 (i7 - 1))).bind fun x12' =>
      (S89 n x11' x12').bind fun r13' =>
      (bif r13' then L40_4 n m1 l0 values1 7 i7
      else L40_4 n m1 l0 values1 e5 i7)
    else (bif (e5 != 0) then some e5
      else (S84 n l0 values1).bind fun r14' =>
        L40_5 n n.1 l0 values1 0 r14')) := by kernel_rfl
theorem L40_4_raw (m1 : Nat) (l0 : LP) (values1 : LP) (e5 : Int) (i7 : Int) : (kq40_19 n m1) { tm := [.c (.sl (.pair (.int .i64) (.int .i64)) l0 false),.c (.sl (.pair (.int .i64) (.int .i64)) values1 false),uu,uu,uu,.c (.int .i64 e5),uu,.c (.int .i64 i7),uu,uu,uu,uu,uu,uu,uu,uu,uu,uu,uu,uu,uu,uu,uu,uu,uu,uu,uu,uu,uu,uu,uu,uu,uu,uu,uu,uu,uu,uu,uu,uu,uu,uu,uu,uu,uu,uu,uu,uu,uu,uu,uu,uu,uu,uu,uu,uu,uu,uu,uu,uu,uu,uu,uu,uu,uu,uu,uu,uu,uu,uu,uu,uu,uu,uu,uu,uu,uu,uu,uu,uu,uu,uu,uu,uu,uu,uu,uu,uu,uu,uu,uu,uu,uu,uu,uu,uu,uu,uu,uu,uu,uu,uu,uu,uu,uu,uu,uu,uu,uu,uu,uu,uu,uu,uu,uu,uu,uu,uu,uu,uu],hp := emp } =
    L40_3 n m1 l0 values1 e5 (wr .i64 (i7 + 1)) := by kernel_rfl
theorem L40_5_eq (m1 : Nat) (l0 : LP) (values1 : LP) (i9 : Int) (r8 : LP) : L40_5 n (m1 + 1) l0 values1 i9 r8 =
    (bif decide (i9 < (l0.length : Int)) then ((bif ((i9 == (wr .i64 ((l0.length : Int) - 1))) == false) then (idx values1 i9).bind fun x15' =>
          (idx values1 (wr .i64 (i9 + 1))).bind fun x16' =>
          (S89 n x15' x16').bind fun r17' =>
          some r17'
        else some true)).bind fun b18' =>
      (bif inB i9 r8.length then (idx r8 i9).bind fun x19' =>
        ((bif (decide (x19'.1 < 0) == false) then ((bif (b18' == true) then (bif inB i9 r8.length then (idx r8 i9).bind fun x20' =>
                  some (x20'.1 != 0)
                else none)
              else some false)).bind fun b21' =>
            some b21'
          else some true)).bind fun b22' =>
        (bif b22' then some 14
        else L40_5 n m1 l0 values1 (wr .i64 (i9 + 1)) r8)
      else none)
    else some 0) := by kernel_rfl
noncomputable def S40 (l0 : LP) (values1 : LP) : Option R40 := run (E40 n) c40 an40 rt40 (fun _ _ => none) rt40 { tm := [.c (.sl (.pair (.int .i64) (.int .i64)) l0 false),.c (.sl (.pair (.int .i64) (.int .i64)) values1 false),uu,uu,uu,uu,uu,uu,uu,uu,uu,uu,uu,uu,uu,uu,uu,uu,uu,uu,uu,uu,uu,uu,uu,uu,uu,uu,uu,uu,uu,uu,uu,uu,uu,uu,uu,uu,uu,uu,uu,uu,uu,uu,uu,uu,uu,uu,uu,uu,uu,uu,uu,uu,uu,uu,uu,uu,uu,uu,uu,uu,uu,uu,uu,uu,uu,uu,uu,uu,uu,uu,uu,uu,uu,uu,uu,uu,uu,uu,uu,uu,uu,uu,uu,uu,uu,uu,uu,uu,uu,uu,uu,uu,uu,uu,uu,uu,uu,uu,uu,uu,uu,uu,uu,uu,uu,uu,uu,uu,uu,uu,uu,uu,uu,uu,uu,uu,uu,uu],hp := emp }
theorem S40_eq (l0 : LP) (values1 : LP) : S40 n l0 values1 =
    (S25 n l0).bind fun r1' =>
    ((bif ((r1' == 0) == true) then some ((values1.length : Int) != (l0.length : Int))
      else some false)).bind fun b2' =>
    (bif b2' then L40_1 n n.1 l0 values1 5 0
    else L40_1 n n.1 l0 values1 r1' 0) := by kernel_rfl
theorem S40_run (xs : pksDen pk40) : S40 n xs.1 xs.2.1 = runG (E40 n) noScope c40 an40 (rtG rk40) (fun _ _ => none) (rtG rk40) (st0 pk40 xs Try.f40.ntmps) := by kernel_rfl
noncomputable def P40 := phiOf pk40 rk40 (fun xs => S40 n xs.1 xs.2.1)
theorem call40 : CallOK Try.prog 40 := callOK_of Try.func40 (by kernel_rfl) (by kernel_rfl)
theorem env40 : EnvOK Try.prog (E40 n) := envOK0 (consPhi_ok (FC25 n) call25 (consPhi_ok (FC71 n) call71 (consPhi_ok (FC84 n) call84 (consPhi_ok (FC89 n) call89 noPhi_ok)))) rfl rfl
theorem par40 : EnvPar (E40 n) := envPar0 (consPhi_par phiOf_Par1 (consPhi_par phiOf_Par1 (consPhi_par phiOf_Par1 (consPhi_par phiOf_Par1 noPhi_par)))) rfl
theorem FC40 : FCs Try.prog 40 (P40 n) := phiOf_FCs fun xs r h vs hv => FC.of_runG tabOK eqsOK (env40 n) (par40 n) mixed (fun _ => noScope_ok) Try.func40 (c := c40) (an := an40) (pks := pk40) (rks := rk40) (by kernel_rfl) (by kernel_rfl) hv ((S40_run n xs).symm.trans h)
abbrev R43 := LP × Int
abbrev K43 := St → Option R43
noncomputable def c43 : Code := bodyOf Try.f43
noncomputable def an43 : Ann := (.s .l (.s .l (.s (.s .l (.j [0,1,2,8,28,29,30] .l .l)) (.s (.s .l (.j [0,1,2,8] .l .l)) (.s (.s .l (.j [0,1,2] .l .l)) (.s .l (.s (.s .l (.j [9] (.j [1,2,9,10] (.s (.s .l (.j [1,2,9,10] .l .l)) (.j [] (.j [1,2,9,10] (.s (.s .l (.j [1,2,9,10] .l .l)) (.s .l (.j [1,2,9,10] .l .l))) .l) .l)) .l) .l)) .l)))))))
def pk43 : List PK := [.c (.sl (.pair (.int .i64) (.int .i64))),.c (.int .i64),.c (.int .i64)]
def rk43 : List RK := [.own (.pair (.int .i64) (.int .i64)) 6,.c (.int .i64) 7]
noncomputable def rt43 (st : St) : Option R43 := rtG rk43 st
noncomputable def E43 : Env := { T := tab,phi := (consPhi 25 (fun _ => true) (P25 n) (consPhi 71 (fun _ => true) (P71 n) (consPhi 78 (fun _ => true) (P78 n) (consPhi 89 (fun _ => true) (P89 n) noPhi)))),eff := fun _ => false,fuel := n.1,hold := n.2 }
noncomputable def kq43_1 : K43 := run (E43 n) (cB (cB (cB c43))) an43.snd.snd.snd rt43 (fun _ _ => none) rt43
noncomputable def kc43_2 : K43 := fun s => normC [0,1,2,8,28,29,30] s (kq43_1 n)
noncomputable def kq43_3 : K43 := run (E43 n) (cB (cB (cB (cB c43)))) an43.snd.snd.snd.snd rt43 (fun _ _ => none) rt43
noncomputable def kc43_4 : K43 := fun s => normC [0,1,2,8] s (kq43_3 n)
noncomputable def kq43_5 : K43 := run (E43 n) (cB (cB (cB (cB (cB c43))))) an43.snd.snd.snd.snd.snd rt43 (fun _ _ => none) rt43
noncomputable def kc43_6 : K43 := fun s => normC [0,1,2] s (kq43_5 n)
noncomputable def kq43_7 : K43 := run (E43 n) (cB (cB (cB (cB (cB (cB (cB c43))))))) an43.snd.snd.snd.snd.snd.snd.snd rt43 (fun _ _ => none) rt43
noncomputable def kc43_8 : K43 := fun s => normC [9] s (kq43_7 n)
noncomputable def xb43_9 : Nat → K43 := fun j s => bif Nat.beq j 0 then normC [9] s (kq43_7 n) else (fun _ _ => none) j s
noncomputable def F43_10 : (K43) → K43 := fun K s => run (E43 n) (cA (cA (cB (cA (cB (cB (cB (cB (cB (cB c43)))))))))) an43.snd.snd.snd.snd.snd.snd.fst.snd.fst.fst (fun s => normC [1,2,9,10] s K) (xb43_9 n) rt43 s
noncomputable def kq43_11 (m1 : Nat) : K43 := run (E43 n) (cB (cA (cA (cB (cA (cB (cB (cB (cB (cB (cB c43))))))))))) an43.snd.snd.snd.snd.snd.snd.fst.snd.fst.fst.snd (fun s => normC [1,2,9,10] s (loopN (F43_10 n) m1)) (xb43_9 n) rt43
noncomputable def kc43_12 (m1 : Nat) : K43 := fun s => normC [1,2,9,10] s (kq43_11 n m1)
noncomputable def kq43_13 (m1 : Nat) : K43 := run (E43 n) (cB (cB (cA (cA (cB (cA (cB (cB (cB (cB (cB (cB c43)))))))))))) an43.snd.snd.snd.snd.snd.snd.fst.snd.fst.fst.snd.snd (fun s => normC [1,2,9,10] s (loopN (F43_10 n) m1)) (xb43_9 n) rt43
noncomputable def kc43_14 (m1 : Nat) : K43 := fun s => normC [1,2,9,10] s (loopN (fun _ => (kq43_13 n m1)) n.2)
noncomputable def xb43_15 (m1 : Nat) : Nat → K43 := fun j s => bif Nat.beq j 1 then normC [1,2,9,10] s (loopN (fun _ => (kq43_13 n m1)) n.2) else (xb43_9 n) j s
noncomputable def kq43_16 (m1 : Nat) : K43 := run (E43 n) (cB (cA (cA (cB (cA (cA (cB (cA (cB (cB (cB (cB (cB (cB c43)))))))))))))) an43.snd.snd.snd.snd.snd.snd.fst.snd.fst.fst.snd.fst.fst.snd (kc43_14 n m1) (xb43_15 n m1) rt43
noncomputable def kc43_17 (m1 : Nat) : K43 := fun s => normC [1,2,9,10] s (kq43_16 n m1)
noncomputable def kc43_18 (m1 : Nat) : K43 := fun s => normC [1,2,9,10] s (kc43_14 n m1)
noncomputable def L43_1 (m : Nat) (low1 : Int) (high2 : Int) (i10 : Int) (out9 : LP) : Option R43 := loopN (F43_10 n) m { tm := [uu,.c (.int .i64 low1),.c (.int .i64 high2),uu,uu,uu,uu,uu,uu,.own 9 none false,.c (.int .i64 i10),uu,uu,uu,uu,uu,uu,uu,uu,uu,uu,uu,uu,uu,uu,uu,uu,uu,uu,uu,uu,uu,uu,uu,uu,uu,uu,uu,uu,uu,uu,uu,uu,uu,uu,uu,uu,uu,uu,uu,uu,uu,uu,uu,uu,uu,uu,uu,uu,uu,uu,uu,uu,uu,uu,uu,uu,uu],hp := (upd emp 9 (.arr (.pair (.int .i64) (.int .i64)) out9 false)) }
noncomputable def L43_2 (m1 : Nat) (low1 : Int) (high2 : Int) (i10 : Int) (out9 : LP) : Option R43 := loopN (fun _ => (kq43_13 n m1)) n.2 { tm := [uu,.c (.int .i64 low1),.c (.int .i64 high2),uu,uu,uu,uu,uu,uu,.own 9 none false,.c (.int .i64 i10),uu,uu,uu,uu,uu,uu,uu,uu,uu,uu,uu,uu,uu,uu,uu,uu,uu,uu,uu,uu,uu,uu,uu,uu,uu,uu,uu,uu,uu,uu,uu,uu,uu,uu,uu,uu,uu,uu,uu,uu,uu,uu,uu,uu,uu,uu,uu,uu,uu,uu,uu,uu,uu,uu,uu,uu,uu],hp := (upd emp 9 (.arr (.pair (.int .i64) (.int .i64)) out9 false)) }
theorem L43_1_eq (m1 : Nat) (low1 : Int) (high2 : Int) (i10 : Int) (out9 : LP) : L43_1 n (m1 + 1) low1 high2 i10 out9 =
    (bif decide (i10 < (out9.length : Int)) then (bif inB i10 out9.length then (idx out9 i10).bind fun x12' =>
        (S89 n x12' (low1,1)).bind fun r13' =>
        (bif r13' then (bif inB i10 out9.length then (idx out9 i10).bind fun x14' =>
            (bif inB i10 (out9.set (Int.toNat i10) (low1,1)).length then (idx (out9.set (Int.toNat i10) (low1,1)) i10).bind fun x15' =>
              (S89 n (high2,1) x15').bind fun r16' =>
              (bif r16' then (bif inB i10 (out9.set (Int.toNat i10) (low1,1)).length then (idx (out9.set (Int.toNat i10) (low1,1)) i10).bind fun x17' =>
                  L43_2 n m1 low1 high2 i10 ((out9.set (Int.toNat i10) (low1,1)).set (Int.toNat i10) (high2,1))
                else none)
              else L43_2 n m1 low1 high2 i10 (out9.set (Int.toNat i10) (low1,1)))
            else none)
          else none)
        else (bif inB i10 out9.length then (idx out9 i10).bind fun x18' =>
            (S89 n (high2,1) x18').bind fun r19' =>
            (bif r19' then (bif inB i10 out9.length then (idx out9 i10).bind fun x20' =>
                L43_2 n m1 low1 high2 i10 (out9.set (Int.toNat i10) (high2,1))
              else none)
            else L43_2 n m1 low1 high2 i10 out9)
          else none))
      else none)
    else some (out9,0)) := by kernel_rfl
theorem L43_2_raw (m1 : Nat) (low1 : Int) (high2 : Int) (i10 : Int) (out9 : LP) : (kq43_13 n m1) { tm := [uu,.c (.int .i64 low1),.c (.int .i64 high2),uu,uu,uu,uu,uu,uu,.own 9 none false,.c (.int .i64 i10),uu,uu,uu,uu,uu,uu,uu,uu,uu,uu,uu,uu,uu,uu,uu,uu,uu,uu,uu,uu,uu,uu,uu,uu,uu,uu,uu,uu,uu,uu,uu,uu,uu,uu,uu,uu,uu,uu,uu,uu,uu,uu,uu,uu,uu,uu,uu,uu,uu,uu,uu,uu,uu,uu,uu,uu,uu],hp := (upd emp 9 (.arr (.pair (.int .i64) (.int .i64)) out9 false)) } =
    L43_1 n m1 low1 high2 (wr .i64 (i10 + 1)) out9 := by kernel_rfl
noncomputable def S43 (l0 : LP) (low1 : Int) (high2 : Int) : Option R43 := run (E43 n) c43 an43 rt43 (fun _ _ => none) rt43 { tm := [.c (.sl (.pair (.int .i64) (.int .i64)) l0 false),.c (.int .i64 low1),.c (.int .i64 high2),uu,uu,uu,uu,uu,uu,uu,uu,uu,uu,uu,uu,uu,uu,uu,uu,uu,uu,uu,uu,uu,uu,uu,uu,uu,uu,uu,uu,uu,uu,uu,uu,uu,uu,uu,uu,uu,uu,uu,uu,uu,uu,uu,uu,uu,uu,uu,uu,uu,uu,uu,uu,uu,uu,uu,uu,uu,uu,uu,uu,uu,uu,uu,uu,uu],hp := emp }
theorem S43_eq (l0 : LP) (low1 : Int) (high2 : Int) : S43 n l0 low1 high2 =
    (S25 n l0).bind fun r1' =>
    ((bif ((r1' == 0) == true) then (S71 n low1 0 100).bind fun r2' =>
        ((bif ((!r2') == false) then (S71 n high2 0 100).bind fun r3' =>
            some (!r3')
          else some true)).bind fun b4' =>
        some b4'
      else some false)).bind fun b5' =>
    (bif b5' then ((bif ((1 == 0) == true) then some (decide (low1 > high2))
        else some false)).bind fun b6' =>
      (bif b6' then (bif (7 != 0) then some ([],7)
        else (S78 n l0).bind fun r7' =>
          L43_1 n n.1 low1 high2 0 r7')
      else (bif (1 != 0) then some ([],1)
        else (S78 n l0).bind fun r8' =>
          L43_1 n n.1 low1 high2 0 r8'))
    else ((bif ((r1' == 0) == true) then some (decide (low1 > high2))
        else some false)).bind fun b9' =>
      (bif b9' then (bif (7 != 0) then some ([],7)
        else (S78 n l0).bind fun r10' =>
          L43_1 n n.1 low1 high2 0 r10')
      else (bif (r1' != 0) then some ([],r1')
        else (S78 n l0).bind fun r11' =>
          L43_1 n n.1 low1 high2 0 r11'))) := by kernel_rfl
theorem S43_run (xs : pksDen pk43) : S43 n xs.1 xs.2.1 xs.2.2.1 = runG (E43 n) noScope c43 an43 (rtG rk43) (fun _ _ => none) (rtG rk43) (st0 pk43 xs Try.f43.ntmps) := by kernel_rfl
noncomputable def P43 := phiOf pk43 rk43 (fun xs => S43 n xs.1 xs.2.1 xs.2.2.1)
theorem call43 : CallOK Try.prog 43 := callOK_of Try.func43 (by kernel_rfl) (by kernel_rfl)
theorem env43 : EnvOK Try.prog (E43 n) := envOK0 (consPhi_ok (FC25 n) call25 (consPhi_ok (FC71 n) call71 (consPhi_ok (FC78 n) call78 (consPhi_ok (FC89 n) call89 noPhi_ok)))) rfl rfl
theorem par43 : EnvPar (E43 n) := envPar0 (consPhi_par phiOf_Par1 (consPhi_par phiOf_Par1 (consPhi_par phiOf_Par1 (consPhi_par phiOf_Par1 noPhi_par)))) rfl
theorem FC43 : FCs Try.prog 43 (P43 n) := phiOf_FCs fun xs r h vs hv => FC.of_runG tabOK eqsOK (env43 n) (par43 n) mixed (fun _ => noScope_ok) Try.func43 (c := c43) (an := an43) (pks := pk43) (rks := rk43) (by kernel_rfl) (by kernel_rfl) hv ((S43_run n xs).symm.trans h)
abbrev R90 := List (List Int)
abbrev K90 := St → Option R90
noncomputable def c90 : Code := bodyOf Try.f90
noncomputable def an90 : Ann := (.s .l (.s (.s .l (.j [0,1,2] .l .l)) (.s .l (.s (.s .l (.j [0,1,2,7] .l .l)) (.s .l (.s (.s .l (.j [8] (.j [0,1,2,8,9] (.s (.s .l (.j [0,1,2,8,9] .l .l)) (.s (.j [0,1,2,8,9] .l .l) .l)) .l) .l)) .l))))))
def pk90 : List PK := [.c (.int .i64),.c (.int .i64),.c (.sl (.int .i64))]
def rk90 : List RK := [.own (.sl (.int .i64)) 6]
noncomputable def rt90 (st : St) : Option R90 := rtG rk90 st
noncomputable def E90 (SS : Int → Int → List Int → Option R90) : Env := { T := tab,phi := (consPhi 90 (fun _ => true) (phiOf pk90 rk90 (fun xs => SS xs.1 xs.2.1 xs.2.2.1)) noPhi),eff := fun g => Nat.beq g 90,fuel := n.1,hold := n.2 }
noncomputable def kq90_1 (SS : Int → Int → List Int → Option R90) : K90 := run (E90 n SS) (cB (cB c90)) an90.snd.snd rt90 (fun _ _ => none) rt90
noncomputable def kc90_2 (SS : Int → Int → List Int → Option R90) : K90 := fun s => normC [0,1,2] s (kq90_1 n SS)
noncomputable def kq90_3 (SS : Int → Int → List Int → Option R90) : K90 := run (E90 n SS) (cB (cB (cB (cB c90)))) an90.snd.snd.snd.snd rt90 (fun _ _ => none) rt90
noncomputable def kc90_4 (SS : Int → Int → List Int → Option R90) : K90 := fun s => normC [0,1,2,7] s (kq90_3 n SS)
noncomputable def kq90_5 (SS : Int → Int → List Int → Option R90) : K90 := run (E90 n SS) (cB (cB (cB (cB (cB (cB c90)))))) an90.snd.snd.snd.snd.snd.snd rt90 (fun _ _ => none) rt90
noncomputable def kc90_6 (SS : Int → Int → List Int → Option R90) : K90 := fun s => normC [8] s (kq90_5 n SS)
noncomputable def xb90_7 (SS : Int → Int → List Int → Option R90) : Nat → K90 := fun j s => bif Nat.beq j 0 then normC [8] s (kq90_5 n SS) else (fun _ _ => none) j s
noncomputable def F90_8 (SS : Int → Int → List Int → Option R90) : (K90) → K90 := fun K s => run (E90 n SS) (cA (cA (cB (cA (cB (cB (cB (cB (cB c90))))))))) an90.snd.snd.snd.snd.snd.fst.snd.fst.fst (fun s => normC [0,1,2,8,9] s K) (xb90_7 n SS) rt90 s
noncomputable def kq90_9 (SS : Int → Int → List Int → Option R90) (m1 : Nat) : K90 := run (E90 n SS) (cB (cA (cA (cB (cA (cB (cB (cB (cB (cB c90)))))))))) an90.snd.snd.snd.snd.snd.fst.snd.fst.fst.snd (fun s => normC [0,1,2,8,9] s (loopN (F90_8 n SS) m1)) (xb90_7 n SS) rt90
noncomputable def kc90_10 (SS : Int → Int → List Int → Option R90) (m1 : Nat) : K90 := fun s => normC [0,1,2,8,9] s (kq90_9 n SS m1)
noncomputable def kq90_11 (SS : Int → Int → List Int → Option R90) (m1 : Nat) : K90 := run (E90 n SS) (cB (cB (cA (cA (cB (cA (cB (cB (cB (cB (cB c90))))))))))) an90.snd.snd.snd.snd.snd.fst.snd.fst.fst.snd.snd (fun s => normC [0,1,2,8,9] s (loopN (F90_8 n SS) m1)) (xb90_7 n SS) rt90
noncomputable def kc90_12 (SS : Int → Int → List Int → Option R90) (m1 : Nat) : K90 := fun s => normC [0,1,2,8,9] s (kq90_11 n SS m1)
noncomputable def xb90_13 (SS : Int → Int → List Int → Option R90) (m1 : Nat) : Nat → K90 := fun j s => bif Nat.beq j 1 then normC [0,1,2,8,9] s (kq90_11 n SS m1) else (xb90_7 n SS) j s
noncomputable def L90_1 (SS : Int → Int → List Int → Option R90) (m : Nat) (sources0 : Int) (many1 : Int) (begun2 : List Int) (i9 : Int) (out8 : List (List Int)) : Option R90 := loopN (F90_8 n SS) m { tm := [.c (.int .i64 sources0),.c (.int .i64 many1),.c (.sl (.int .i64) begun2 false),uu,uu,uu,uu,uu,.own 8 none false,.c (.int .i64 i9),uu,uu,uu,uu,uu,uu,uu,uu,uu,uu,uu,uu,uu,uu,uu,uu,uu,uu,uu,uu,uu,uu,uu,uu,uu,uu,uu,uu,uu,uu,uu,uu,uu,uu,uu,uu,uu,uu,uu],hp := (upd emp 8 (.arr (.sl (.int .i64)) out8 true)) }
theorem L90_1_eq (SS : Int → Int → List Int → Option R90) (m1 : Nat) (sources0 : Int) (many1 : Int) (begun2 : List Int) (i9 : Int) (out8 : List (List Int)) : L90_1 n SS (m1 + 1) sources0 many1 begun2 i9 out8 =
    (bif decide (i9 ≤ wr .i64 ((wr .i64 (sources0 - many1)) + (begun2.length : Int))) then (bif decide (([] : List Int).length + begun2.length ≤ lim) then (bif decide (([] ++ begun2).length + [i9].length ≤ lim) then (SS sources0 many1 (([] ++ begun2) ++ [i9])).bind fun r2' =>
          (bif decide (out8.length + r2'.length ≤ lim) then L90_1 n SS m1 sources0 many1 begun2 (wr .i64 (i9 + 1)) (out8 ++ r2')
          else none)
        else none)
      else none)
    else some out8) := by kernel_rfl
noncomputable def B90 (SS : Int → Int → List Int → Option R90) (sources0 : Int) (many1 : Int) (begun2 : List Int) : Option R90 := run (E90 n SS) c90 an90 rt90 (fun _ _ => none) rt90 { tm := [.c (.int .i64 sources0),.c (.int .i64 many1),.c (.sl (.int .i64) begun2 false),uu,uu,uu,uu,uu,uu,uu,uu,uu,uu,uu,uu,uu,uu,uu,uu,uu,uu,uu,uu,uu,uu,uu,uu,uu,uu,uu,uu,uu,uu,uu,uu,uu,uu,uu,uu,uu,uu,uu,uu,uu,uu,uu,uu,uu,uu],hp := emp }
theorem B90_eq (SS : Int → Int → List Int → Option R90) (sources0 : Int) (many1 : Int) (begun2 : List Int) : B90 n SS sources0 many1 begun2 =
    (bif ((begun2.length : Int) == many1) then some [begun2]
    else (bif decide ((begun2.length : Int) > 0) then (idx begun2 (wr .i64 ((begun2.length : Int) - 1))).bind fun x1' =>
        L90_1 n SS n.1 sources0 many1 begun2 (wr .i64 (x1' + 1)) []
      else L90_1 n SS n.1 sources0 many1 begun2 0 [])) := by kernel_rfl
noncomputable def T90 (n : Nat × Nat) : Nat → Int → Int → List Int → Option R90
  | 0 => fun _ _ _ => none
  | d + 1 => B90 n (T90 n d)
theorem T90_eq (d : Nat) (sources0 : Int) (many1 : Int) (begun2 : List Int) : T90 n (d + 1) sources0 many1 begun2 = B90 n (T90 n d) sources0 many1 begun2 := rfl
noncomputable def S90 (sources0 : Int) (many1 : Int) (begun2 : List Int) : Option R90 := T90 n n.1 sources0 many1 begun2
theorem B90_run (SS : Int → Int → List Int → Option R90) (xs : pksDen pk90) : B90 n SS xs.1 xs.2.1 xs.2.2.1 = runG (E90 n SS) noScope c90 an90 (rtG rk90) (fun _ _ => none) (rtG rk90) (st0 pk90 xs Try.f90.ntmps) := by kernel_rfl
noncomputable def P90 := phiOf pk90 rk90 (fun xs => S90 n xs.1 xs.2.1 xs.2.2.1)
theorem call90 : CallOK Try.prog 90 := callOK_of Try.func90 (by kernel_rfl) (by kernel_rfl)
theorem env90 (SS : Int → Int → List Int → Option R90) (hSS : FCs Try.prog 90 (phiOf pk90 rk90 (fun xs => SS xs.1 xs.2.1 xs.2.2.1))) : EnvOK Try.prog (E90 n SS) := envOK0 (consPhi_ok hSS call90 noPhi_ok) rfl rfl
theorem par90 (SS : Int → Int → List Int → Option R90) : EnvPar (E90 n SS) := envPar0 (consPhi_par phiOf_Par1 noPhi_par) rfl
theorem FCT90 (n : Nat × Nat) : ∀ d : Nat,FCs Try.prog 90 (phiOf pk90 rk90 (fun xs => T90 n d xs.1 xs.2.1 xs.2.2.1))
  | 0 => phiOf_FCs fun xs r h => by cases h
  | d + 1 => phiOf_FCs fun xs r h vs hv => FC.of_runG tabOK eqsOK (env90 n (T90 n d) (FCT90 n d)) (par90 n (T90 n d)) mixed (fun _ => noScope_ok) Try.func90 (c := c90) (an := an90) (pks := pk90) (rks := rk90) (by kernel_rfl) (by kernel_rfl) hv ((B90_run n (T90 n d) xs).symm.trans h)
theorem FC90 : FCs Try.prog 90 (P90 n) := FCT90 n n.1
abbrev R91 := Bool
abbrev K91 := St → Option R91
noncomputable def c91 : Code := bodyOf Try.f91
noncomputable def an91 : Ann := (.s .l (.s .l (.s (.s .l (.j [] (.j [0,1,5,6,7,19,20,21,22,23,24] (.s (.s .l (.j [0,1,5,6,7,19,20,21,22,23,24] .l .l)) (.j [] (.j [0,1,5,6,7,19,20,21,22,23,24] (.s (.s .l (.j [0,1,5,6,7,19,20,21,22,23,24] .l .l)) (.s (.s .l (.j [0,1,6,7,19,20,21,22,23,24] .l .l)) .l)) .l) .l)) .l) .l)) .l)))
def pk91 : List PK := [.c (.sl (.pair (.int .i64) (.int .i64))),.c (.sl (.int .i64))]
def rk91 : List RK := [.c .bool 4]
noncomputable def rt91 (st : St) : Option R91 := rtG rk91 st
noncomputable def E91 : Env := { T := tab,phi := noPhi,eff := fun _ => false,fuel := n.1,hold := n.2 }
noncomputable def kq91_1 : K91 := run (E91 n) (cB (cB (cB c91))) an91.snd.snd.snd rt91 (fun _ _ => none) rt91
noncomputable def kc91_2 : K91 := fun s => normC [] s (kq91_1 n)
noncomputable def xb91_3 : Nat → K91 := fun j s => bif Nat.beq j 0 then normC [] s (kq91_1 n) else (fun _ _ => none) j s
noncomputable def F91_4 : (K91) → K91 := fun K s => run (E91 n) (cA (cA (cB (cA (cB (cB c91)))))) an91.snd.snd.fst.snd.fst.fst (fun s => normC [0,1,5,6,7,19,20,21,22,23,24] s K) (xb91_3 n) rt91 s
noncomputable def kq91_5 (m1 : Nat) : K91 := run (E91 n) (cB (cA (cA (cB (cA (cB (cB c91))))))) an91.snd.snd.fst.snd.fst.fst.snd (fun s => normC [0,1,5,6,7,19,20,21,22,23,24] s (loopN (F91_4 n) m1)) (xb91_3 n) rt91
noncomputable def kc91_6 (m1 : Nat) : K91 := fun s => normC [0,1,5,6,7,19,20,21,22,23,24] s (kq91_5 n m1)
noncomputable def kq91_7 (m1 : Nat) : K91 := run (E91 n) (cB (cB (cA (cA (cB (cA (cB (cB c91)))))))) an91.snd.snd.fst.snd.fst.fst.snd.snd (fun s => normC [0,1,5,6,7,19,20,21,22,23,24] s (loopN (F91_4 n) m1)) (xb91_3 n) rt91
noncomputable def kc91_8 (m1 : Nat) : K91 := fun s => normC [0,1,5,6,7,19,20,21,22,23,24] s (loopN (fun _ => (kq91_7 n m1)) n.2)
noncomputable def xb91_9 (m1 : Nat) : Nat → K91 := fun j s => bif Nat.beq j 1 then normC [0,1,5,6,7,19,20,21,22,23,24] s (loopN (fun _ => (kq91_7 n m1)) n.2) else (xb91_3 n) j s
noncomputable def kq91_10 (m1 : Nat) : K91 := run (E91 n) (cB (cA (cA (cB (cA (cA (cB (cA (cB (cB c91)))))))))) an91.snd.snd.fst.snd.fst.fst.snd.fst.fst.snd (kc91_8 n m1) (xb91_9 n m1) rt91
noncomputable def kc91_11 (m1 : Nat) : K91 := fun s => normC [0,1,5,6,7,19,20,21,22,23,24] s (kq91_10 n m1)
noncomputable def kq91_12 (m1 : Nat) : K91 := run (E91 n) (cB (cB (cA (cA (cB (cA (cA (cB (cA (cB (cB c91))))))))))) an91.snd.snd.fst.snd.fst.fst.snd.fst.fst.snd.snd (kc91_8 n m1) (xb91_9 n m1) rt91
noncomputable def kc91_13 (m1 : Nat) : K91 := fun s => normC [0,1,6,7,19,20,21,22,23,24] s (kq91_12 n m1)
noncomputable def L91_1 (m : Nat) (l0 : LP) (but1 : List Int) (v5 : Int) (k6 : Int) (i7 : Int) : Option R91 := loopN (F91_4 n) m { tm := [.c (.sl (.pair (.int .i64) (.int .i64)) l0 false),.c (.sl (.int .i64) but1 false),uu,uu,uu,.c (.int .i64 v5),.c (.int .i64 k6),.c (.int .i64 i7),uu,uu,uu,uu,uu,uu,uu,uu,uu,uu,uu,uu,uu,uu,uu,uu,uu,uu,uu,uu,uu,uu,uu,uu,uu,uu,uu,uu,uu,uu,uu,uu],hp := emp }
noncomputable def L91_2 (m1 : Nat) (l0 : LP) (but1 : List Int) (v5 : Int) (k6 : Int) (i7 : Int) : Option R91 := loopN (fun _ => (kq91_7 n m1)) n.2 { tm := [.c (.sl (.pair (.int .i64) (.int .i64)) l0 false),.c (.sl (.int .i64) but1 false),uu,uu,uu,.c (.int .i64 v5),.c (.int .i64 k6),.c (.int .i64 i7),uu,uu,uu,uu,uu,uu,uu,uu,uu,uu,uu,uu,uu,uu,uu,uu,uu,uu,uu,uu,uu,uu,uu,uu,uu,uu,uu,uu,uu,uu,uu,uu],hp := emp }
theorem L91_1_eq (m1 : Nat) (l0 : LP) (but1 : List Int) (v5 : Int) (k6 : Int) (i7 : Int) : L91_1 n (m1 + 1) l0 but1 v5 k6 i7 =
    (bif decide (i7 < (l0.length : Int)) then ((bif (decide (k6 < (but1.length : Int)) == true) then (idx but1 k6).bind fun x1' =>
          some (x1' == i7)
        else some false)).bind fun b2' =>
      (bif b2' then L91_2 n m1 l0 but1 v5 (wr .i64 (k6 + 1)) i7
      else (idx l0 i7).bind fun x3' =>
        (bif decide (x3'.1 < v5) then some false
        else (idx l0 i7).bind fun x4' =>
          L91_2 n m1 l0 but1 x4'.1 k6 i7))
    else some true) := by kernel_rfl
theorem L91_2_raw (m1 : Nat) (l0 : LP) (but1 : List Int) (v5 : Int) (k6 : Int) (i7 : Int) : (kq91_7 n m1) { tm := [.c (.sl (.pair (.int .i64) (.int .i64)) l0 false),.c (.sl (.int .i64) but1 false),uu,uu,uu,.c (.int .i64 v5),.c (.int .i64 k6),.c (.int .i64 i7),uu,uu,uu,uu,uu,uu,uu,uu,uu,uu,uu,uu,uu,uu,uu,uu,uu,uu,uu,uu,uu,uu,uu,uu,uu,uu,uu,uu,uu,uu,uu,uu],hp := emp } =
    L91_1 n m1 l0 but1 v5 k6 (wr .i64 (i7 + 1)) := by kernel_rfl
noncomputable def S91 (l0 : LP) (but1 : List Int) : Option R91 := run (E91 n) c91 an91 rt91 (fun _ _ => none) rt91 { tm := [.c (.sl (.pair (.int .i64) (.int .i64)) l0 false),.c (.sl (.int .i64) but1 false),uu,uu,uu,uu,uu,uu,uu,uu,uu,uu,uu,uu,uu,uu,uu,uu,uu,uu,uu,uu,uu,uu,uu,uu,uu,uu,uu,uu,uu,uu,uu,uu,uu,uu,uu,uu,uu,uu],hp := emp }
theorem S91_eq (l0 : LP) (but1 : List Int) : S91 n l0 but1 =
    L91_1 n n.1 l0 but1 0 0 0 := by kernel_rfl
theorem S91_run (xs : pksDen pk91) : S91 n xs.1 xs.2.1 = runG (E91 n) noScope c91 an91 (rtG rk91) (fun _ _ => none) (rtG rk91) (st0 pk91 xs Try.f91.ntmps) := by kernel_rfl
noncomputable def P91 := phiOf pk91 rk91 (fun xs => S91 n xs.1 xs.2.1)
theorem call91 : CallOK Try.prog 91 := callOK_of Try.func91 (by kernel_rfl) (by kernel_rfl)
theorem env91 : EnvOK Try.prog (E91 n) := envOK0 noPhi_ok rfl rfl
theorem par91 : EnvPar (E91 n) := envPar0 noPhi_par rfl
theorem FC91 : FCs Try.prog 91 (P91 n) := phiOf_FCs fun xs r h vs hv => FC.of_runG tabOK eqsOK (env91 n) (par91 n) mixed (fun _ => noScope_ok) Try.func91 (c := c91) (an := an91) (pks := pk91) (rks := rk91) (by kernel_rfl) (by kernel_rfl) hv ((S91_run n xs).symm.trans h)
abbrev R45 := List Int × Int
abbrev K45 := St → Option R45
noncomputable def c45 : Code := bodyOf Try.f45
noncomputable def an45 : Ann := (.s .l (.s .l (.s (.s .l (.j [0] .l .l)) (.s (.s .l (.j [] (.j [0,5] (.s (.s .l (.j [0,5] .l .l)) (.s (.j [0,5] (.s .l (.s .l (.j [0,5] (.j [0,5,6,7] (.s (.s .l (.j [0,5,6,7] .l .l)) (.s (.j [0,5,6,7] (.s .l (.j [0,5,6,7] .l .l)) .l) .l)) .l) .l))) .l) .l)) .l) .l)) .l))))
def pk45 : List PK := [.c (.sl (.pair (.int .i64) (.int .i64)))]
def rk45 : List RK := [.sl (.int .i64) 2,.c (.int .i64) 3]
noncomputable def rt45 (st : St) : Option R45 := rtG rk45 st
noncomputable def E45 : Env := { T := tab,phi := (consPhi 25 (fun _ => true) (P25 n) (consPhi 90 (fun _ => true) (P90 n) (consPhi 91 (fun _ => true) (P91 n) noPhi))),eff := fun g => Nat.beq g 90,fuel := n.1,hold := n.2 }
noncomputable def kq45_1 : K45 := run (E45 n) (cB (cB (cB c45))) an45.snd.snd.snd rt45 (fun _ _ => none) rt45
noncomputable def kc45_2 : K45 := fun s => normC [0] s (kq45_1 n)
noncomputable def kq45_3 : K45 := run (E45 n) (cB (cB (cB (cB c45)))) an45.snd.snd.snd.snd rt45 (fun _ _ => none) rt45
noncomputable def kc45_4 : K45 := fun s => normC [] s (kq45_3 n)
noncomputable def xb45_5 : Nat → K45 := fun j s => bif Nat.beq j 0 then normC [] s (kq45_3 n) else (fun _ _ => none) j s
noncomputable def F45_6 : (K45) → K45 := fun K s => run (E45 n) (cA (cA (cB (cA (cB (cB (cB c45))))))) an45.snd.snd.snd.fst.snd.fst.fst (fun s => normC [0,5] s K) (xb45_5 n) rt45 s
noncomputable def kq45_7 (m1 : Nat) : K45 := run (E45 n) (cB (cA (cA (cB (cA (cB (cB (cB c45)))))))) an45.snd.snd.snd.fst.snd.fst.fst.snd (fun s => normC [0,5] s (loopN (F45_6 n) m1)) (xb45_5 n) rt45
noncomputable def kc45_8 (m1 : Nat) : K45 := fun s => normC [0,5] s (kq45_7 n m1)
noncomputable def kq45_9 (m1 : Nat) : K45 := run (E45 n) (cB (cB (cA (cA (cB (cA (cB (cB (cB c45))))))))) an45.snd.snd.snd.fst.snd.fst.fst.snd.snd (fun s => normC [0,5] s (loopN (F45_6 n) m1)) (xb45_5 n) rt45
noncomputable def kc45_10 (m1 : Nat) : K45 := fun s => normC [0,5] s (kq45_9 n m1)
noncomputable def xb45_11 (m1 : Nat) : Nat → K45 := fun j s => bif Nat.beq j 1 then normC [0,5] s (kq45_9 n m1) else (xb45_5 n) j s
noncomputable def kc45_12 (m1 : Nat) : K45 := fun s => normC [0,5] s (kc45_10 n m1)
noncomputable def xb45_13 (m1 : Nat) : Nat → K45 := fun j s => bif Nat.beq j 2 then normC [0,5] s (kc45_10 n m1) else (xb45_11 n m1) j s
noncomputable def F45_14 (m1 : Nat) : (K45) → K45 := fun K s => run (E45 n) (cA (cA (cB (cB (cA (cA (cB (cA (cA (cB (cA (cB (cB (cB c45)))))))))))))) an45.snd.snd.snd.fst.snd.fst.fst.snd.fst.fst.snd.snd.fst.fst (fun s => normC [0,5,6,7] s K) (xb45_13 n m1) rt45 s
noncomputable def kq45_15 (m1 m2 : Nat) : K45 := run (E45 n) (cB (cA (cA (cB (cB (cA (cA (cB (cA (cA (cB (cA (cB (cB (cB c45))))))))))))))) an45.snd.snd.snd.fst.snd.fst.fst.snd.fst.fst.snd.snd.fst.fst.snd (fun s => normC [0,5,6,7] s (loopN (F45_14 n m1) m2)) (xb45_13 n m1) rt45
noncomputable def kc45_16 (m1 m2 : Nat) : K45 := fun s => normC [0,5,6,7] s (kq45_15 n m1 m2)
noncomputable def kq45_17 (m1 m2 : Nat) : K45 := run (E45 n) (cB (cB (cA (cA (cB (cB (cA (cA (cB (cA (cA (cB (cA (cB (cB (cB c45)))))))))))))))) an45.snd.snd.snd.fst.snd.fst.fst.snd.fst.fst.snd.snd.fst.fst.snd.snd (fun s => normC [0,5,6,7] s (loopN (F45_14 n m1) m2)) (xb45_13 n m1) rt45
noncomputable def kc45_18 (m1 m2 : Nat) : K45 := fun s => normC [0,5,6,7] s (kq45_17 n m1 m2)
noncomputable def xb45_19 (m1 m2 : Nat) : Nat → K45 := fun j s => bif Nat.beq j 3 then normC [0,5,6,7] s (kq45_17 n m1 m2) else (xb45_13 n m1) j s
noncomputable def kc45_20 (m1 m2 : Nat) : K45 := fun s => normC [0,5,6,7] s (kc45_18 n m1 m2)
noncomputable def L45_1 (m : Nat) (l0 : LP) (many5 : Int) : Option R45 := loopN (F45_6 n) m { tm := [.c (.sl (.pair (.int .i64) (.int .i64)) l0 false),uu,uu,uu,uu,.c (.int .i64 many5),uu,uu,uu,uu,uu,uu,uu,uu,uu,uu,uu,uu,uu,uu,uu,uu,uu,uu,uu,uu,uu,uu,uu,uu,uu,uu,uu,uu,uu,uu,uu,uu,uu],hp := emp }
noncomputable def L45_2 (m1 : Nat) (m : Nat) (l0 : LP) (many5 : Int) (i7 : Int) (c6 : List (List Int)) : Option R45 := loopN (F45_14 n m1) m { tm := [.c (.sl (.pair (.int .i64) (.int .i64)) l0 false),uu,uu,uu,uu,.c (.int .i64 many5),.own 6 none false,.c (.int .i64 i7),uu,uu,uu,uu,uu,uu,uu,uu,uu,uu,uu,uu,uu,uu,uu,uu,uu,uu,uu,uu,uu,uu,uu,uu,uu,uu,uu,uu,uu,uu,uu],hp := (upd emp 6 (.arr (.sl (.int .i64)) c6 false)) }
theorem L45_1_eq (m1 : Nat) (l0 : LP) (many5 : Int) : L45_1 n (m1 + 1) l0 many5 =
    (bif decide (many5 < (l0.length : Int)) then (S90 n (l0.length : Int) many5 []).bind fun r2' =>
      L45_2 n m1 n.1 l0 many5 0 r2'
    else some ([],0)) := by kernel_rfl
theorem L45_2_eq (m1 m2 : Nat) (l0 : LP) (many5 : Int) (i7 : Int) (c6 : List (List Int)) : L45_2 n m1 (m2 + 1) l0 many5 i7 c6 =
    (bif decide (i7 < (c6.length : Int)) then (bif inB i7 c6.length then (idx c6 i7).bind fun x3' =>
        (S91 n l0 x3').bind fun r4' =>
        (bif r4' then (bif inB i7 c6.length then (idx c6 i7).bind fun x5' =>
            some (x5',0)
          else none)
        else L45_2 n m1 m2 l0 many5 (wr .i64 (i7 + 1)) c6)
      else none)
    else L45_1 n m1 l0 (wr .i64 (many5 + 1))) := by kernel_rfl
noncomputable def S45 (l0 : LP) : Option R45 := run (E45 n) c45 an45 rt45 (fun _ _ => none) rt45 { tm := [.c (.sl (.pair (.int .i64) (.int .i64)) l0 false),uu,uu,uu,uu,uu,uu,uu,uu,uu,uu,uu,uu,uu,uu,uu,uu,uu,uu,uu,uu,uu,uu,uu,uu,uu,uu,uu,uu,uu,uu,uu,uu,uu,uu,uu,uu,uu,uu],hp := emp }
theorem S45_eq (l0 : LP) : S45 n l0 =
    (S25 n l0).bind fun r1' =>
    (bif (r1' != 0) then some ([],r1')
    else L45_1 n n.1 l0 0) := by kernel_rfl
theorem S45_run (xs : pksDen pk45) : S45 n xs.1 = runG (E45 n) noScope c45 an45 (rtG rk45) (fun _ _ => none) (rtG rk45) (st0 pk45 xs Try.f45.ntmps) := by kernel_rfl
noncomputable def P45 := phiOf pk45 rk45 (fun xs => S45 n xs.1)
theorem call45 : CallOK Try.prog 45 := callOK_of Try.func45 (by kernel_rfl) (by kernel_rfl)
theorem env45 : EnvOK Try.prog (E45 n) := envOK0 (consPhi_ok (FC25 n) call25 (consPhi_ok (FC90 n) call90 (consPhi_ok (FC91 n) call91 noPhi_ok))) rfl rfl
theorem par45 : EnvPar (E45 n) := envPar0 (consPhi_par phiOf_Par1 (consPhi_par phiOf_Par1 (consPhi_par phiOf_Par1 noPhi_par))) rfl
theorem FC45 : FCs Try.prog 45 (P45 n) := phiOf_FCs fun xs r h vs hv => FC.of_runG tabOK eqsOK (env45 n) (par45 n) mixed (fun _ => noScope_ok) Try.func45 (c := c45) (an := an45) (pks := pk45) (rks := rk45) (by kernel_rfl) (by kernel_rfl) hv ((S45_run n xs).symm.trans h)
abbrev R47 := LP
abbrev K47 := St → Option R47
noncomputable def c47 : Code := bodyOf Try.f47
noncomputable def an47 : Ann := (.s .l (.s .l (.s (.s .l (.j [7] (.j [2,3,7,14,15] (.s .l (.s (.j [2,3,7,14,15] .l .l) (.s (.j [2,3,7,14,15] .l .l) .l))) .l) .l)) .l)))
def pk47 : List PK := [.c (.pair (.int .u8) (.pair (.pair (.int .u8) (.pair (.int .u8) (.pair (.int .u8) (.pair (.int .u8) (.pair (.int .u8) (.pair (.int .u8) (.pair (.int .u8) (.int .u8)))))))) (.pair (.int .u8) (.pair (.int .u8) (.pair (.int .u8) (.pair (.int .u8) (.pair (.int .u8) (.pair (.int .u8) (.pair (.int .u8) (.int .u8)))))))))),.c (.int .i64),.c (.int .i64)]
def rk47 : List RK := [.own (.pair (.int .i64) (.int .i64)) 6]
noncomputable def rt47 (st : St) : Option R47 := rtG rk47 st
noncomputable def E47 : Env := { T := tab,phi := noPhi,eff := fun _ => false,fuel := n.1,hold := n.2 }
noncomputable def kq47_1 : K47 := run (E47 n) (cB (cB (cB c47))) an47.snd.snd.snd rt47 (fun _ _ => none) rt47
noncomputable def kc47_2 : K47 := fun s => normC [7] s (kq47_1 n)
noncomputable def xb47_3 : Nat → K47 := fun j s => bif Nat.beq j 0 then normC [7] s (kq47_1 n) else (fun _ _ => none) j s
noncomputable def F47_4 : (K47) → K47 := fun K s => run (E47 n) (cA (cA (cB (cA (cB (cB c47)))))) an47.snd.snd.fst.snd.fst.fst (fun s => normC [2,3,7,14,15] s K) (xb47_3 n) rt47 s
noncomputable def kq47_5 (m1 : Nat) : K47 := run (E47 n) (cB (cB (cA (cA (cB (cA (cB (cB c47)))))))) an47.snd.snd.fst.snd.fst.fst.snd.snd (fun s => normC [2,3,7,14,15] s (loopN (F47_4 n) m1)) (xb47_3 n) rt47
noncomputable def kc47_6 (m1 : Nat) : K47 := fun s => normC [2,3,7,14,15] s (kq47_5 n m1)
noncomputable def kq47_7 (m1 : Nat) : K47 := run (E47 n) (cB (cB (cB (cA (cA (cB (cA (cB (cB c47))))))))) an47.snd.snd.fst.snd.fst.fst.snd.snd.snd (fun s => normC [2,3,7,14,15] s (loopN (F47_4 n) m1)) (xb47_3 n) rt47
noncomputable def kc47_8 (m1 : Nat) : K47 := fun s => normC [2,3,7,14,15] s (kq47_7 n m1)
noncomputable def xb47_9 (m1 : Nat) : Nat → K47 := fun j s => bif Nat.beq j 1 then normC [2,3,7,14,15] s (kq47_7 n m1) else (xb47_3 n) j s
noncomputable def L47_1 (m : Nat) (year2 : Int) (v14 : Int) (v15 : Int) (a3_0 : Int) (a3_1 : Int) (a3_2 : Int) (a3_3 : Int) (a3_4 : Int) (a3_5 : Int) (a3_6 : Int) (a3_7 : Int) (a3_8 : Int) (a3_9 : Int) (a3_10 : Int) (a3_11 : Int) (a3_12 : Int) (a3_13 : Int) (a3_14 : Int) (a3_15 : Int) (a3_16 : Int) (out7 : LP) : Option R47 := loopN (F47_4 n) m { tm := [uu,uu,.c (.int .i64 year2),.ptr 3 0,uu,uu,uu,.own 7 none false,uu,uu,uu,uu,uu,uu,.c (.int .i64 v14),.c (.int .i64 v15),uu,uu,uu,uu,uu,uu,uu,uu,uu,uu,uu,uu,uu,uu,uu,uu,uu,uu,uu,uu,uu,uu,uu],hp := (upd (upd emp 7 (.arr (.pair (.int .i64) (.int .i64)) out7 true)) 3 (.box [.int .u8 a3_0,.int .u8 a3_1,.int .u8 a3_2,.int .u8 a3_3,.int .u8 a3_4,.int .u8 a3_5,.int .u8 a3_6,.int .u8 a3_7,.int .u8 a3_8,.int .u8 a3_9,.int .u8 a3_10,.int .u8 a3_11,.int .u8 a3_12,.int .u8 a3_13,.int .u8 a3_14,.int .u8 a3_15,.int .u8 a3_16])) }
theorem L47_1_eq (m1 : Nat) (year2 : Int) (v14 : Int) (v15 : Int) (a3_0 : Int) (a3_1 : Int) (a3_2 : Int) (a3_3 : Int) (a3_4 : Int) (a3_5 : Int) (a3_6 : Int) (a3_7 : Int) (a3_8 : Int) (a3_9 : Int) (a3_10 : Int) (a3_11 : Int) (a3_12 : Int) (a3_13 : Int) (a3_14 : Int) (a3_15 : Int) (a3_16 : Int) (out7 : LP) : L47_1 n (m1 + 1) year2 v14 v15 a3_0 a3_1 a3_2 a3_3 a3_4 a3_5 a3_6 a3_7 a3_8 a3_9 a3_10 a3_11 a3_12 a3_13 a3_14 a3_15 a3_16 out7 =
    (bif decide (v15 < v14) then (bif inB v15 8 then (idx [a3_1,a3_2,a3_3,a3_4,a3_5,a3_6,a3_7,a3_8] v15).bind fun x1' =>
        (bif (wr .i64 (year2 + 1)) == 0 then none
        else (bif inB v15 8 then (idx [a3_9,a3_10,a3_11,a3_12,a3_13,a3_14,a3_15,a3_16] v15).bind fun x2' =>
            (bif 9 == 0 then none
            else (bif decide (out7.length + [(Int.tmod (wr .i64 x1') (wr .i64 (year2 + 1)),wr .i64 (1 + (Int.tmod (wr .i64 x2') 9)))].length ≤ lim) then L47_1 n m1 year2 v14 (wr .i64 (v15 + 1)) a3_0 a3_1 a3_2 a3_3 a3_4 a3_5 a3_6 a3_7 a3_8 a3_9 a3_10 a3_11 a3_12 a3_13 a3_14 a3_15 a3_16 (out7 ++ [(Int.tmod (wr .i64 x1') (wr .i64 (year2 + 1)),wr .i64 (1 + (Int.tmod (wr .i64 x2') 9)))])
              else none))
          else none))
      else none)
    else some out7) := by kernel_rfl
noncomputable def S47 (a0 : Int × (Int × Int × Int × Int × Int × Int × Int × Int) × Int × Int × Int × Int × Int × Int × Int × Int) (many1 : Int) (year2 : Int) : Option R47 := run (E47 n) c47 an47 rt47 (fun _ _ => none) rt47 { tm := [.agg [.int .u8 a0.1,.int .u8 a0.2.1.1,.int .u8 a0.2.1.2.1,.int .u8 a0.2.1.2.2.1,.int .u8 a0.2.1.2.2.2.1,.int .u8 a0.2.1.2.2.2.2.1,.int .u8 a0.2.1.2.2.2.2.2.1,.int .u8 a0.2.1.2.2.2.2.2.2.1,.int .u8 a0.2.1.2.2.2.2.2.2.2,.int .u8 a0.2.2.1,.int .u8 a0.2.2.2.1,.int .u8 a0.2.2.2.2.1,.int .u8 a0.2.2.2.2.2.1,.int .u8 a0.2.2.2.2.2.2.1,.int .u8 a0.2.2.2.2.2.2.2.1,.int .u8 a0.2.2.2.2.2.2.2.2.1,.int .u8 a0.2.2.2.2.2.2.2.2.2],.c (.int .i64 many1),.c (.int .i64 year2),uu,uu,uu,uu,uu,uu,uu,uu,uu,uu,uu,uu,uu,uu,uu,uu,uu,uu,uu,uu,uu,uu,uu,uu,uu,uu,uu,uu,uu,uu,uu,uu,uu,uu,uu,uu],hp := emp }
theorem S47_eq (a0 : Int × (Int × Int × Int × Int × Int × Int × Int × Int) × Int × Int × Int × Int × Int × Int × Int × Int) (many1 : Int) (year2 : Int) : S47 n a0 many1 year2 =
    (bif many1 == 0 then none
    else L47_1 n n.1 year2 (wr .i64 (1 + (Int.tmod (wr .i64 a0.1) many1))) 0 a0.1 a0.2.1.1 a0.2.1.2.1 a0.2.1.2.2.1 a0.2.1.2.2.2.1 a0.2.1.2.2.2.2.1 a0.2.1.2.2.2.2.2.1 a0.2.1.2.2.2.2.2.2.1 a0.2.1.2.2.2.2.2.2.2 a0.2.2.1 a0.2.2.2.1 a0.2.2.2.2.1 a0.2.2.2.2.2.1 a0.2.2.2.2.2.2.1 a0.2.2.2.2.2.2.2.1 a0.2.2.2.2.2.2.2.2.1 a0.2.2.2.2.2.2.2.2.2 []) := by kernel_rfl
theorem S47_run (xs : pksDen pk47) : S47 n xs.1 xs.2.1 xs.2.2.1 = runG (E47 n) noScope c47 an47 (rtG rk47) (fun _ _ => none) (rtG rk47) (st0 pk47 xs Try.f47.ntmps) := by kernel_rfl
noncomputable def P47 := phiOf pk47 rk47 (fun xs => S47 n xs.1 xs.2.1 xs.2.2.1)
theorem call47 : CallOK Try.prog 47 := callOK_of Try.func47 (by kernel_rfl) (by kernel_rfl)
theorem env47 : EnvOK Try.prog (E47 n) := envOK0 noPhi_ok rfl rfl
theorem par47 : EnvPar (E47 n) := envPar0 noPhi_par rfl
theorem FC47 : FCs Try.prog 47 (P47 n) := phiOf_FCs fun xs r h vs hv => FC.of_runG tabOK eqsOK (env47 n) (par47 n) mixed (fun _ => noScope_ok) Try.func47 (c := c47) (an := an47) (pks := pk47) (rks := rk47) (by kernel_rfl) (by kernel_rfl) hv ((S47_run n xs).symm.trans h)
end Go.Proofs.Ytombednapelokaa
