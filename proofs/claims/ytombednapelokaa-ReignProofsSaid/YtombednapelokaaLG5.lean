/- The law: written by program -/
import Derived.Test.YtombednapelokaaViS
import Derived.Test.YtombednapelokaaProg
import Derived.KernelRfl
import Derived.WalkKit
import Derived.Test.YtombednapelokaaCD1
set_option linter.unusedVariables false
set_option linter.unusedSimpArgs false
set_option maxRecDepth 100000
namespace Go.Proofs.Ytombednapelokaa
open Go.Vi
/- headword/headwordlaw08.ReignProofs -/
abbrev R5 := Bool
noncomputable def c5 : Code := bodyOf Try.f5
noncomputable def an5 : Ann := (.s .l (.s (.s .l (.j [0, 1, 24] .l .l)) .l))
def pk5 : List PK := [.c (.sl (.pair (.int .i64) (.int .i64))), .c (.sl (.pair (.int .i64) (.int .i64)))]
def rk5 : List RK := [.c .bool 4]
noncomputable def rt5 (st : St) : Option R5 := rtG rk5 st
noncomputable def E5 (n : Nat × Nat) : Env := { T := tab, phi := (consPhi 18 (fun _ => true) (P18 n) (consPhi 19 (fun _ => true) (P19 n) (consPhi 39 (fun _ => true) (P39 n) (consPhi 40 (fun _ => true) (P40 n) (consPhi 41 (fun _ => true) (P41 n) noPhi))))), eff := fun _ => false, fuel := n.1, hold := n.2 }
noncomputable def kq5_1 (n : Nat × Nat) : St → Option R5 := run (E5 n) (cB (cB c5)) (Ann.snd (Ann.snd an5)) rt5 (fun _ _ => none) rt5
noncomputable def kc5_2 (n : Nat × Nat) : St → Option R5 := fun s => normC [0, 1, 24] s (kq5_1 n)
noncomputable def S5 (n : Nat × Nat) (l0 : List (Int × Int)) (v1 : List (Int × Int)) : Option R5 := run (E5 n) c5 an5 rt5 (fun _ _ => none) rt5 { tm := [.c (.sl (.pair (.int .i64) (.int .i64)) l0 false), .c (.sl (.pair (.int .i64) (.int .i64)) v1 false), .undef, .undef, .undef, .undef, .undef, .undef, .undef, .undef, .undef, .undef, .undef, .undef, .undef, .undef, .undef, .undef, .undef, .undef, .undef, .undef, .undef, .undef, .undef, .undef], hp := emp }
theorem S5_eq (n : Nat × Nat) (l0 : List (Int × Int)) (v1 : List (Int × Int)) : S5 n l0 v1 =
    ((bif (decide ((l0.length : Int) > 40) == false) then some (decide ((v1.length : Int) > 40))
      else some true)).bind fun b1' =>
    (bif b1' then (S18 n).bind fun r2' =>
      some r2'
    else (S39 n l0 v1).bind fun r3' =>
      (S19 n l0).bind fun r4' =>
      (S41 n v1).bind fun r5' =>
      (S40 n r4' r5').bind fun r6' =>
      ((bif ((r3' == r6') == true) then (S18 n).bind fun r7' =>
          some r7'
        else some false)).bind fun b8' =>
      some b8') := by kernel_rfl
theorem S5_run (n : Nat × Nat) (xs : pksDen pk5) : S5 n xs.1 xs.2.1 = runG (E5 n) noScope c5 an5 (rtG rk5) (fun _ _ => none) (rtG rk5) (st0 pk5 xs Try.f5.ntmps) := by kernel_rfl
noncomputable def P5 (n : Nat × Nat) := phiOf pk5 rk5 (fun xs => S5 n xs.1 xs.2.1)
theorem call5 : CallOK Try.prog 5 := callOK_of Try.func5 (by kernel_rfl) (by kernel_rfl)
theorem env5 (n : Nat × Nat) : EnvOK Try.prog (E5 n) := envOK0 (consPhi_ok (FC18 n) call18 (consPhi_ok (FC19 n) call19 (consPhi_ok (FC39 n) call39 (consPhi_ok (FC40 n) call40 (consPhi_ok (FC41 n) call41 noPhi_ok))))) rfl rfl
theorem par5 (n : Nat × Nat) : EnvPar (E5 n) := envPar0 (consPhi_par phiOf_Par1 (consPhi_par phiOf_Par1 (consPhi_par phiOf_Par1 (consPhi_par phiOf_Par1 (consPhi_par phiOf_Par1 noPhi_par))))) rfl
theorem FC5 (n : Nat × Nat) : FCs Try.prog 5 (P5 n) := phiOf_FCs fun xs r h vs hv => FC.of_runG tabOK eqsOK (env5 n) (par5 n) mixed (fun _ => noScope_ok) Try.func5 (c := c5) (an := an5) (pks := pk5) (rks := rk5) (by kernel_rfl) (by kernel_rfl) hv ((S5_run n xs).symm.trans h)
/-D 5 -/
noncomputable def D5 (n : Nat × Nat) (l0 : List (Int × Int)) (v1 : List (Int × Int)) : Option R5 :=
    ((bif (decide ((l0.length : Int) > 40) == false) then some (decide ((v1.length : Int) > 40))
      else some true)).bind fun b1' =>
    (bif b1' then (D18 n).bind fun r2' =>
      some r2'
    else (D39 n l0 v1).bind fun r3' =>
      (D19 n l0).bind fun r4' =>
      (D41 n v1).bind fun r5' =>
      (D40 n r4' r5').bind fun r6' =>
      ((bif ((r3' == r6') == true) then (D18 n).bind fun r7' =>
          some r7'
        else some false)).bind fun b8' =>
      some b8')
theorem S5_D (n : Nat × Nat) (hn : n.2 = 1) : S5 n = D5 n := by
  funext l0 v1; refine (S5_eq n l0 v1).trans ?_
  unfold D5
  first | (simp only [S18_D n hn, S19_D n hn, S39_D n hn, S40_D n hn, S41_D n hn]; done) | (simp only [S18_D n hn, S19_D n hn, S39_D n hn, S40_D n hn, S41_D n hn]; with_reducible rfl) | with_reducible rfl | rfl
noncomputable def PD5 (n : Nat × Nat) := phiOf pk5 rk5 (fun xs => D5 n xs.1 xs.2.1)
theorem P5_D (n : Nat × Nat) (hn : n.2 = 1) : P5 n = PD5 n := by unfold P5 PD5; rw [S5_D n hn]
end Go.Proofs.Ytombednapelokaa
