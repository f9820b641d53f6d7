/- The law: written by program -/
import Derived.Test.YtombednapelokaaViS
import Derived.Test.YtombednapelokaaProg
import Derived.KernelRfl
import Derived.WalkKit
import Derived.Test.YtombednapelokaaCD1
set_option linter.unusedVariables false
set_option linter.unusedSimpArgs false
set_option maxRecDepth 100000
namespace Go.Proofs.Ytombednapelokaa
open Go.Vi
/- headword/headwordlaw08.ReignEnds -/
abbrev R6 := Bool
noncomputable def c6 : Code := bodyOf Try.f6
noncomputable def an6 : Ann := (.s .l (.s (.s .l (.j [0, 1, 2, 50, 51, 52, 55, 56, 57, 60, 61, 62, 65] .l .l)) .l))
def pk6 : List PK := [.c (.sl (.pair (.int .i64) (.int .i64))), .c (.int .i64), .c (.int .i64)]
def rk6 : List RK := [.c .bool 6]
noncomputable def rt6 (st : St) : Option R6 := rtG rk6 st
noncomputable def E6 (n : Nat × Nat) : Env := { T := tab, phi := (consPhi 18 (fun _ => true) (P18 n) (consPhi 19 (fun _ => true) (P19 n) (consPhi 34 (fun _ => true) (P34 n) (consPhi 42 (fun _ => true) (P42 n) (consPhi 43 (fun _ => true) (P43 n) (consPhi 44 (fun _ => true) (P44 n) (consPhi 45 (fun _ => true) (P45 n) (consPhi 46 (fun _ => true) (P46 n) noPhi)))))))), eff := fun g => Nat.beq g 45, fuel := n.1, hold := n.2 }
noncomputable def kq6_1 (n : Nat × Nat) : St → Option R6 := run (E6 n) (cB (cB c6)) (Ann.snd (Ann.snd an6)) rt6 (fun _ _ => none) rt6
noncomputable def kc6_2 (n : Nat × Nat) : St → Option R6 := fun s => normC [0, 1, 2, 50, 51, 52, 55, 56, 57, 60, 61, 62, 65] s (kq6_1 n)
noncomputable def S6 (n : Nat × Nat) (l0 : List (Int × Int)) (low1 : Int) (high2 : Int) : Option R6 := run (E6 n) c6 an6 rt6 (fun _ _ => none) rt6 { tm := [.c (.sl (.pair (.int .i64) (.int .i64)) l0 false), .c (.int .i64 low1), .c (.int .i64 high2), uu, uu, uu, uu, uu, uu, uu, uu, uu, uu, uu, uu, uu, uu, uu, uu, uu, uu, uu, uu, uu, uu, uu, uu, uu, uu, uu, uu, uu, uu, uu, uu, uu, uu, uu, uu, uu, uu, uu, uu, uu, uu, uu, uu, uu, uu, uu, uu, uu, uu, uu, uu, uu, uu, uu, uu, uu, uu, uu, uu, uu, uu, uu, uu], hp := emp }
theorem S6_eq (n : Nat × Nat) (l0 : List (Int × Int)) (low1 : Int) (high2 : Int) : S6 n l0 low1 high2 =
    (bif decide ((l0.length : Int) > 40) then (S18 n).bind fun r1' =>
      some r1'
    else (S19 n l0).bind fun r2' =>
      (S42 n l0 low1 high2).bind fun r3' =>
      (S43 n r2' low1 high2).bind fun r4' =>
      (S44 n l0).bind fun r5' =>
      (S45 n r2').bind fun r6' =>
      (S34 n r3'.1 r4'.1).bind fun r7' =>
      ((bif (r7' == true) then some (r3'.2 == r4'.2)
        else some false)).bind fun b8' =>
      ((bif (b8' == true) then (S46 n r5'.1 r6'.1).bind fun r9' =>
          some r9'
        else some false)).bind fun b10' =>
      ((bif (b10' == true) then some (r5'.2 == r6'.2)
        else some false)).bind fun b11' =>
      ((bif (b11' == true) then (S18 n).bind fun r12' =>
          some r12'
        else some false)).bind fun b13' =>
      some b13') := by kernel_rfl
theorem S6_run (n : Nat × Nat) (xs : pksDen pk6) : S6 n xs.1 xs.2.1 xs.2.2.1 = runG (E6 n) noScope c6 an6 (rtG rk6) (fun _ _ => none) (rtG rk6) (st0 pk6 xs Try.f6.ntmps) := by kernel_rfl
noncomputable def P6 (n : Nat × Nat) := phiOf pk6 rk6 (fun xs => S6 n xs.1 xs.2.1 xs.2.2.1)
theorem call6 : CallOK Try.prog 6 := callOK_of Try.func6 (by kernel_rfl) (by kernel_rfl)
theorem env6 (n : Nat × Nat) : EnvOK Try.prog (E6 n) := envOK0 (consPhi_ok (FC18 n) call18 (consPhi_ok (FC19 n) call19 (consPhi_ok (FC34 n) call34 (consPhi_ok (FC42 n) call42 (consPhi_ok (FC43 n) call43 (consPhi_ok (FC44 n) call44 (consPhi_ok (FC45 n) call45 (consPhi_ok (FC46 n) call46 noPhi_ok)))))))) rfl rfl
theorem par6 (n : Nat × Nat) : EnvPar (E6 n) := envPar0 (consPhi_par phiOf_Par1 (consPhi_par phiOf_Par1 (consPhi_par phiOf_Par1 (consPhi_par phiOf_Par1 (consPhi_par phiOf_Par1 (consPhi_par phiOf_Par1 (consPhi_par phiOf_Par1 (consPhi_par phiOf_Par1 noPhi_par)))))))) rfl
theorem FC6 (n : Nat × Nat) : FCs Try.prog 6 (P6 n) := phiOf_FCs fun xs r h vs hv => FC.of_runG tabOK eqsOK (env6 n) (par6 n) mixed (fun _ => noScope_ok) Try.func6 (c := c6) (an := an6) (pks := pk6) (rks := rk6) (by kernel_rfl) (by kernel_rfl) hv ((S6_run n xs).symm.trans h)
/-D 6 -/
noncomputable def D6 (n : Nat × Nat) (l0 : List (Int × Int)) (low1 : Int) (high2 : Int) : Option R6 :=
    (bif decide ((l0.length : Int) > 40) then (D18 n).bind fun r1' =>
      some r1'
    else (D19 n l0).bind fun r2' =>
      (D42 n l0 low1 high2).bind fun r3' =>
      (D43 n r2' low1 high2).bind fun r4' =>
      (D44 n l0).bind fun r5' =>
      (D45 n r2').bind fun r6' =>
      (D34 n r3'.1 r4'.1).bind fun r7' =>
      ((bif (r7' == true) then some (r3'.2 == r4'.2)
        else some false)).bind fun b8' =>
      ((bif (b8' == true) then (D46 n r5'.1 r6'.1).bind fun r9' =>
          some r9'
        else some false)).bind fun b10' =>
      ((bif (b10' == true) then some (r5'.2 == r6'.2)
        else some false)).bind fun b11' =>
      ((bif (b11' == true) then (D18 n).bind fun r12' =>
          some r12'
        else some false)).bind fun b13' =>
      some b13')
theorem S6_D (n : Nat × Nat) (hn : n.2 = 1) : S6 n = D6 n := by
  funext l0 low1 high2; refine (S6_eq n l0 low1 high2).trans ?_
  unfold D6
  first | (simp only [S18_D n hn, S19_D n hn, S34_D n hn, S42_D n hn, S43_D n hn, S44_D n hn, S45_D n hn, S46_D n hn]; done) | (simp only [S18_D n hn, S19_D n hn, S34_D n hn, S42_D n hn, S43_D n hn, S44_D n hn, S45_D n hn, S46_D n hn]; with_reducible rfl) | with_reducible rfl | rfl
noncomputable def PD6 (n : Nat × Nat) := phiOf pk6 rk6 (fun xs => D6 n xs.1 xs.2.1 xs.2.2.1)
theorem P6_D (n : Nat × Nat) (hn : n.2 = 1) : P6 n = PD6 n := by unfold P6 PD6; rw [S6_D n hn]
end Go.Proofs.Ytombednapelokaa
