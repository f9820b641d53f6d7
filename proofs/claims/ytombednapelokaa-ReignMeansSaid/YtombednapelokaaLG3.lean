/- The law: written by program -/
import Derived.Test.YtombednapelokaaViS
import Derived.Test.YtombednapelokaaProg
import Derived.KernelRfl
import Derived.WalkKit
import Derived.Test.YtombednapelokaaCD1
set_option linter.unusedVariables false
set_option linter.unusedSimpArgs false
set_option maxRecDepth 100000
namespace Go.Proofs.Ytombednapelokaa
open Go.Vi
/- headword/headwordlaw08.ReignMeans -/
abbrev R3 := Bool
noncomputable def c3 : Code := bodyOf Try.f3
noncomputable def an3 : Ann := (.s .l (.s (.s .l (.j [0, 1, 2, 52, 53, 54, 57, 58, 59, 62, 63, 64, 67, 68, 69, 70, 71, 101, 102, 103, 106, 107, 108, 111, 112, 113, 116] .l .l)) (.s .l (.s .l (.s .l (.s .l (.s .l (.s (.s .l (.j [0, 1, 2, 7, 12, 14, 101, 102, 103, 106, 107, 108, 111, 112, 113, 116] .l .l)) .l))))))))
def pk3 : List PK := [.c (.sl (.pair (.int .i64) (.int .i64))), .c (.int .i64), .c (.int .i64)]
def rk3 : List RK := [.c .bool 6]
noncomputable def rt3 (st : St) : Option R3 := rtG rk3 st
noncomputable def E3 (n : Nat × Nat) : Env := { T := tab, phi := (consPhi 18 (fun _ => true) (P18 n) (consPhi 19 (fun _ => true) (P19 n) (consPhi 20 (fun _ => true) (P20 n) (consPhi 21 (fun _ => true) (P21 n) (consPhi 22 (fun _ => true) (P22 n) (consPhi 23 (fun _ => true) (P23 n) (consPhi 24 (fun _ => true) (P24 n) (consPhi 25 (fun _ => true) (P25 n) (consPhi 26 (fun _ => true) (P26 n) (consPhi 27 (fun _ => true) (P27 n) (consPhi 28 (fun _ => true) (P28 n) (consPhi 29 (fun _ => true) (P29 n) noPhi)))))))))))), eff := fun _ => false, fuel := n.1, hold := n.2 }
noncomputable def kq3_1 (n : Nat × Nat) : St → Option R3 := run (E3 n) (cB (cB c3)) (Ann.snd (Ann.snd an3)) rt3 (fun _ _ => none) rt3
noncomputable def kc3_2 (n : Nat × Nat) : St → Option R3 := fun s => normC [0, 1, 2, 52, 53, 54, 57, 58, 59, 62, 63, 64, 67, 68, 69, 70, 71, 101, 102, 103, 106, 107, 108, 111, 112, 113, 116] s (kq3_1 n)
noncomputable def kq3_3 (n : Nat × Nat) : St → Option R3 := run (E3 n) (cB (cB (cB (cB (cB (cB (cB (cB c3)))))))) (Ann.snd (Ann.snd (Ann.snd (Ann.snd (Ann.snd (Ann.snd (Ann.snd (Ann.snd an3)))))))) rt3 (fun _ _ => none) rt3
noncomputable def kc3_4 (n : Nat × Nat) : St → Option R3 := fun s => normC [0, 1, 2, 7, 12, 14, 101, 102, 103, 106, 107, 108, 111, 112, 113, 116] s (kq3_3 n)
noncomputable def S3 (n : Nat × Nat) (l0 : List (Int × Int)) (begin1 : Int) (v2 : Int) : Option R3 := run (E3 n) c3 an3 rt3 (fun _ _ => none) rt3 { tm := [.c (.sl (.pair (.int .i64) (.int .i64)) l0 false), .c (.int .i64 begin1), .c (.int .i64 v2), .undef, .undef, .undef, .undef, .undef, .undef, .undef, .undef, .undef, .undef, .undef, .undef, .undef, .undef, .undef, .undef, .undef, .undef, .undef, .undef, .undef, .undef, .undef, .undef, .undef, .undef, .undef, .undef, .undef, .undef, .undef, .undef, .undef, .undef, .undef, .undef, .undef, .undef, .undef, .undef, .undef, .undef, .undef, .undef, .undef, .undef, .undef, .undef, .undef, .undef, .undef, .undef, .undef, .undef, .undef, .undef, .undef, .undef, .undef, .undef, .undef, .undef, .undef, .undef, .undef, .undef, .undef, .undef, .undef, .undef, .undef, .undef, .undef, .undef, .undef, .undef, .undef, .undef, .undef, .undef, .undef, .undef, .undef, .undef, .undef, .undef, .undef, .undef, .undef, .undef, .undef, .undef, .undef, .undef, .undef, .undef, .undef, .undef, .undef, .undef, .undef, .undef, .undef, .undef, .undef, .undef, .undef, .undef, .undef, .undef, .undef, .undef, .undef, .undef, .undef], hp := emp }
theorem S3_eq (n : Nat × Nat) (l0 : List (Int × Int)) (begin1 : Int) (v2 : Int) : S3 n l0 begin1 v2 =
    (bif decide ((l0.length : Int) > 40) then (S18 n).bind fun r1' =>
      some r1'
    else (S19 n l0).bind fun r2' =>
      (S20 n l0).bind fun r3' =>
      (S21 n r2').bind fun r4' =>
      (S22 n l0 begin1 v2).bind fun r5' =>
      (S23 n r2' begin1 v2).bind fun r6' =>
      ((bif ((r3'.1 != r4'.1) == false) then some (r3'.2 != r4'.2)
        else some true)).bind fun b7' =>
      ((bif (b7' == false) then some (!((r5'.1.1 == r6'.1.1) && ((r5'.1.2 == r6'.1.2) && true)))
        else some true)).bind fun b8' =>
      ((bif (b8' == false) then some (r5'.2 != r6'.2)
        else some true)).bind fun b9' =>
      ((bif (b9' == false) then (S24 n l0).bind fun r10' =>
          (S25 n r2').bind fun r11' =>
          some (r10' != r11')
        else some true)).bind fun b12' =>
      (bif b12' then some false
      else (S26 n l0 begin1).bind fun r13' =>
        (S27 n r2' begin1).bind fun r14' =>
        (S28 n l0 v2).bind fun r15' =>
        (S29 n r2' v2).bind fun r16' =>
        ((bif (((r13'.1.1 == r14'.1.1) && ((r13'.1.2 == r14'.1.2) && true)) == true) then some (r13'.2 == r14'.2)
          else some false)).bind fun b17' =>
        ((bif (b17' == true) then some ((r15'.1.1 == r16'.1.1) && ((r15'.1.2 == r16'.1.2) && true))
          else some false)).bind fun b18' =>
        ((bif (b18' == true) then some (r15'.2 == r16'.2)
          else some false)).bind fun b19' =>
        ((bif (b19' == true) then (S18 n).bind fun r20' =>
            some r20'
          else some false)).bind fun b21' =>
        some b21')) := by kernel_rfl
theorem S3_run (n : Nat × Nat) (xs : pksDen pk3) : S3 n xs.1 xs.2.1 xs.2.2.1 = runG (E3 n) noScope c3 an3 (rtG rk3) (fun _ _ => none) (rtG rk3) (st0 pk3 xs Try.f3.ntmps) := by kernel_rfl
noncomputable def P3 (n : Nat × Nat) := phiOf pk3 rk3 (fun xs => S3 n xs.1 xs.2.1 xs.2.2.1)
theorem call3 : CallOK Try.prog 3 := callOK_of Try.func3 (by kernel_rfl) (by kernel_rfl)
theorem env3 (n : Nat × Nat) : EnvOK Try.prog (E3 n) := envOK0 (consPhi_ok (FC18 n) call18 (consPhi_ok (FC19 n) call19 (consPhi_ok (FC20 n) call20 (consPhi_ok (FC21 n) call21 (consPhi_ok (FC22 n) call22 (consPhi_ok (FC23 n) call23 (consPhi_ok (FC24 n) call24 (consPhi_ok (FC25 n) call25 (consPhi_ok (FC26 n) call26 (consPhi_ok (FC27 n) call27 (consPhi_ok (FC28 n) call28 (consPhi_ok (FC29 n) call29 noPhi_ok)))))))))))) rfl rfl
theorem par3 (n : Nat × Nat) : EnvPar (E3 n) := envPar0 (consPhi_par phiOf_Par1 (consPhi_par phiOf_Par1 (consPhi_par phiOf_Par1 (consPhi_par phiOf_Par1 (consPhi_par phiOf_Par1 (consPhi_par phiOf_Par1 (consPhi_par phiOf_Par1 (consPhi_par phiOf_Par1 (consPhi_par phiOf_Par1 (consPhi_par phiOf_Par1 (consPhi_par phiOf_Par1 (consPhi_par phiOf_Par1 noPhi_par)))))))))))) rfl
theorem FC3 (n : Nat × Nat) : FCs Try.prog 3 (P3 n) := phiOf_FCs fun xs r h vs hv => FC.of_runG tabOK eqsOK (env3 n) (par3 n) mixed (fun _ => noScope_ok) Try.func3 (c := c3) (an := an3) (pks := pk3) (rks := rk3) (by kernel_rfl) (by kernel_rfl) hv ((S3_run n xs).symm.trans h)
/-D 3 -/
noncomputable def D3 (n : Nat × Nat) (l0 : List (Int × Int)) (begin1 : Int) (v2 : Int) : Option R3 :=
    (bif decide ((l0.length : Int) > 40) then (D18 n).bind fun r1' =>
      some r1'
    else (D19 n l0).bind fun r2' =>
      (D20 n l0).bind fun r3' =>
      (D21 n r2').bind fun r4' =>
      (D22 n l0 begin1 v2).bind fun r5' =>
      (D23 n r2' begin1 v2).bind fun r6' =>
      ((bif ((r3'.1 != r4'.1) == false) then some (r3'.2 != r4'.2)
        else some true)).bind fun b7' =>
      ((bif (b7' == false) then some (!((r5'.1.1 == r6'.1.1) && ((r5'.1.2 == r6'.1.2) && true)))
        else some true)).bind fun b8' =>
      ((bif (b8' == false) then some (r5'.2 != r6'.2)
        else some true)).bind fun b9' =>
      ((bif (b9' == false) then (D24 n l0).bind fun r10' =>
          (D25 n r2').bind fun r11' =>
          some (r10' != r11')
        else some true)).bind fun b12' =>
      (bif b12' then some false
      else (D26 n l0 begin1).bind fun r13' =>
        (D27 n r2' begin1).bind fun r14' =>
        (D28 n l0 v2).bind fun r15' =>
        (D29 n r2' v2).bind fun r16' =>
        ((bif (((r13'.1.1 == r14'.1.1) && ((r13'.1.2 == r14'.1.2) && true)) == true) then some (r13'.2 == r14'.2)
          else some false)).bind fun b17' =>
        ((bif (b17' == true) then some ((r15'.1.1 == r16'.1.1) && ((r15'.1.2 == r16'.1.2) && true))
          else some false)).bind fun b18' =>
        ((bif (b18' == true) then some (r15'.2 == r16'.2)
          else some false)).bind fun b19' =>
        ((bif (b19' == true) then (D18 n).bind fun r20' =>
            some r20'
          else some false)).bind fun b21' =>
        some b21'))
theorem S3_D (n : Nat × Nat) (hn : n.2 = 1) : S3 n = D3 n := by
  funext l0 begin1 v2; refine (S3_eq n l0 begin1 v2).trans ?_
  unfold D3
  first | (simp only [S18_D n hn, S19_D n hn, S20_D n hn, S21_D n hn, S22_D n hn, S23_D n hn, S24_D n hn, S25_D n hn, S26_D n hn, S27_D n hn, S28_D n hn, S29_D n hn]; done) | (simp only [S18_D n hn, S19_D n hn, S20_D n hn, S21_D n hn, S22_D n hn, S23_D n hn, S24_D n hn, S25_D n hn, S26_D n hn, S27_D n hn, S28_D n hn, S29_D n hn]; with_reducible rfl) | with_reducible rfl | rfl
noncomputable def PD3 (n : Nat × Nat) := phiOf pk3 rk3 (fun xs => D3 n xs.1 xs.2.1 xs.2.2.1)
theorem P3_D (n : Nat × Nat) (hn : n.2 = 1) : P3 n = PD3 n := by unfold P3 PD3; rw [S3_D n hn]
end Go.Proofs.Ytombednapelokaa
