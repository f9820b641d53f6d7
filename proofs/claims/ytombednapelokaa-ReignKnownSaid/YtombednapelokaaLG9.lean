/- The law: written by program -/
import Derived.Test.YtombednapelokaaViS
import Derived.Test.YtombednapelokaaProg
import Derived.KernelRfl
import Derived.WalkKit
import Derived.Test.YtombednapelokaaCD1
set_option linter.unusedVariables false
set_option linter.unusedSimpArgs false
set_option maxRecDepth 100000
namespace Go.Proofs.Ytombednapelokaa
open Go.Vi
/- headword/headwordlaw08.ReignKnown -/
abbrev R9 := Bool
noncomputable def c9 : Code := bodyOf Try.f9
noncomputable def an9 : Ann := (.s .l (.s .l (.s .l (.s .l (.s .l (.s .l (.s .l (.s .l (.s .l (.s (.s .l (.j [154, 155, 158, 159, 162, 163, 166, 167, 170, 171, 174, 175, 178, 179, 180, 181, 184, 185, 186, 187, 190, 191, 192, 193, 196, 197, 198, 201, 202, 203, 204, 205, 208, 209, 212, 213, 214, 215, 218, 219, 220, 221, 224, 225, 226, 227, 230, 231, 232, 235] .l .l)) .l))))))))))
def pk9 : List PK := []
def rk9 : List RK := [.c .bool 0]
noncomputable def rt9 (st : St) : Option R9 := rtG rk9 st
noncomputable def E9 (n : Nat × Nat) : Env := { T := tab, phi := (consPhi 18 (fun _ => true) (P18 n) (consPhi 22 (fun _ => true) (P22 n) (consPhi 24 (fun _ => true) (P24 n) (consPhi 26 (fun _ => true) (P26 n) (consPhi 30 (fun _ => true) (P30 n) (consPhi 32 (fun _ => true) (P32 n) (consPhi 35 (fun _ => true) (P35 n) (consPhi 37 (fun _ => true) (P37 n) (consPhi 39 (fun _ => true) (P39 n) (consPhi 42 (fun _ => true) (P42 n) (consPhi 44 (fun _ => true) (P44 n) (consPhi 46 (fun _ => true) (P46 n) (consPhi 51 (fun _ => true) (P51 n) (consPhi 52 (fun _ => true) (P52 n) (consPhi 54 (fun _ => true) (P54 n) (consPhi 55 (fun _ => true) (P55 n) (consPhi 56 (fun _ => true) (P56 n) (consPhi 57 (fun _ => true) (P57 n) (consPhi 58 (fun _ => true) (P58 n) (consPhi 60 (fun _ => true) (P60 n) noPhi)))))))))))))))))))), eff := fun _ => false, fuel := n.1, hold := n.2 }
noncomputable def kq9_1 (n : Nat × Nat) : St → Option R9 := run (E9 n) (cB (cB (cB (cB (cB (cB (cB (cB (cB (cB c9)))))))))) (Ann.snd (Ann.snd (Ann.snd (Ann.snd (Ann.snd (Ann.snd (Ann.snd (Ann.snd (Ann.snd (Ann.snd an9)))))))))) rt9 (fun _ _ => none) rt9
noncomputable def kc9_2 (n : Nat × Nat) : St → Option R9 := fun s => normC [154, 155, 158, 159, 162, 163, 166, 167, 170, 171, 174, 175, 178, 179, 180, 181, 184, 185, 186, 187, 190, 191, 192, 193, 196, 197, 198, 201, 202, 203, 204, 205, 208, 209, 212, 213, 214, 215, 218, 219, 220, 221, 224, 225, 226, 227, 230, 231, 232, 235] s (kq9_1 n)
noncomputable def S9 (n : Nat × Nat) : Option R9 := run (E9 n) c9 an9 rt9 (fun _ _ => none) rt9 { tm := [.undef, .undef, .undef, .undef, .undef, .undef, .undef, .undef, .undef, .undef, .undef, .undef, .undef, .undef, .undef, .undef, .undef, .undef, .undef, .undef, .undef, .undef, .undef, .undef, .undef, .undef, .undef, .undef, .undef, .undef, .undef, .undef, .undef, .undef, .undef, .undef, .undef, .undef, .undef, .undef, .undef, .undef, .undef, .undef, .undef, .undef, .undef, .undef, .undef, .undef, .undef, .undef, .undef, .undef, .undef, .undef, .undef, .undef, .undef, .undef, .undef, .undef, .undef, .undef, .undef, .undef, .undef, .undef, .undef, .undef, .undef, .undef, .undef, .undef, .undef, .undef, .undef, .undef, .undef, .undef, .undef, .undef, .undef, .undef, .undef, .undef, .undef, .undef, .undef, .undef, .undef, .undef, .undef, .undef, .undef, .undef, .undef, .undef, .undef, .undef, .undef, .undef, .undef, .undef, .undef, .undef, .undef, .undef, .undef, .undef, .undef, .undef, .undef, .undef, .undef, .undef, .undef, .undef, .undef, .undef, .undef, .undef, .undef, .undef, .undef, .undef, .undef, .undef, .undef, .undef, .undef, .undef, .undef, .undef, .undef, .undef, .undef, .undef, .undef, .undef, .undef, .undef, .undef, .undef, .undef, .undef, .undef, .undef, .undef, .undef, .undef, .undef, .undef, .undef, .undef, .undef, .undef, .undef, .undef, .undef, .undef, .undef, .undef, .undef, .undef, .undef, .undef, .undef, .undef, .undef, .undef, .undef, .undef, .undef, .undef, .undef, .undef, .undef, .undef, .undef, .undef, .undef, .undef, .undef, .undef, .undef, .undef, .undef, .undef, .undef, .undef, .undef, .undef, .undef, .undef, .undef, .undef, .undef, .undef, .undef, .undef, .undef, .undef, .undef, .undef, .undef, .undef, .undef, .undef, .undef, .undef, .undef, .undef, .undef, .undef, .undef, .undef, .undef, .undef, .undef, .undef, .undef, .undef, .undef, .undef, .undef, .undef, .undef, .undef, .undef, .undef, .undef, .undef, .undef, .undef, .undef, .undef], hp := emp }
theorem S9_eq (n : Nat × Nat) : S9 n =
    (S54 n).bind fun r1' =>
    (S30 n r1').bind fun r2' =>
    (S55 n).bind fun r3' =>
    (S30 n r3').bind fun r4' =>
    (S55 n).bind fun r5' =>
    (S35 n r5').bind fun r6' =>
    (S55 n).bind fun r7' =>
    (S32 n r7').bind fun r8' =>
    (S56 n).bind fun r9' =>
    (S22 n r9' 1 1).bind fun r10' =>
    (S56 n).bind fun r11' =>
    (S22 n r11' 0 5).bind fun r12' =>
    (S54 n).bind fun r13' =>
    (S26 n r13' 0).bind fun r14' =>
    (S52 n 1 1).bind fun r15' =>
    (S52 n 2 1).bind fun r16' =>
    ((bif ((r2'.2 != 0) == false) then some (r4'.2 != 0)
      else some true)).bind fun b17' =>
    ((bif (b17' == false) then some (r6'.2 != 0)
      else some true)).bind fun b18' =>
    ((bif (b18' == false) then some (r8'.2 != 0)
      else some true)).bind fun b19' =>
    ((bif (b19' == false) then some (r10'.2 != 7)
      else some true)).bind fun b20' =>
    ((bif (b20' == false) then some (r12'.2 != 2)
      else some true)).bind fun b21' =>
    ((bif (b21' == false) then some (r14'.2 != 0)
      else some true)).bind fun b22' =>
    ((bif (b22' == false) then (S57 n [2, 2, 2]).bind fun r23' =>
        (S51 n r2'.1 r23').bind fun r24' =>
        some (!r24')
      else some true)).bind fun b25' =>
    ((bif (b25' == false) then (S57 n [1, 2, 2]).bind fun r26' =>
        (S51 n r4'.1 r26').bind fun r27' =>
        some (!r27')
      else some true)).bind fun b28' =>
    ((bif (b28' == false) then (S52 n 0 1).bind fun r29' =>
        some (!((r6'.1.1 == r29'.1) && ((r6'.1.2 == r29'.2) && true)))
      else some true)).bind fun b30' =>
    ((bif (b30' == false) then (S58 n r8'.1 [(0, 1, r15'), (1, 3, r16')]).bind fun r31' =>
        some (!r31')
      else some true)).bind fun b32' =>
    ((bif (b32' == false) then (S52 n 2 1).bind fun r33' =>
        some (!((r14'.1.1 == r33'.1) && ((r14'.1.2 == r33'.2) && true)))
      else some true)).bind fun b34' =>
    (bif b34' then some false
    else (S56 n).bind fun r35' =>
      (S26 n r35' 4).bind fun r36' =>
      (S54 n).bind fun r37' =>
      (S37 n r37').bind fun r38' =>
      (S56 n).bind fun r39' =>
      (S42 n r39' 3 3).bind fun r40' =>
      (S56 n).bind fun r41' =>
      (S42 n r41' 4 1).bind fun r42' =>
      (S56 n).bind fun r43' =>
      (S42 n r43' 0 101).bind fun r44' =>
      (S54 n).bind fun r45' =>
      (S44 n r45').bind fun r46' =>
      (S55 n).bind fun r47' =>
      (S44 n r47').bind fun r48' =>
      ((bif ((r36'.2 == 2) == true) then some (r38'.2 == 0)
        else some false)).bind fun b49' =>
      ((bif (b49' == true) then some (r40'.2 == 0)
        else some false)).bind fun b50' =>
      ((bif (b50' == true) then some (r42'.2 == 7)
        else some false)).bind fun b51' =>
      ((bif (b51' == true) then some (r44'.2 == 1)
        else some false)).bind fun b52' =>
      ((bif (b52' == true) then some (r46'.2 == 0)
        else some false)).bind fun b53' =>
      ((bif (b53' == true) then some (r48'.2 == 0)
        else some false)).bind fun b54' =>
      ((bif (b54' == true) then (S57 n [1, 0, 0]).bind fun r55' =>
          (S51 n r38'.1 r55').bind fun r56' =>
          some r56'
        else some false)).bind fun b57' =>
      ((bif (b57' == true) then (S57 n [3, 3, 3, 3]).bind fun r58' =>
          (S51 n r40'.1 r58').bind fun r59' =>
          some r59'
        else some false)).bind fun b60' =>
      ((bif (b60' == true) then (S46 n r46'.1 [0]).bind fun r61' =>
          some r61'
        else some false)).bind fun b62' =>
      ((bif (b62' == true) then some ((r48'.1.length : Int) == 0)
        else some false)).bind fun b63' =>
      ((bif (b63' == true) then (S54 n).bind fun r64' =>
          (S57 n [2]).bind fun r65' =>
          (S39 n r64' r65').bind fun r66' =>
          some (r66' == 5)
        else some false)).bind fun b67' =>
      ((bif (b67' == true) then (S24 n []).bind fun r68' =>
          some (r68' == 4)
        else some false)).bind fun b69' =>
      ((bif (b69' == true) then (S60 n [101, 1]).bind fun r70' =>
          (S24 n r70').bind fun r71' =>
          some (r71' == 1)
        else some false)).bind fun b72' =>
      ((bif (b72' == true) then (S60 n [5, 0]).bind fun r73' =>
          (S24 n r73').bind fun r74' =>
          some (r74' == 1)
        else some false)).bind fun b75' =>
      ((bif (b75' == true) then (S60 n [5, 10]).bind fun r76' =>
          (S24 n r76').bind fun r77' =>
          some (r77' == 1)
        else some false)).bind fun b78' =>
      ((bif (b78' == true) then (bif decide (0 ≤ 9) && decide (9 ≤ 9) && decide (9 ≤ lim) then (S24 n (List.replicate (Int.toNat 9) (zero (.pair (.int .i64) (.int .i64)) : Int × Int))).bind fun r79' =>
            some (r79' == 3)
          else none)
        else some false)).bind fun b80' =>
      ((bif (b80' == true) then (S18 n).bind fun r81' =>
          some r81'
        else some false)).bind fun b82' =>
      some b82') := by kernel_rfl
theorem S9_run (n : Nat × Nat) (xs : pksDen pk9) : S9 n = runG (E9 n) noScope c9 an9 (rtG rk9) (fun _ _ => none) (rtG rk9) (st0 pk9 xs Try.f9.ntmps) := by kernel_rfl
noncomputable def P9 (n : Nat × Nat) := phiOf pk9 rk9 (fun xs => S9 n)
theorem call9 : CallOK Try.prog 9 := callOK_of Try.func9 (by kernel_rfl) (by kernel_rfl)
theorem env9 (n : Nat × Nat) : EnvOK Try.prog (E9 n) := envOK0 (consPhi_ok (FC18 n) call18 (consPhi_ok (FC22 n) call22 (consPhi_ok (FC24 n) call24 (consPhi_ok (FC26 n) call26 (consPhi_ok (FC30 n) call30 (consPhi_ok (FC32 n) call32 (consPhi_ok (FC35 n) call35 (consPhi_ok (FC37 n) call37 (consPhi_ok (FC39 n) call39 (consPhi_ok (FC42 n) call42 (consPhi_ok (FC44 n) call44 (consPhi_ok (FC46 n) call46 (consPhi_ok (FC51 n) call51 (consPhi_ok (FC52 n) call52 (consPhi_ok (FC54 n) call54 (consPhi_ok (FC55 n) call55 (consPhi_ok (FC56 n) call56 (consPhi_ok (FC57 n) call57 (consPhi_ok (FC58 n) call58 (consPhi_ok (FC60 n) call60 noPhi_ok)))))))))))))))))))) rfl rfl
theorem par9 (n : Nat × Nat) : EnvPar (E9 n) := envPar0 (consPhi_par phiOf_Par1 (consPhi_par phiOf_Par1 (consPhi_par phiOf_Par1 (consPhi_par phiOf_Par1 (consPhi_par phiOf_Par1 (consPhi_par phiOf_Par1 (consPhi_par phiOf_Par1 (consPhi_par phiOf_Par1 (consPhi_par phiOf_Par1 (consPhi_par phiOf_Par1 (consPhi_par phiOf_Par1 (consPhi_par phiOf_Par1 (consPhi_par phiOf_Par1 (consPhi_par phiOf_Par1 (consPhi_par phiOf_Par1 (consPhi_par phiOf_Par1 (consPhi_par phiOf_Par1 (consPhi_par phiOf_Par1 (consPhi_par phiOf_Par1 (consPhi_par phiOf_Par1 noPhi_par)))))))))))))))))))) rfl
theorem FC9 (n : Nat × Nat) : FCs Try.prog 9 (P9 n) := phiOf_FCs fun xs r h vs hv => FC.of_runG tabOK eqsOK (env9 n) (par9 n) mixed (fun _ => noScope_ok) Try.func9 (c := c9) (an := an9) (pks := pk9) (rks := rk9) (by kernel_rfl) (by kernel_rfl) hv ((S9_run n xs).symm.trans h)
/-D 9 -/
noncomputable def D9 (n : Nat × Nat) : Option R9 :=
    (D54 n).bind fun r1' =>
    (D30 n r1').bind fun r2' =>
    (D55 n).bind fun r3' =>
    (D30 n r3').bind fun r4' =>
    (D55 n).bind fun r5' =>
    (D35 n r5').bind fun r6' =>
    (D55 n).bind fun r7' =>
    (D32 n r7').bind fun r8' =>
    (D56 n).bind fun r9' =>
    (D22 n r9' 1 1).bind fun r10' =>
    (D56 n).bind fun r11' =>
    (D22 n r11' 0 5).bind fun r12' =>
    (D54 n).bind fun r13' =>
    (D26 n r13' 0).bind fun r14' =>
    (D52 n 1 1).bind fun r15' =>
    (D52 n 2 1).bind fun r16' =>
    ((bif ((r2'.2 != 0) == false) then some (r4'.2 != 0)
      else some true)).bind fun b17' =>
    ((bif (b17' == false) then some (r6'.2 != 0)
      else some true)).bind fun b18' =>
    ((bif (b18' == false) then some (r8'.2 != 0)
      else some true)).bind fun b19' =>
    ((bif (b19' == false) then some (r10'.2 != 7)
      else some true)).bind fun b20' =>
    ((bif (b20' == false) then some (r12'.2 != 2)
      else some true)).bind fun b21' =>
    ((bif (b21' == false) then some (r14'.2 != 0)
      else some true)).bind fun b22' =>
    ((bif (b22' == false) then (D57 n [2, 2, 2]).bind fun r23' =>
        (D51 n r2'.1 r23').bind fun r24' =>
        some (!r24')
      else some true)).bind fun b25' =>
    ((bif (b25' == false) then (D57 n [1, 2, 2]).bind fun r26' =>
        (D51 n r4'.1 r26').bind fun r27' =>
        some (!r27')
      else some true)).bind fun b28' =>
    ((bif (b28' == false) then (D52 n 0 1).bind fun r29' =>
        some (!((r6'.1.1 == r29'.1) && ((r6'.1.2 == r29'.2) && true)))
      else some true)).bind fun b30' =>
    ((bif (b30' == false) then (D58 n r8'.1 [(0, 1, r15'), (1, 3, r16')]).bind fun r31' =>
        some (!r31')
      else some true)).bind fun b32' =>
    ((bif (b32' == false) then (D52 n 2 1).bind fun r33' =>
        some (!((r14'.1.1 == r33'.1) && ((r14'.1.2 == r33'.2) && true)))
      else some true)).bind fun b34' =>
    (bif b34' then some false
    else (D56 n).bind fun r35' =>
      (D26 n r35' 4).bind fun r36' =>
      (D54 n).bind fun r37' =>
      (D37 n r37').bind fun r38' =>
      (D56 n).bind fun r39' =>
      (D42 n r39' 3 3).bind fun r40' =>
      (D56 n).bind fun r41' =>
      (D42 n r41' 4 1).bind fun r42' =>
      (D56 n).bind fun r43' =>
      (D42 n r43' 0 101).bind fun r44' =>
      (D54 n).bind fun r45' =>
      (D44 n r45').bind fun r46' =>
      (D55 n).bind fun r47' =>
      (D44 n r47').bind fun r48' =>
      ((bif ((r36'.2 == 2) == true) then some (r38'.2 == 0)
        else some false)).bind fun b49' =>
      ((bif (b49' == true) then some (r40'.2 == 0)
        else some false)).bind fun b50' =>
      ((bif (b50' == true) then some (r42'.2 == 7)
        else some false)).bind fun b51' =>
      ((bif (b51' == true) then some (r44'.2 == 1)
        else some false)).bind fun b52' =>
      ((bif (b52' == true) then some (r46'.2 == 0)
        else some false)).bind fun b53' =>
      ((bif (b53' == true) then some (r48'.2 == 0)
        else some false)).bind fun b54' =>
      ((bif (b54' == true) then (D57 n [1, 0, 0]).bind fun r55' =>
          (D51 n r38'.1 r55').bind fun r56' =>
          some r56'
        else some false)).bind fun b57' =>
      ((bif (b57' == true) then (D57 n [3, 3, 3, 3]).bind fun r58' =>
          (D51 n r40'.1 r58').bind fun r59' =>
          some r59'
        else some false)).bind fun b60' =>
      ((bif (b60' == true) then (D46 n r46'.1 [0]).bind fun r61' =>
          some r61'
        else some false)).bind fun b62' =>
      ((bif (b62' == true) then some ((r48'.1.length : Int) == 0)
        else some false)).bind fun b63' =>
      ((bif (b63' == true) then (D54 n).bind fun r64' =>
          (D57 n [2]).bind fun r65' =>
          (D39 n r64' r65').bind fun r66' =>
          some (r66' == 5)
        else some false)).bind fun b67' =>
      ((bif (b67' == true) then (D24 n []).bind fun r68' =>
          some (r68' == 4)
        else some false)).bind fun b69' =>
      ((bif (b69' == true) then (D60 n [101, 1]).bind fun r70' =>
          (D24 n r70').bind fun r71' =>
          some (r71' == 1)
        else some false)).bind fun b72' =>
      ((bif (b72' == true) then (D60 n [5, 0]).bind fun r73' =>
          (D24 n r73').bind fun r74' =>
          some (r74' == 1)
        else some false)).bind fun b75' =>
      ((bif (b75' == true) then (D60 n [5, 10]).bind fun r76' =>
          (D24 n r76').bind fun r77' =>
          some (r77' == 1)
        else some false)).bind fun b78' =>
      ((bif (b78' == true) then (bif decide (0 ≤ 9) && decide (9 ≤ 9) && decide (9 ≤ lim) then (D24 n (List.replicate (Int.toNat 9) (zero (.pair (.int .i64) (.int .i64)) : Int × Int))).bind fun r79' =>
            some (r79' == 3)
          else none)
        else some false)).bind fun b80' =>
      ((bif (b80' == true) then (D18 n).bind fun r81' =>
          some r81'
        else some false)).bind fun b82' =>
      some b82')
theorem S9_D (n : Nat × Nat) (hn : n.2 = 1) : S9 n = D9 n := by
  refine (S9_eq n).trans ?_
  unfold D9
  first | (simp only [S18_D n hn, S22_D n hn, S24_D n hn, S26_D n hn, S30_D n hn, S32_D n hn, S35_D n hn, S37_D n hn, S39_D n hn, S42_D n hn, S44_D n hn, S46_D n hn, S51_D n hn, S52_D n hn, S54_D n hn, S55_D n hn, S56_D n hn, S57_D n hn, S58_D n hn, S60_D n hn]; done) | (simp only [S18_D n hn, S22_D n hn, S24_D n hn, S26_D n hn, S30_D n hn, S32_D n hn, S35_D n hn, S37_D n hn, S39_D n hn, S42_D n hn, S44_D n hn, S46_D n hn, S51_D n hn, S52_D n hn, S54_D n hn, S55_D n hn, S56_D n hn, S57_D n hn, S58_D n hn, S60_D n hn]; with_reducible rfl) | with_reducible rfl | rfl
noncomputable def PD9 (n : Nat × Nat) := phiOf pk9 rk9 (fun xs => D9 n)
theorem P9_D (n : Nat × Nat) (hn : n.2 = 1) : P9 n = PD9 n := by unfold P9 PD9; rw [S9_D n hn]
end Go.Proofs.Ytombednapelokaa
