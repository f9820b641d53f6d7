/- Texts of this claim, joined: G13 to Sa. -/
import Derived.KernelRfl
import Derived.Test.YtgmonagekfjnmaaDoorProg
import Derived.WalkKit
import Derived.Test.YtgmonagekfjnmaaDoorP6
set_option linter.unusedVariables false
set_option linter.unusedSimpArgs false
set_option maxRecDepth 100000
namespace Go.Proofs.YtgmonagekfjnmaaDoor
open Go.Vi
abbrev R13 := Bool
noncomputable def c13 : Code := bodyOf Tryd.f13
noncomputable def an13 : Ann := (.s .l (.s .l (.s .l (.s .l (.s .l (.s .l (.s .l (.s .l (.s (.s .l (.j [166, 167, 170, 171, 174, 175, 178, 179, 182, 183, 186, 187, 190, 191, 194, 195, 198, 199, 202, 203, 206, 207, 210, 211, 249, 250, 253, 254, 257, 258, 259, 260, 261, 264, 265, 266, 267, 268, 271, 272, 273, 274, 275, 278, 279, 280, 281, 282, 285, 286, 287, 288, 289, 292, 293, 296, 297, 298, 299, 302, 303, 304, 307] .l .l)) (.s .l (.s .l (.s .l (.s .l (.s .l (.s .l (.s .l (.s (.s .l (.j [249, 250, 253, 254, 257, 258, 259, 260, 261, 264, 265, 266, 267, 268, 271, 272, 273, 274, 275, 278, 279, 280, 281, 282, 285, 286, 287, 288, 289, 292, 293, 296, 297, 298, 299, 302, 303, 304, 307] .l .l)) .l)))))))))))))))))
def pk13 : List PK := []
def rk13 : List RK := [.c .bool 0]
noncomputable def rt13 (st : St) : Option R13 := rtG rk13 st
noncomputable def E13 (n : Nat × Nat) : Env := { T := tabL, phi := (consPhi 17 (fun _ => true) (P17 n) (consPhi 22 (fun _ => true) (P22 n) (consPhi 24 (fun _ => true) (P24 n) (consPhi 26 (fun _ => true) (P26 n) (consPhi 28 (fun _ => true) (P28 n) (consPhi 30 (fun _ => true) (P30 n) (consPhi 32 (fun _ => true) (P32 n) (consPhi 34 (fun _ => true) (P34 n) (consPhi 36 (fun _ => true) (P36 n) (consPhi 38 (fun _ => true) (P38 n) (consPhi 40 (fun _ => true) (P40 n) (consPhi 42 (fun _ => true) (P42 n) (consPhi 44 (fun _ => true) (P44 n) (consPhi 46 (fun _ => true) (P46 n) (consPhi 57 (fun _ => true) (P57 n) (consPhi 58 (fun _ => true) (P58 n) (consPhi 60 (fun _ => true) (P60 n) noPhi))))))))))))))))), eff := fun g => Nat.beq g 36, fuel := n.1, hold := n.2 }
noncomputable def kq13_1 (n : Nat × Nat) : St → Option R13 := run (E13 n) (cB (cB (cB (cB (cB (cB (cB (cB (cB c13))))))))) (Ann.snd (Ann.snd (Ann.snd (Ann.snd (Ann.snd (Ann.snd (Ann.snd (Ann.snd (Ann.snd an13))))))))) rt13 (fun _ _ => none) rt13
noncomputable def kc13_2 (n : Nat × Nat) : St → Option R13 := fun s => normC [166, 167, 170, 171, 174, 175, 178, 179, 182, 183, 186, 187, 190, 191, 194, 195, 198, 199, 202, 203, 206, 207, 210, 211, 249, 250, 253, 254, 257, 258, 259, 260, 261, 264, 265, 266, 267, 268, 271, 272, 273, 274, 275, 278, 279, 280, 281, 282, 285, 286, 287, 288, 289, 292, 293, 296, 297, 298, 299, 302, 303, 304, 307] s (kq13_1 n)
noncomputable def kq13_3 (n : Nat × Nat) : St → Option R13 := run (E13 n) (cB (cB (cB (cB (cB (cB (cB (cB (cB (cB (cB (cB (cB (cB (cB (cB (cB c13))))))))))))))))) (Ann.snd (Ann.snd (Ann.snd (Ann.snd (Ann.snd (Ann.snd (Ann.snd (Ann.snd (Ann.snd (Ann.snd (Ann.snd (Ann.snd (Ann.snd (Ann.snd (Ann.snd (Ann.snd (Ann.snd an13))))))))))))))))) rt13 (fun _ _ => none) rt13
noncomputable def kc13_4 (n : Nat × Nat) : St → Option R13 := fun s => normC [249, 250, 253, 254, 257, 258, 259, 260, 261, 264, 265, 266, 267, 268, 271, 272, 273, 274, 275, 278, 279, 280, 281, 282, 285, 286, 287, 288, 289, 292, 293, 296, 297, 298, 299, 302, 303, 304, 307] s (kq13_3 n)
noncomputable def S13 (n : Nat × Nat) : Option R13 := run (E13 n) c13 an13 rt13 (fun _ _ => none) rt13 { tm := [uu, uu, uu, uu, uu, uu, uu, uu, uu, uu, uu, uu, uu, uu, uu, uu, uu, uu, uu, uu, uu, uu, uu, uu, uu, uu, uu, uu, uu, uu, uu, uu, uu, uu, uu, uu, uu, uu, uu, uu, uu, uu, uu, uu, uu, uu, uu, uu, uu, uu, uu, uu, uu, uu, uu, uu, uu, uu, uu, uu, uu, uu, uu, uu, uu, uu, uu, uu, uu, uu, uu, uu, uu, uu, uu, uu, uu, uu, uu, uu, uu, uu, uu, uu, uu, uu, uu, uu, uu, uu, uu, uu, uu, uu, uu, uu, uu, uu, uu, uu, uu, uu, uu, uu, uu, uu, uu, uu, uu, uu, uu, uu, uu, uu, uu, uu, uu, uu, uu, uu, uu, uu, uu, uu, uu, uu, uu, uu, uu, uu, uu, uu, uu, uu, uu, uu, uu, uu, uu, uu, uu, uu, uu, uu, uu, uu, uu, uu, uu, uu, uu, uu, uu, uu, uu, uu, uu, uu, uu, uu, uu, uu, uu, uu, uu, uu, uu, uu, uu, uu, uu, uu, uu, uu, uu, uu, uu, uu, uu, uu, uu, uu, uu, uu, uu, uu, uu, uu, uu, uu, uu, uu, uu, uu, uu, uu, uu, uu, uu, uu, uu, uu, uu, uu, uu, uu, uu, uu, uu, uu, uu, uu, uu, uu, uu, uu, uu, uu, uu, uu, uu, uu, uu, uu, uu, uu, uu, uu, uu, uu, uu, uu, uu, uu, uu, uu, uu, uu, uu, uu, uu, uu, uu, uu, uu, uu, uu, uu, uu, uu, uu, uu, uu, uu, uu, uu, uu, uu, uu, uu, uu, uu, uu, uu, uu, uu, uu, uu, uu, uu, uu, uu, uu, uu, uu, uu, uu, uu, uu, uu, uu, uu, uu, uu, uu, uu, uu, uu, uu, uu, uu, uu, uu, uu, uu, uu, uu, uu, uu, uu, uu, uu, uu, uu, uu, uu, uu, uu, uu], hp := emp }
theorem S13_eq (n : Nat × Nat) : S13 n =
 (S57 n).bind fun r1' =>
 (S30 n 12 r1').bind fun r2' =>
 (S58 n).bind fun r3' =>
 (S32 n 10 r3' [0, 1, 2, 3, 4]).bind fun r4' =>
 (S57 n).bind fun r5' =>
 (S32 n 12 r5' [0, 2, 1, 4, 5, 3]).bind fun r6' =>
 (S57 n).bind fun r7' =>
 (S34 n 12 r7').bind fun r8' =>
 (S60 n).bind fun r9' =>
 (S34 n 10 r9').bind fun r10' =>
 (S58 n).bind fun r11' =>
 (S36 n 10 r11').bind fun r12' =>
 (S60 n).bind fun r13' =>
 (S36 n 10 r13').bind fun r14' =>
 ((bif ((r2'.2 != 0) == false) then some (r4'.2 != 0)
 else some true)).bind fun b15' =>
 ((bif (b15' == false) then some (r6'.2 != 0)
 else some true)).bind fun b16' =>
 ((bif (b16' == false) then some (r8'.2 != 0)
 else some true)).bind fun b17' =>
 ((bif (b17' == false) then some (r10'.2 != 0)
 else some true)).bind fun b18' =>
 ((bif (b18' == false) then some (r12'.2 != 0)
 else some true)).bind fun b19' =>
 ((bif (b19' == false) then some (r14'.2 != 0)
 else some true)).bind fun b20' =>
 ((bif (b20' == false) then (S24 n r2'.1 [0, 2, 1, 4, 5, 3]).bind fun r21' =>
 some (!r21')
 else some true)).bind fun b22' =>
 ((bif (b22' == false) then (S24 n r4'.1 [0, 1, 0, 2, 1]).bind fun r23' =>
 some (!r23')
 else some true)).bind fun b24' =>
 ((bif (b24' == false) then (S24 n r6'.1 [0, 1, 0, 1, 1, 1]).bind fun r25' =>
 some (!r25')
 else some true)).bind fun b26' =>
 ((bif (b26' == false) then some (r8'.1 != 2)
 else some true)).bind fun b27' =>
 ((bif (b27' == false) then some (r10'.1 != 3)
 else some true)).bind fun b28' =>
 ((bif (b28' == false) then (S24 n r12'.1 [0, 1, 0, 2, 1]).bind fun r29' =>
 some (!r29')
 else some true)).bind fun b30' =>
 ((bif (b30' == false) then (S24 n r14'.1 [0, 0, 1, 1, 2]).bind fun r31' =>
 some (!r31')
 else some true)).bind fun b32' =>
 (bif b32' then some false
 else (S58 n).bind fun r33' =>
 (S38 n 10 r33').bind fun r34' =>
 (S57 n).bind fun r35' =>
 (S38 n 12 r35').bind fun r36' =>
 (S40 n 10 []).bind fun r37' =>
 (S58 n).bind fun r38' =>
 (S42 n 10 r38' 0).bind fun r39' =>
 (S58 n).bind fun r40' =>
 (S42 n 10 r40' 5).bind fun r41' =>
 (S58 n).bind fun r42' =>
 (S42 n 10 r42' 6).bind fun r43' =>
 (S57 n).bind fun r44' =>
 (S44 n 12 r44').bind fun r45' =>
 ((bif ((r34'.2 != 0) == false) then some (r36'.2 != 0)
 else some true)).bind fun b46' =>
 ((bif (b46' == false) then some (r37'.2 != 0)
 else some true)).bind fun b47' =>
 ((bif (b47' == false) then some (r39'.2 != 0)
 else some true)).bind fun b48' =>
 ((bif (b48' == false) then some (r41'.2 != 0)
 else some true)).bind fun b49' =>
 ((bif (b49' == false) then some (r43'.2 != 1)
 else some true)).bind fun b50' =>
 ((bif (b50' == false) then some (r45'.2 != 0)
 else some true)).bind fun b51' =>
 ((bif (b51' == false) then some (r34'.1 != 9)
 else some true)).bind fun b52' =>
 ((bif (b52' == false) then some (r36'.1 != 7)
 else some true)).bind fun b53' =>
 ((bif (b53' == false) then some (!r37'.1)
 else some true)).bind fun b54' =>
 ((bif (b54' == false) then some (r39'.1 != 3)
 else some true)).bind fun b55' =>
 ((bif (b55' == false) then some (r41'.1 != 2)
 else some true)).bind fun b56' =>
 ((bif (b56' == false) then some (r45'.1 != 0)
 else some true)).bind fun b57' =>
 (bif b57' then some false
 else (S58 n).bind fun r58' =>
 (S22 n 10 r58' ([[0, 3], [1, 2]])).bind fun r59' =>
 (S58 n).bind fun r60' =>
 (S22 n 10 r60' ([[0, 1], [2], [3], [4]])).bind fun r61' =>
 (S58 n).bind fun r62' =>
 (S32 n 10 r62' [0, 0, 1, 2, 3]).bind fun r63' =>
 ((bif ((r59'.2 == 5) == true) then some (r61'.2 == 15)
 else some false)).bind fun b64' =>
 ((bif (b64' == true) then some (r63'.2 == 6)
 else some false)).bind fun b65' =>
 ((bif (b65' == true) then (S58 n).bind fun r66' =>
 (S46 n 10 r66' [0, 1, 2, 3, 4] 0).bind fun r67' =>
 some (r67' == 14)
 else some false)).bind fun b68' =>
 ((bif (b68' == true) then (S58 n).bind fun r69' =>
 (S28 n 10 r69' [0, 1]).bind fun r70' =>
 some (r70' == 5)
 else some false)).bind fun b71' =>
 ((bif (b71' == true) then (S58 n).bind fun r72' =>
 (S28 n 10 r72' [1, 0, 0, 0, 0]).bind fun r73' =>
 some (r73' == 7)
 else some false)).bind fun b74' =>
 ((bif (b74' == true) then (S58 n).bind fun r75' =>
 (S28 n 10 r75' [0, 2, 0, 0, 0]).bind fun r76' =>
 some (r76' == 7)
 else some false)).bind fun b77' =>
 ((bif (b77' == true) then (S58 n).bind fun r78' =>
 (S28 n 10 r78' [0, -1, 0, 0, 0]).bind fun r79' =>
 some (r79' == 2)
 else some false)).bind fun b80' =>
 ((bif (b80' == true) then (S26 n 25 []).bind fun r81' =>
 some (r81' == 1)
 else some false)).bind fun b82' =>
 ((bif (b82' == true) then (S26 n 10 [11]).bind fun r83' =>
 some (r83' == 1)
 else some false)).bind fun b84' =>
 ((bif (b84' == true) then (bif decide (0 ≤ 9) && decide (9 ≤ 9) && decide (9 ≤ lim) then (S26 n 10 (List.replicate (Int.toNat 9) (0 : Int))).bind fun r85' =>
 some (r85' == 3)
 else none)
 else some false)).bind fun b86' =>
 ((bif (b86' == true) then (S17 n).bind fun r87' =>
 some r87'
 else some false)).bind fun b88' =>
 some b88')) := by kernel_rfl
theorem S13_run (n : Nat × Nat) (xs : pksDen pk13) : S13 n = runG (E13 n) noScope c13 an13 (rtG rk13) (fun _ _ => none) (rtG rk13) (st0 pk13 xs Tryd.f13.ntmps) := by kernel_rfl
noncomputable def P13 (n : Nat × Nat) := phiOf pk13 rk13 (fun xs => S13 n)
theorem call13 : CallOK Tryd.prog 13 := callOK_of Tryd.func13 (by kernel_rfl) (by kernel_rfl)
theorem env13 (n : Nat × Nat) : EnvOK Tryd.prog (E13 n) := envOK0 (consPhi_ok (FC17 n) call17 (consPhi_ok (FC22 n) call22 (consPhi_ok (FC24 n) call24 (consPhi_ok (FC26 n) call26 (consPhi_ok (FC28 n) call28 (consPhi_ok (FC30 n) call30 (consPhi_ok (FC32 n) call32 (consPhi_ok (FC34 n) call34 (consPhi_ok (FC36 n) call36 (consPhi_ok (FC38 n) call38 (consPhi_ok (FC40 n) call40 (consPhi_ok (FC42 n) call42 (consPhi_ok (FC44 n) call44 (consPhi_ok (FC46 n) call46 (consPhi_ok (FC57 n) call57 (consPhi_ok (FC58 n) call58 (consPhi_ok (FC60 n) call60 noPhi_ok))))))))))))))))) rfl rfl
theorem par13 (n : Nat × Nat) : EnvPar (E13 n) := envPar0 (consPhi_par phiOf_Par1 (consPhi_par phiOf_Par1 (consPhi_par phiOf_Par1 (consPhi_par phiOf_Par1 (consPhi_par phiOf_Par1 (consPhi_par phiOf_Par1 (consPhi_par phiOf_Par1 (consPhi_par phiOf_Par1 (consPhi_par phiOf_Par1 (consPhi_par phiOf_Par1 (consPhi_par phiOf_Par1 (consPhi_par phiOf_Par1 (consPhi_par phiOf_Par1 (consPhi_par phiOf_Par1 (consPhi_par phiOf_Par1 (consPhi_par phiOf_Par1 (consPhi_par phiOf_Par1 noPhi_par))))))))))))))))) rfl
theorem FC13 (n : Nat × Nat) : FCs Tryd.prog 13 (P13 n) := phiOf_FCs fun xs r h vs hv => FC.of_runG tabLOK eqsLOK (env13 n) (par13 n) mixed (fun _ p _ => noScope_ok p.1 p.2) Tryd.func13 (c := c13) (an := an13) (pks := pk13) (rks := rk13) (by kernel_rfl) (by kernel_rfl) hv ((S13_run n xs).symm.trans h)
/-D 13 -/
noncomputable def D13 (n : Nat × Nat) : Option R13 :=
 (D57 n).bind fun r1' =>
 (D30 n 12 r1').bind fun r2' =>
 (D58 n).bind fun r3' =>
 (D32 n 10 r3' [0, 1, 2, 3, 4]).bind fun r4' =>
 (D57 n).bind fun r5' =>
 (D32 n 12 r5' [0, 2, 1, 4, 5, 3]).bind fun r6' =>
 (D57 n).bind fun r7' =>
 (D34 n 12 r7').bind fun r8' =>
 (D60 n).bind fun r9' =>
 (D34 n 10 r9').bind fun r10' =>
 (D58 n).bind fun r11' =>
 (D36 n 10 r11').bind fun r12' =>
 (D60 n).bind fun r13' =>
 (D36 n 10 r13').bind fun r14' =>
 ((bif ((r2'.2 != 0) == false) then some (r4'.2 != 0)
 else some true)).bind fun b15' =>
 ((bif (b15' == false) then some (r6'.2 != 0)
 else some true)).bind fun b16' =>
 ((bif (b16' == false) then some (r8'.2 != 0)
 else some true)).bind fun b17' =>
 ((bif (b17' == false) then some (r10'.2 != 0)
 else some true)).bind fun b18' =>
 ((bif (b18' == false) then some (r12'.2 != 0)
 else some true)).bind fun b19' =>
 ((bif (b19' == false) then some (r14'.2 != 0)
 else some true)).bind fun b20' =>
 ((bif (b20' == false) then (D24 n r2'.1 [0, 2, 1, 4, 5, 3]).bind fun r21' =>
 some (!r21')
 else some true)).bind fun b22' =>
 ((bif (b22' == false) then (D24 n r4'.1 [0, 1, 0, 2, 1]).bind fun r23' =>
 some (!r23')
 else some true)).bind fun b24' =>
 ((bif (b24' == false) then (D24 n r6'.1 [0, 1, 0, 1, 1, 1]).bind fun r25' =>
 some (!r25')
 else some true)).bind fun b26' =>
 ((bif (b26' == false) then some (r8'.1 != 2)
 else some true)).bind fun b27' =>
 ((bif (b27' == false) then some (r10'.1 != 3)
 else some true)).bind fun b28' =>
 ((bif (b28' == false) then (D24 n r12'.1 [0, 1, 0, 2, 1]).bind fun r29' =>
 some (!r29')
 else some true)).bind fun b30' =>
 ((bif (b30' == false) then (D24 n r14'.1 [0, 0, 1, 1, 2]).bind fun r31' =>
 some (!r31')
 else some true)).bind fun b32' =>
 (bif b32' then some false
 else (D58 n).bind fun r33' =>
 (D38 n 10 r33').bind fun r34' =>
 (D57 n).bind fun r35' =>
 (D38 n 12 r35').bind fun r36' =>
 (D40 n 10 []).bind fun r37' =>
 (D58 n).bind fun r38' =>
 (D42 n 10 r38' 0).bind fun r39' =>
 (D58 n).bind fun r40' =>
 (D42 n 10 r40' 5).bind fun r41' =>
 (D58 n).bind fun r42' =>
 (D42 n 10 r42' 6).bind fun r43' =>
 (D57 n).bind fun r44' =>
 (D44 n 12 r44').bind fun r45' =>
 ((bif ((r34'.2 != 0) == false) then some (r36'.2 != 0)
 else some true)).bind fun b46' =>
 ((bif (b46' == false) then some (r37'.2 != 0)
 else some true)).bind fun b47' =>
 ((bif (b47' == false) then some (r39'.2 != 0)
 else some true)).bind fun b48' =>
 ((bif (b48' == false) then some (r41'.2 != 0)
 else some true)).bind fun b49' =>
 ((bif (b49' == false) then some (r43'.2 != 1)
 else some true)).bind fun b50' =>
 ((bif (b50' == false) then some (r45'.2 != 0)
 else some true)).bind fun b51' =>
 ((bif (b51' == false) then some (r34'.1 != 9)
 else some true)).bind fun b52' =>
 ((bif (b52' == false) then some (r36'.1 != 7)
 else some true)).bind fun b53' =>
 ((bif (b53' == false) then some (!r37'.1)
 else some true)).bind fun b54' =>
 ((bif (b54' == false) then some (r39'.1 != 3)
 else some true)).bind fun b55' =>
 ((bif (b55' == false) then some (r41'.1 != 2)
 else some true)).bind fun b56' =>
 ((bif (b56' == false) then some (r45'.1 != 0)
 else some true)).bind fun b57' =>
 (bif b57' then some false
 else (D58 n).bind fun r58' =>
 (D22 n 10 r58' ([[0, 3], [1, 2]])).bind fun r59' =>
 (D58 n).bind fun r60' =>
 (D22 n 10 r60' ([[0, 1], [2], [3], [4]])).bind fun r61' =>
 (D58 n).bind fun r62' =>
 (D32 n 10 r62' [0, 0, 1, 2, 3]).bind fun r63' =>
 ((bif ((r59'.2 == 5) == true) then some (r61'.2 == 15)
 else some false)).bind fun b64' =>
 ((bif (b64' == true) then some (r63'.2 == 6)
 else some false)).bind fun b65' =>
 ((bif (b65' == true) then (D58 n).bind fun r66' =>
 (D46 n 10 r66' [0, 1, 2, 3, 4] 0).bind fun r67' =>
 some (r67' == 14)
 else some false)).bind fun b68' =>
 ((bif (b68' == true) then (D58 n).bind fun r69' =>
 (D28 n 10 r69' [0, 1]).bind fun r70' =>
 some (r70' == 5)
 else some false)).bind fun b71' =>
 ((bif (b71' == true) then (D58 n).bind fun r72' =>
 (D28 n 10 r72' [1, 0, 0, 0, 0]).bind fun r73' =>
 some (r73' == 7)
 else some false)).bind fun b74' =>
 ((bif (b74' == true) then (D58 n).bind fun r75' =>
 (D28 n 10 r75' [0, 2, 0, 0, 0]).bind fun r76' =>
 some (r76' == 7)
 else some false)).bind fun b77' =>
 ((bif (b77' == true) then (D58 n).bind fun r78' =>
 (D28 n 10 r78' [0, -1, 0, 0, 0]).bind fun r79' =>
 some (r79' == 2)
 else some false)).bind fun b80' =>
 ((bif (b80' == true) then (D26 n 25 []).bind fun r81' =>
 some (r81' == 1)
 else some false)).bind fun b82' =>
 ((bif (b82' == true) then (D26 n 10 [11]).bind fun r83' =>
 some (r83' == 1)
 else some false)).bind fun b84' =>
 ((bif (b84' == true) then (bif decide (0 ≤ 9) && decide (9 ≤ 9) && decide (9 ≤ lim) then (D26 n 10 (List.replicate (Int.toNat 9) (0 : Int))).bind fun r85' =>
 some (r85' == 3)
 else none)
 else some false)).bind fun b86' =>
 ((bif (b86' == true) then (D17 n).bind fun r87' =>
 some r87'
 else some false)).bind fun b88' =>
 some b88'))
theorem S13_D (n : Nat × Nat) (hn : n.2 = 1) : S13 n = D13 n := by
  refine (S13_eq n).trans ?_
  unfold D13
  (try simp only [S17_D n hn, S22_D n hn, S24_D n hn, S26_D n hn, S28_D n hn, S30_D n hn, S32_D n hn, S34_D n hn, S36_D n hn, S38_D n hn, S40_D n hn, S42_D n hn, S44_D n hn, S46_D n hn, S57_D n hn, S58_D n hn, S60_D n hn]) <;> first | with_reducible rfl | rfl
end Go.Proofs.YtgmonagekfjnmaaDoor
set_option linter.unusedVariables false
set_option linter.unusedSimpArgs false
namespace Go.Proofs.YtgmonagekfjnmaaDoor
open Go.Vi

abbrev N : Nat × Nat := (10000, 1)
theorem works_eq : D17 N = some true := by kernel_rfl
theorem known_eq : D13 N = some true := by kernel_rfl
end Go.Proofs.YtgmonagekfjnmaaDoor
