/- Texts of this claim, joined: G16 to D16. -/
import Derived.KernelRfl
import Derived.Test.YtjgmfdgpgdaclaaProg
import Derived.WalkKit
import Derived.Test.YtjgmfdgpgdaclaaP7
set_option linter.unusedVariables false
set_option linter.unusedSimpArgs false
set_option maxRecDepth 100000
namespace Go.Proofs.Ytjgmfdgpgdaclaa
open Go.Vi
/- headword/headwordlaw12.CoinKnown -/
abbrev R16 := Bool
noncomputable def c16 : Code := bodyOf Try.f16
noncomputable def an16 : Ann := (.s .l (.s .l (.s .l (.s .l (.s .l (.s .l (.s .l (.s .l (.s (.s .l (.j [165, 166, 169, 170, 173, 174, 177, 178, 181, 182, 185, 186, 189, 190, 193, 194, 197, 198, 201, 202, 205, 206, 209, 210, 213, 214, 217, 218, 219, 220, 221, 258, 259, 262, 263, 266, 267, 270, 271, 274, 275, 278, 281, 284, 285, 286, 287, 288, 291, 292, 293, 294, 295, 298, 299, 300, 301, 302, 305, 306, 309, 310, 311, 312, 315, 316, 317, 318, 321, 322, 323, 324, 327, 328, 329, 330, 333] .l .l)) (.s .l (.s .l (.s .l (.s .l (.s .l (.s .l (.s .l (.s (.s .l (.j [258, 259, 262, 263, 266, 267, 270, 271, 274, 275, 278, 281, 284, 285, 286, 287, 288, 291, 292, 293, 294, 295, 298, 299, 300, 301, 302, 305, 306, 309, 310, 311, 312, 315, 316, 317, 318, 321, 322, 323, 324, 327, 328, 329, 330, 333] .l .l)) .l)))))))))))))))))
def pk16 : List PK := []
def rk16 : List RK := [.c .bool 0]
noncomputable def rt16 (st : St) : Option R16 := rtG rk16 st
noncomputable def E16 (n : Nat × Nat) : Env := { T := tab, phi := (consPhi 17 (fun _ => true) (P17 n) (consPhi 18 (fun _ => true) (P18 n) (consPhi 20 (fun _ => true) (P20 n) (consPhi 22 (fun _ => true) (P22 n) (consPhi 24 (fun _ => true) (P24 n) (consPhi 25 (fun _ => true) (P25 n) (consPhi 27 (fun _ => true) (P27 n) (consPhi 31 (fun _ => true) (P31 n) (consPhi 33 (fun _ => true) (P33 n) (consPhi 35 (fun _ => true) (P35 n) (consPhi 37 (fun _ => true) (P37 n) (consPhi 39 (fun _ => true) (P39 n) (consPhi 41 (fun _ => true) (P41 n) (consPhi 53 (fun _ => true) (P53 n) (consPhi 54 (fun _ => true) (P54 n) (consPhi 55 (fun _ => true) (P55 n) noPhi)))))))))))))))), eff := fun _ => false, fuel := n.1, hold := n.2 }
noncomputable def kq16_1 (n : Nat × Nat) : St → Option R16 := run (E16 n) (cB (cB (cB (cB (cB (cB (cB (cB (cB c16))))))))) (Ann.snd (Ann.snd (Ann.snd (Ann.snd (Ann.snd (Ann.snd (Ann.snd (Ann.snd (Ann.snd an16))))))))) rt16 (fun _ _ => none) rt16
noncomputable def kc16_2 (n : Nat × Nat) : St → Option R16 := fun s => normC [165, 166, 169, 170, 173, 174, 177, 178, 181, 182, 185, 186, 189, 190, 193, 194, 197, 198, 201, 202, 205, 206, 209, 210, 213, 214, 217, 218, 219, 220, 221, 258, 259, 262, 263, 266, 267, 270, 271, 274, 275, 278, 281, 284, 285, 286, 287, 288, 291, 292, 293, 294, 295, 298, 299, 300, 301, 302, 305, 306, 309, 310, 311, 312, 315, 316, 317, 318, 321, 322, 323, 324, 327, 328, 329, 330, 333] s (kq16_1 n)
noncomputable def kq16_3 (n : Nat × Nat) : St → Option R16 := run (E16 n) (cB (cB (cB (cB (cB (cB (cB (cB (cB (cB (cB (cB (cB (cB (cB (cB (cB c16))))))))))))))))) (Ann.snd (Ann.snd (Ann.snd (Ann.snd (Ann.snd (Ann.snd (Ann.snd (Ann.snd (Ann.snd (Ann.snd (Ann.snd (Ann.snd (Ann.snd (Ann.snd (Ann.snd (Ann.snd (Ann.snd an16))))))))))))))))) rt16 (fun _ _ => none) rt16
noncomputable def kc16_4 (n : Nat × Nat) : St → Option R16 := fun s => normC [258, 259, 262, 263, 266, 267, 270, 271, 274, 275, 278, 281, 284, 285, 286, 287, 288, 291, 292, 293, 294, 295, 298, 299, 300, 301, 302, 305, 306, 309, 310, 311, 312, 315, 316, 317, 318, 321, 322, 323, 324, 327, 328, 329, 330, 333] s (kq16_3 n)
noncomputable def S16 (n : Nat × Nat) : Option R16 := run (E16 n) c16 an16 rt16 (fun _ _ => none) rt16 { tm := [uu, uu, uu, uu, uu, uu, uu, uu, uu, uu, uu, uu, uu, uu, uu, uu, uu, uu, uu, uu, uu, uu, uu, uu, uu, uu, uu, uu, uu, uu, uu, uu, uu, uu, uu, uu, uu, uu, uu, uu, uu, uu, uu, uu, uu, uu, uu, uu, uu, uu, uu, uu, uu, uu, uu, uu, uu, uu, uu, uu, uu, uu, uu, uu, uu, uu, uu, uu, uu, uu, uu, uu, uu, uu, uu, uu, uu, uu, uu, uu, uu, uu, uu, uu, uu, uu, uu, uu, uu, uu, uu, uu, uu, uu, uu, uu, uu, uu, uu, uu, uu, uu, uu, uu, uu, uu, uu, uu, uu, uu, uu, uu, uu, uu, uu, uu, uu, uu, uu, uu, uu, uu, uu, uu, uu, uu, uu, uu, uu, uu, uu, uu, uu, uu, uu, uu, uu, uu, uu, uu, uu, uu, uu, uu, uu, uu, uu, uu, uu, uu, uu, uu, uu, uu, uu, uu, uu, uu, uu, uu, uu, uu, uu, uu, uu, uu, uu, uu, uu, uu, uu, uu, uu, uu, uu, uu, uu, uu, uu, uu, uu, uu, uu, uu, uu, uu, uu, uu, uu, uu, uu, uu, uu, uu, uu, uu, uu, uu, uu, uu, uu, uu, uu, uu, uu, uu, uu, uu, uu, uu, uu, uu, uu, uu, uu, uu, uu, uu, uu, uu, uu, uu, uu, uu, uu, uu, uu, uu, uu, uu, uu, uu, uu, uu, uu, uu, uu, uu, uu, uu, uu, uu, uu, uu, uu, uu, uu, uu, uu, uu, uu, uu, uu, uu, uu, uu, uu, uu, uu, uu, uu, uu, uu, uu, uu, uu, uu, uu, uu, uu, uu, uu, uu, uu, uu, uu, uu, uu, uu, uu, uu, uu, uu, uu, uu, uu, uu, uu, uu, uu, uu, uu, uu, uu, uu, uu, uu, uu, uu, uu, uu, uu, uu, uu, uu, uu, uu, uu, uu, uu, uu, uu, uu, uu, uu, uu, uu, uu, uu, uu, uu, uu, uu, uu, uu, uu, uu, uu, uu, uu, uu, uu, uu, uu, uu], hp := emp }
theorem S16_eq (n : Nat × Nat) : S16 n =
    (S53 n).bind fun r1' =>
    (S18 n r1' 18).bind fun r2' =>
    (S54 n).bind fun r3' =>
    (S18 n r3' 0).bind fun r4' =>
    (S54 n).bind fun r5' =>
    (S20 n r5' 7).bind fun r6' =>
    (S53 n).bind fun r7' =>
    (S20 n r7' 11).bind fun r8' =>
    (S53 n).bind fun r9' =>
    (S22 n r9' 18).bind fun r10' =>
    (S55 n).bind fun r11' =>
    (S27 n r11').bind fun r12' =>
    (S53 n).bind fun r13' =>
    (S37 n r13' 10).bind fun r14' =>
    ((bif ((r2'.2 != 0) == false) then some (r4'.2 != 0)
      else some true)).bind fun b15' =>
    ((bif (b15' == false) then some (r6'.2 != 0)
      else some true)).bind fun b16' =>
    ((bif (b16' == false) then some (r8'.2 != 0)
      else some true)).bind fun b17' =>
    ((bif (b17' == false) then some (r10'.2 != 0)
      else some true)).bind fun b18' =>
    ((bif (b18' == false) then some (r12'.2 != 0)
      else some true)).bind fun b19' =>
    ((bif (b19' == false) then some (r14'.2 != 0)
      else some true)).bind fun b20' =>
    ((bif (b20' == false) then some (r2'.1 != 5)
      else some true)).bind fun b21' =>
    ((bif (b21' == false) then some (r4'.1 != 0)
      else some true)).bind fun b22' =>
    ((bif (b22' == false) then (S24 n r6'.1 [0, 1, 1]).bind fun r23' =>
        some (!r23')
      else some true)).bind fun b24' =>
    ((bif (b24' == false) then (S24 n r8'.1 [1, 0, 1]).bind fun r25' =>
        some (!r25')
      else some true)).bind fun b26' =>
    ((bif (b26' == false) then (S24 n r10'.1 [3, 1, 1]).bind fun r27' =>
        some (!r27')
      else some true)).bind fun b28' =>
    ((bif (b28' == false) then some (!r12'.1)
      else some true)).bind fun b29' =>
    ((bif (b29' == false) then some (r14'.1 != 4)
      else some true)).bind fun b30' =>
    (bif b30' then some false
    else (S54 n).bind fun r31' =>
      (S37 n r31' 0).bind fun r32' =>
      (S54 n).bind fun r33' =>
      (S35 n r33' 1).bind fun r34' =>
      (S54 n).bind fun r35' =>
      (S35 n r35' 3).bind fun r36' =>
      (S54 n).bind fun r37' =>
      (S35 n r37' 6).bind fun r38' =>
      (S53 n).bind fun r39' =>
      (S39 n r39' 18).bind fun r40' =>
      (S54 n).bind fun r41' =>
      (S39 n r41' 6).bind fun r42' =>
      (S54 n).bind fun r43' =>
      (S41 n r43' [3, 1, 0] 6).bind fun r44' =>
      ((bif ((r32'.2 != 0) == false) then some (r34'.2 != 0)
        else some true)).bind fun b45' =>
      ((bif (b45' == false) then some (r36'.2 != 0)
        else some true)).bind fun b46' =>
      ((bif (b46' == false) then some (r38'.2 != 1)
        else some true)).bind fun b47' =>
      ((bif (b47' == false) then some (r40'.2.2 != 0)
        else some true)).bind fun b48' =>
      ((bif (b48' == false) then some (r42'.2.2 != 0)
        else some true)).bind fun b49' =>
      ((bif (b49' == false) then some (r44'.2 != 0)
        else some true)).bind fun b50' =>
      ((bif (b50' == false) then some (r32'.1 != 1)
        else some true)).bind fun b51' =>
      ((bif (b51' == false) then some (r34'.1 != 1)
        else some true)).bind fun b52' =>
      ((bif (b52' == false) then some (r36'.1 != 12)
        else some true)).bind fun b53' =>
      ((bif (b53' == false) then some (r40'.1 != 2)
        else some true)).bind fun b54' =>
      ((bif (b54' == false) then some (r40'.2.1 != 2)
        else some true)).bind fun b55' =>
      ((bif (b55' == false) then some (r42'.1 != 2)
        else some true)).bind fun b56' =>
      ((bif (b56' == false) then some (r42'.2.1 != 0)
        else some true)).bind fun b57' =>
      ((bif (b57' == false) then (S24 n r44'.1 [3, 1, 0]).bind fun r58' =>
          some (!r58')
        else some true)).bind fun b59' =>
      (bif b59' then some false
      else (S55 n).bind fun r60' =>
        (S33 n r60' 4).bind fun r61' =>
        (S55 n).bind fun r62' =>
        (S33 n r62' 3).bind fun r63' =>
        (S55 n).bind fun r64' =>
        (S33 n r64' 2).bind fun r65' =>
        (S55 n).bind fun r66' =>
        (S33 n r66' 41).bind fun r67' =>
        (S54 n).bind fun r68' =>
        (S41 n r68' [1, 1] 6).bind fun r69' =>
        (S54 n).bind fun r70' =>
        (S18 n r70' 201).bind fun r71' =>
        ((bif ((r61'.2 == 0) == true) then some (r63'.2 == 0)
          else some false)).bind fun b72' =>
        ((bif (b72' == true) then some (r65'.2 == 7)
          else some false)).bind fun b73' =>
        ((bif (b73' == true) then some (r67'.2 == 1)
          else some false)).bind fun b74' =>
        ((bif (b74' == true) then some (r69'.2 == 5)
          else some false)).bind fun b75' =>
        ((bif (b75' == true) then some (r71'.2 == 1)
          else some false)).bind fun b76' =>
        ((bif (b76' == true) then some r61'.1
          else some false)).bind fun b77' =>
        ((bif (b77' == true) then some r63'.1
          else some false)).bind fun b78' =>
        ((bif (b78' == true) then (S54 n).bind fun r79' =>
            (S31 n r79' 6 [0, 1, 0]).bind fun r80' =>
            some (r80' == 17)
          else some false)).bind fun b81' =>
        ((bif (b81' == true) then (S54 n).bind fun r82' =>
            (S31 n r82' 7 [0, 1, 1]).bind fun r83' =>
            some (r83' == 14)
          else some false)).bind fun b84' =>
        ((bif (b84' == true) then (S54 n).bind fun r85' =>
            (S31 n r85' 6 [0, 2]).bind fun r86' =>
            some (r86' == 5)
          else some false)).bind fun b87' =>
        ((bif (b87' == true) then (S25 n []).bind fun r88' =>
            some (r88' == 4)
          else some false)).bind fun b89' =>
        ((bif (b89' == true) then (S25 n [1, 41]).bind fun r90' =>
            some (r90' == 1)
          else some false)).bind fun b91' =>
        ((bif (b91' == true) then (S25 n [1, 1]).bind fun r92' =>
            some (r92' == 7)
          else some false)).bind fun b93' =>
        ((bif (b93' == true) then (S25 n [2, 3]).bind fun r94' =>
            some (r94' == 5)
          else some false)).bind fun b95' =>
        ((bif (b95' == true) then (S25 n [1, 2, 3, 4, 5, 6, 7]).bind fun r96' =>
            some (r96' == 3)
          else some false)).bind fun b97' =>
        ((bif (b97' == true) then (S17 n).bind fun r98' =>
            some r98'
          else some false)).bind fun b99' =>
        some b99')) := by kernel_rfl
theorem S16_run (n : Nat × Nat) (xs : pksDen pk16) : S16 n = runG (E16 n) noScope c16 an16 (rtG rk16) (fun _ _ => none) (rtG rk16) (st0 pk16 xs Try.f16.ntmps) := by kernel_rfl
noncomputable def P16 (n : Nat × Nat) := phiOf pk16 rk16 (fun xs => S16 n)
theorem call16 : CallOK Try.prog 16 := callOK_of Try.func16 (by kernel_rfl) (by kernel_rfl)
theorem env16 (n : Nat × Nat) : EnvOK Try.prog (E16 n) := envOK0 (consPhi_ok (FC17 n) call17 (consPhi_ok (FC18 n) call18 (consPhi_ok (FC20 n) call20 (consPhi_ok (FC22 n) call22 (consPhi_ok (FC24 n) call24 (consPhi_ok (FC25 n) call25 (consPhi_ok (FC27 n) call27 (consPhi_ok (FC31 n) call31 (consPhi_ok (FC33 n) call33 (consPhi_ok (FC35 n) call35 (consPhi_ok (FC37 n) call37 (consPhi_ok (FC39 n) call39 (consPhi_ok (FC41 n) call41 (consPhi_ok (FC53 n) call53 (consPhi_ok (FC54 n) call54 (consPhi_ok (FC55 n) call55 noPhi_ok)))))))))))))))) rfl rfl
theorem par16 (n : Nat × Nat) : EnvPar (E16 n) := envPar0 (consPhi_par phiOf_Par1 (consPhi_par phiOf_Par1 (consPhi_par phiOf_Par1 (consPhi_par phiOf_Par1 (consPhi_par phiOf_Par1 (consPhi_par phiOf_Par1 (consPhi_par phiOf_Par1 (consPhi_par phiOf_Par1 (consPhi_par phiOf_Par1 (consPhi_par phiOf_Par1 (consPhi_par phiOf_Par1 (consPhi_par phiOf_Par1 (consPhi_par phiOf_Par1 (consPhi_par phiOf_Par1 (consPhi_par phiOf_Par1 (consPhi_par phiOf_Par1 noPhi_par)))))))))))))))) rfl
theorem FC16 (n : Nat × Nat) : FCs Try.prog 16 (P16 n) := phiOf_FCs fun xs r h vs hv => FC.of_runG tabOK eqsOK (env16 n) (par16 n) mixed (fun _ => noScope_ok) Try.func16 (c := c16) (an := an16) (pks := pk16) (rks := rk16) (by kernel_rfl) (by kernel_rfl) hv ((S16_run n xs).symm.trans h)
end Go.Proofs.Ytjgmfdgpgdaclaa
set_option linter.unusedVariables false
set_option linter.unusedSimpArgs false
set_option maxRecDepth 100000
namespace Go.Proofs.Ytjgmfdgpgdaclaa
open Go.Vi
/-D 16 -/
noncomputable def D16 (n : Nat × Nat) : Option R16 :=
    (D53 n).bind fun r1' =>
    (D18 n r1' 18).bind fun r2' =>
    (D54 n).bind fun r3' =>
    (D18 n r3' 0).bind fun r4' =>
    (D54 n).bind fun r5' =>
    (D20 n r5' 7).bind fun r6' =>
    (D53 n).bind fun r7' =>
    (D20 n r7' 11).bind fun r8' =>
    (D53 n).bind fun r9' =>
    (D22 n r9' 18).bind fun r10' =>
    (D55 n).bind fun r11' =>
    (D27 n r11').bind fun r12' =>
    (D53 n).bind fun r13' =>
    (D37 n r13' 10).bind fun r14' =>
    ((bif ((r2'.2 != 0) == false) then some (r4'.2 != 0)
      else some true)).bind fun b15' =>
    ((bif (b15' == false) then some (r6'.2 != 0)
      else some true)).bind fun b16' =>
    ((bif (b16' == false) then some (r8'.2 != 0)
      else some true)).bind fun b17' =>
    ((bif (b17' == false) then some (r10'.2 != 0)
      else some true)).bind fun b18' =>
    ((bif (b18' == false) then some (r12'.2 != 0)
      else some true)).bind fun b19' =>
    ((bif (b19' == false) then some (r14'.2 != 0)
      else some true)).bind fun b20' =>
    ((bif (b20' == false) then some (r2'.1 != 5)
      else some true)).bind fun b21' =>
    ((bif (b21' == false) then some (r4'.1 != 0)
      else some true)).bind fun b22' =>
    ((bif (b22' == false) then (D24 n r6'.1 [0, 1, 1]).bind fun r23' =>
        some (!r23')
      else some true)).bind fun b24' =>
    ((bif (b24' == false) then (D24 n r8'.1 [1, 0, 1]).bind fun r25' =>
        some (!r25')
      else some true)).bind fun b26' =>
    ((bif (b26' == false) then (D24 n r10'.1 [3, 1, 1]).bind fun r27' =>
        some (!r27')
      else some true)).bind fun b28' =>
    ((bif (b28' == false) then some (!r12'.1)
      else some true)).bind fun b29' =>
    ((bif (b29' == false) then some (r14'.1 != 4)
      else some true)).bind fun b30' =>
    (bif b30' then some false
    else (D54 n).bind fun r31' =>
      (D37 n r31' 0).bind fun r32' =>
      (D54 n).bind fun r33' =>
      (D35 n r33' 1).bind fun r34' =>
      (D54 n).bind fun r35' =>
      (D35 n r35' 3).bind fun r36' =>
      (D54 n).bind fun r37' =>
      (D35 n r37' 6).bind fun r38' =>
      (D53 n).bind fun r39' =>
      (D39 n r39' 18).bind fun r40' =>
      (D54 n).bind fun r41' =>
      (D39 n r41' 6).bind fun r42' =>
      (D54 n).bind fun r43' =>
      (D41 n r43' [3, 1, 0] 6).bind fun r44' =>
      ((bif ((r32'.2 != 0) == false) then some (r34'.2 != 0)
        else some true)).bind fun b45' =>
      ((bif (b45' == false) then some (r36'.2 != 0)
        else some true)).bind fun b46' =>
      ((bif (b46' == false) then some (r38'.2 != 1)
        else some true)).bind fun b47' =>
      ((bif (b47' == false) then some (r40'.2.2 != 0)
        else some true)).bind fun b48' =>
      ((bif (b48' == false) then some (r42'.2.2 != 0)
        else some true)).bind fun b49' =>
      ((bif (b49' == false) then some (r44'.2 != 0)
        else some true)).bind fun b50' =>
      ((bif (b50' == false) then some (r32'.1 != 1)
        else some true)).bind fun b51' =>
      ((bif (b51' == false) then some (r34'.1 != 1)
        else some true)).bind fun b52' =>
      ((bif (b52' == false) then some (r36'.1 != 12)
        else some true)).bind fun b53' =>
      ((bif (b53' == false) then some (r40'.1 != 2)
        else some true)).bind fun b54' =>
      ((bif (b54' == false) then some (r40'.2.1 != 2)
        else some true)).bind fun b55' =>
      ((bif (b55' == false) then some (r42'.1 != 2)
        else some true)).bind fun b56' =>
      ((bif (b56' == false) then some (r42'.2.1 != 0)
        else some true)).bind fun b57' =>
      ((bif (b57' == false) then (D24 n r44'.1 [3, 1, 0]).bind fun r58' =>
          some (!r58')
        else some true)).bind fun b59' =>
      (bif b59' then some false
      else (D55 n).bind fun r60' =>
        (D33 n r60' 4).bind fun r61' =>
        (D55 n).bind fun r62' =>
        (D33 n r62' 3).bind fun r63' =>
        (D55 n).bind fun r64' =>
        (D33 n r64' 2).bind fun r65' =>
        (D55 n).bind fun r66' =>
        (D33 n r66' 41).bind fun r67' =>
        (D54 n).bind fun r68' =>
        (D41 n r68' [1, 1] 6).bind fun r69' =>
        (D54 n).bind fun r70' =>
        (D18 n r70' 201).bind fun r71' =>
        ((bif ((r61'.2 == 0) == true) then some (r63'.2 == 0)
          else some false)).bind fun b72' =>
        ((bif (b72' == true) then some (r65'.2 == 7)
          else some false)).bind fun b73' =>
        ((bif (b73' == true) then some (r67'.2 == 1)
          else some false)).bind fun b74' =>
        ((bif (b74' == true) then some (r69'.2 == 5)
          else some false)).bind fun b75' =>
        ((bif (b75' == true) then some (r71'.2 == 1)
          else some false)).bind fun b76' =>
        ((bif (b76' == true) then some r61'.1
          else some false)).bind fun b77' =>
        ((bif (b77' == true) then some r63'.1
          else some false)).bind fun b78' =>
        ((bif (b78' == true) then (D54 n).bind fun r79' =>
            (D31 n r79' 6 [0, 1, 0]).bind fun r80' =>
            some (r80' == 17)
          else some false)).bind fun b81' =>
        ((bif (b81' == true) then (D54 n).bind fun r82' =>
            (D31 n r82' 7 [0, 1, 1]).bind fun r83' =>
            some (r83' == 14)
          else some false)).bind fun b84' =>
        ((bif (b84' == true) then (D54 n).bind fun r85' =>
            (D31 n r85' 6 [0, 2]).bind fun r86' =>
            some (r86' == 5)
          else some false)).bind fun b87' =>
        ((bif (b87' == true) then (D25 n []).bind fun r88' =>
            some (r88' == 4)
          else some false)).bind fun b89' =>
        ((bif (b89' == true) then (D25 n [1, 41]).bind fun r90' =>
            some (r90' == 1)
          else some false)).bind fun b91' =>
        ((bif (b91' == true) then (D25 n [1, 1]).bind fun r92' =>
            some (r92' == 7)
          else some false)).bind fun b93' =>
        ((bif (b93' == true) then (D25 n [2, 3]).bind fun r94' =>
            some (r94' == 5)
          else some false)).bind fun b95' =>
        ((bif (b95' == true) then (D25 n [1, 2, 3, 4, 5, 6, 7]).bind fun r96' =>
            some (r96' == 3)
          else some false)).bind fun b97' =>
        ((bif (b97' == true) then (D17 n).bind fun r98' =>
            some r98'
          else some false)).bind fun b99' =>
        some b99'))
theorem S16_D (n : Nat × Nat) (hn : n.2 = 1) : S16 n = D16 n := by
  refine (S16_eq n).trans ?_
  unfold D16
  (try simp only [S17_D n hn, S18_D n hn, S20_D n hn, S22_D n hn, S24_D n hn, S25_D n hn, S27_D n hn, S31_D n hn, S33_D n hn, S35_D n hn, S37_D n hn, S39_D n hn, S41_D n hn, S53_D n hn, S54_D n hn, S55_D n hn]) <;> first | with_reducible rfl | rfl
end Go.Proofs.Ytjgmfdgpgdaclaa
