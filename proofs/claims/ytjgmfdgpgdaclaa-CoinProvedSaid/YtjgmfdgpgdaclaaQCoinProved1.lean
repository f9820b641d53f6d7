/- Texts of this claim, joined: G15 to Co15. -/
import Derived.KernelRfl
import Derived.Test.YtjgmfdgpgdaclaaProg
import Derived.WalkKit
import Derived.Test.YtjgmfdgpgdaclaaP8
set_option linter.unusedVariables false
set_option linter.unusedSimpArgs false
set_option maxRecDepth 100000
namespace Go.Proofs.Ytjgmfdgpgdaclaa
open Go.Vi
/- headword/headwordlaw12.CoinProved -/
abbrev R15 := Bool
noncomputable def c15 : Code := bodyOf Try.f15
noncomputable def an15 : Ann := (.s .l (.s .l (.s .l (.s (.s .l (.j [2, 3, 9, 10, 89, 90, 91, 94] (.j [2, 3, 5, 9, 10, 27, 28, 89, 90, 91, 94] (.s .l (.s (.j [2, 3, 5, 9, 10, 27, 28, 89, 90, 91, 94] .l .l) (.s (.j [2, 3, 5, 9, 10, 27, 28, 89, 90, 91, 94] .l .l) .l))) .l) .l)) (.s .l (.s (.s .l (.j [9, 10, 12, 13, 89, 90, 91, 94] .l .l)) (.s .l (.s .l (.s (.s .l (.j [9, 10, 12, 15, 89, 90, 91, 94] .l (.s .l (.j [9, 10, 12, 15, 89, 90, 91, 94] .l (.s .l (.s .l (.j [9, 10, 12, 15, 89, 90, 91, 94] .l .l))))))) (.s .l (.s .l (.s .l (.s (.s .l (.j [15, 21, 22, 23, 89, 90, 91, 94] .l .l)) .l)))))))))))))
def pk15 : List PK := [.c (.pair (.int .u8) (.pair (.int .u8) (.pair (.int .u8) (.pair (.int .u8) (.pair (.int .u8) (.int .u8)))))), .c (.pair (.int .u8) (.pair (.int .u8) (.pair (.int .u8) (.pair (.int .u8) (.pair (.int .u8) (.int .u8)))))), .c (.int .u8), .c (.int .u8)]
def rk15 : List RK := [.c .bool 8]
noncomputable def rt15 (st : St) : Option R15 := rtG rk15 st
noncomputable def E15 (n : Nat × Nat) : Env := { T := tab, phi := (consPhi 17 (fun _ => true) (P17 n) (consPhi 31 (fun _ => true) (P31 n) (consPhi 43 (fun _ => true) (P43 n) (consPhi 45 (fun _ => true) (P45 n) (consPhi 51 (fun _ => true) (P51 n) noPhi))))), eff := fun _ => false, fuel := n.1, hold := n.2 }
noncomputable def kq15_1 (n : Nat × Nat) : St → Option R15 := run (E15 n) (cB (cB (cB (cB c15)))) (Ann.snd (Ann.snd (Ann.snd (Ann.snd an15)))) rt15 (fun _ _ => none) rt15
noncomputable def kc15_2 (n : Nat × Nat) : St → Option R15 := fun s => normC [2, 3, 9, 10, 89, 90, 91, 94] s (kq15_1 n)
noncomputable def xb15_3 (n : Nat × Nat) : Nat → St → Option R15 := fun j s => bif Nat.beq j 0 then normC [2, 3, 9, 10, 89, 90, 91, 94] s (kq15_1 n) else (fun _ _ => none) j s
noncomputable def F15_4 (n : Nat × Nat) : (St → Option R15) → St → Option R15 := fun K s => run (E15 n) (cA (cA (cB (cA (cB (cB (cB c15))))))) (Ann.fst (Ann.fst (Ann.snd (Ann.fst (Ann.snd (Ann.snd (Ann.snd an15))))))) (fun s => normC [2, 3, 5, 9, 10, 27, 28, 89, 90, 91, 94] s K) (xb15_3 n) rt15 s
noncomputable def kq15_5 (n : Nat × Nat) (m1 : Nat) : St → Option R15 := run (E15 n) (cB (cB (cA (cA (cB (cA (cB (cB (cB c15))))))))) (Ann.snd (Ann.snd (Ann.fst (Ann.fst (Ann.snd (Ann.fst (Ann.snd (Ann.snd (Ann.snd an15))))))))) (fun s => normC [2, 3, 5, 9, 10, 27, 28, 89, 90, 91, 94] s (loopN (F15_4 n) m1)) (xb15_3 n) rt15
noncomputable def kc15_6 (n : Nat × Nat) (m1 : Nat) : St → Option R15 := fun s => normC [2, 3, 5, 9, 10, 27, 28, 89, 90, 91, 94] s (kq15_5 n m1)
noncomputable def kq15_7 (n : Nat × Nat) (m1 : Nat) : St → Option R15 := run (E15 n) (cB (cB (cB (cA (cA (cB (cA (cB (cB (cB c15)))))))))) (Ann.snd (Ann.snd (Ann.snd (Ann.fst (Ann.fst (Ann.snd (Ann.fst (Ann.snd (Ann.snd (Ann.snd an15)))))))))) (fun s => normC [2, 3, 5, 9, 10, 27, 28, 89, 90, 91, 94] s (loopN (F15_4 n) m1)) (xb15_3 n) rt15
noncomputable def kc15_8 (n : Nat × Nat) (m1 : Nat) : St → Option R15 := fun s => normC [2, 3, 5, 9, 10, 27, 28, 89, 90, 91, 94] s (kq15_7 n m1)
noncomputable def xb15_9 (n : Nat × Nat) (m1 : Nat) : Nat → St → Option R15 := fun j s => bif Nat.beq j 1 then normC [2, 3, 5, 9, 10, 27, 28, 89, 90, 91, 94] s (kq15_7 n m1) else (xb15_3 n) j s
noncomputable def kq15_10 (n : Nat × Nat) : St → Option R15 := run (E15 n) (cB (cB (cB (cB (cB (cB c15)))))) (Ann.snd (Ann.snd (Ann.snd (Ann.snd (Ann.snd (Ann.snd an15)))))) rt15 (fun _ _ => none) rt15
noncomputable def kc15_11 (n : Nat × Nat) : St → Option R15 := fun s => normC [9, 10, 12, 13, 89, 90, 91, 94] s (kq15_10 n)
noncomputable def kq15_12 (n : Nat × Nat) : St → Option R15 := run (E15 n) (cB (cB (cB (cB (cB (cB (cB (cB (cB c15))))))))) (Ann.snd (Ann.snd (Ann.snd (Ann.snd (Ann.snd (Ann.snd (Ann.snd (Ann.snd (Ann.snd an15))))))))) rt15 (fun _ _ => none) rt15
noncomputable def kc15_13 (n : Nat × Nat) : St → Option R15 := fun s => normC [9, 10, 12, 15, 89, 90, 91, 94] s (kq15_12 n)
noncomputable def kq15_14 (n : Nat × Nat) : St → Option R15 := run (E15 n) (cB (cB (cB (cB (cB (cB (cB (cB (cB (cB (cB (cB (cB c15))))))))))))) (Ann.snd (Ann.snd (Ann.snd (Ann.snd (Ann.snd (Ann.snd (Ann.snd (Ann.snd (Ann.snd (Ann.snd (Ann.snd (Ann.snd (Ann.snd an15))))))))))))) rt15 (fun _ _ => none) rt15
noncomputable def kc15_15 (n : Nat × Nat) : St → Option R15 := fun s => normC [15, 21, 22, 23, 89, 90, 91, 94] s (kq15_14 n)
noncomputable def kc15_16 (n : Nat × Nat) : St → Option R15 := fun s => normC [9, 10, 12, 15, 89, 90, 91, 94] s (kc15_13 n)
noncomputable def kc15_17 (n : Nat × Nat) : St → Option R15 := fun s => normC [9, 10, 12, 15, 89, 90, 91, 94] s (kc15_16 n)
noncomputable def L15_1 (n : Nat × Nat) (m : Nat) (sum2 : Int) (off3 : Int) (v27 : Int) (v28 : Int) (payment5_0 : Int) (payment5_1 : Int) (payment5_2 : Int) (payment5_3 : Int) (payment5_4 : Int) (payment5_5 : Int) (coins9 : List Int) (l10 : List Int) : Option R15 := loopN (F15_4 n) m { tm := [uu, uu, .c (.int .u8 sum2), .c (.int .u8 off3), uu, .ptr 5 0, uu, uu, uu, .own 9 none false, .own 10 none false, uu, uu, uu, uu, uu, uu, uu, uu, uu, uu, uu, uu, uu, uu, uu, uu, .c (.int .i64 v27), .c (.int .i64 v28), uu, uu, uu, uu, uu, uu, uu, uu, uu, uu, uu, uu, uu, uu, uu, uu, uu, uu, uu, uu, uu, uu, uu, uu, uu, uu, uu, uu, uu, uu, uu, uu, uu, uu, uu, uu, uu, uu, uu, uu, uu, uu, uu, uu, uu, uu, uu, uu, uu, uu, uu, uu, uu, uu, uu, uu, uu, uu, uu, uu, uu, uu, uu, uu, uu, uu, uu], hp := (upd (upd (upd emp 10 (.arr (.int .i64) l10 false)) 9 (.arr (.int .i64) coins9 false)) 5 (.box [.int .u8 payment5_0, .int .u8 payment5_1, .int .u8 payment5_2, .int .u8 payment5_3, .int .u8 payment5_4, .int .u8 payment5_5])) }
theorem L15_1_eq (n : Nat × Nat) (m1 : Nat) (sum2 : Int) (off3 : Int) (v27 : Int) (v28 : Int) (payment5_0 : Int) (payment5_1 : Int) (payment5_2 : Int) (payment5_3 : Int) (payment5_4 : Int) (payment5_5 : Int) (coins9 : List Int) (l10 : List Int) : L15_1 n (m1 + 1) sum2 off3 v27 v28 payment5_0 payment5_1 payment5_2 payment5_3 payment5_4 payment5_5 coins9 l10 =
    (bif decide (v28 < v27) then (bif inB v28 6 then (idx [payment5_0, payment5_1, payment5_2, payment5_3, payment5_4, payment5_5] v28).bind fun x2' =>
        (bif 4 == 0 then none
        else (bif decide (l10.length + [Int.tmod (wr .i64 x2') 4].length ≤ lim) then L15_1 n m1 sum2 off3 v27 (wr .i64 (v28 + 1)) payment5_0 payment5_1 payment5_2 payment5_3 payment5_4 payment5_5 coins9 (l10 ++ [Int.tmod (wr .i64 x2') 4])
          else none))
      else none)
    else (S51 n coins9 l10).bind fun r3' =>
      (bif 4 == 0 then none
      else (bif ((Int.tmod off3 4) == 0) then (bif 202 == 0 then none
          else (S51 n coins9 l10).bind fun r4' =>
            (bif decide (Int.tmod (wr .i64 sum2) 202 > 200) then (S31 n coins9 (Int.tmod (wr .i64 sum2) 202) l10).bind fun r5' =>
              (bif bounds (some 1) none none l10.length then (S31 n coins9 (Int.tmod (wr .i64 sum2) 202) ((l10.drop (0 + (Int.toNat 1))).take (l10.length - (Int.toNat 1)))).bind fun r6' =>
                (bif decide (Int.tmod (wr .i64 sum2) 202 > 200) then ((bif ((r5' == 1) == true) then some (r6' == 1)
                    else some false)).bind fun b7' =>
                  ((bif (b7' == true) then (S17 n).bind fun r8' =>
                      some r8'
                    else some false)).bind fun b9' =>
                  some b9'
                else ((bif ((r5' == 1) == true) then some (r6' == 5)
                    else some false)).bind fun b10' =>
                  ((bif (b10' == true) then (S17 n).bind fun r11' =>
                      some r11'
                    else some false)).bind fun b12' =>
                  some b12')
              else none)
            else (bif (r4'.1 != (Int.tmod (wr .i64 sum2) 202)) then (S31 n coins9 (Int.tmod (wr .i64 sum2) 202) l10).bind fun r13' =>
                (bif bounds (some 1) none none l10.length then (S31 n coins9 (Int.tmod (wr .i64 sum2) 202) ((l10.drop (0 + (Int.toNat 1))).take (l10.length - (Int.toNat 1)))).bind fun r14' =>
                  (bif decide (Int.tmod (wr .i64 sum2) 202 > 200) then ((bif ((r13' == 17) == true) then some (r14' == 1)
                      else some false)).bind fun b15' =>
                    ((bif (b15' == true) then (S17 n).bind fun r16' =>
                        some r16'
                      else some false)).bind fun b17' =>
                    some b17'
                  else ((bif ((r13' == 17) == true) then some (r14' == 5)
                      else some false)).bind fun b18' =>
                    ((bif (b18' == true) then (S17 n).bind fun r19' =>
                        some r19'
                      else some false)).bind fun b20' =>
                    some b20')
                else none)
              else (S45 n coins9 (Int.tmod (wr .i64 sum2) 202)).bind fun r21' =>
                (bif decide (r3'.2.1 ≥ r21'.2) then (S31 n coins9 (Int.tmod (wr .i64 sum2) 202) l10).bind fun r22' =>
                  (bif bounds (some 1) none none l10.length then (S31 n coins9 (Int.tmod (wr .i64 sum2) 202) ((l10.drop (0 + (Int.toNat 1))).take (l10.length - (Int.toNat 1)))).bind fun r23' =>
                    (bif decide (Int.tmod (wr .i64 sum2) 202 > 200) then ((bif ((r22' == 14) == true) then some (r23' == 1)
                        else some false)).bind fun b24' =>
                      ((bif (b24' == true) then (S17 n).bind fun r25' =>
                          some r25'
                        else some false)).bind fun b26' =>
                      some b26'
                    else ((bif ((r22' == 14) == true) then some (r23' == 5)
                        else some false)).bind fun b27' =>
                      ((bif (b27' == true) then (S17 n).bind fun r28' =>
                          some r28'
                        else some false)).bind fun b29' =>
                      some b29')
                  else none)
                else (S31 n coins9 (Int.tmod (wr .i64 sum2) 202) l10).bind fun r30' =>
                  (bif bounds (some 1) none none l10.length then (S31 n coins9 (Int.tmod (wr .i64 sum2) 202) ((l10.drop (0 + (Int.toNat 1))).take (l10.length - (Int.toNat 1)))).bind fun r31' =>
                    (bif decide (Int.tmod (wr .i64 sum2) 202 > 200) then ((bif ((r30' == 0) == true) then some (r31' == 1)
                        else some false)).bind fun b32' =>
                      ((bif (b32' == true) then (S17 n).bind fun r33' =>
                          some r33'
                        else some false)).bind fun b34' =>
                      some b34'
                    else ((bif ((r30' == 0) == true) then some (r31' == 5)
                        else some false)).bind fun b35' =>
                      ((bif (b35' == true) then (S17 n).bind fun r36' =>
                          some r36'
                        else some false)).bind fun b37' =>
                      some b37')
                  else none)))))
        else (S51 n coins9 l10).bind fun r38' =>
          (bif decide (r3'.1 > 200) then (S31 n coins9 r3'.1 l10).bind fun r39' =>
            (bif bounds (some 1) none none l10.length then (S31 n coins9 r3'.1 ((l10.drop (0 + (Int.toNat 1))).take (l10.length - (Int.toNat 1)))).bind fun r40' =>
              (bif decide (r3'.1 > 200) then ((bif ((r39' == 1) == true) then some (r40' == 1)
                  else some false)).bind fun b41' =>
                ((bif (b41' == true) then (S17 n).bind fun r42' =>
                    some r42'
                  else some false)).bind fun b43' =>
                some b43'
              else ((bif ((r39' == 1) == true) then some (r40' == 5)
                  else some false)).bind fun b44' =>
                ((bif (b44' == true) then (S17 n).bind fun r45' =>
                    some r45'
                  else some false)).bind fun b46' =>
                some b46')
            else none)
          else (bif (r38'.1 != r3'.1) then (S31 n coins9 r3'.1 l10).bind fun r47' =>
              (bif bounds (some 1) none none l10.length then (S31 n coins9 r3'.1 ((l10.drop (0 + (Int.toNat 1))).take (l10.length - (Int.toNat 1)))).bind fun r48' =>
                (bif decide (r3'.1 > 200) then ((bif ((r47' == 17) == true) then some (r48' == 1)
                    else some false)).bind fun b49' =>
                  ((bif (b49' == true) then (S17 n).bind fun r50' =>
                      some r50'
                    else some false)).bind fun b51' =>
                  some b51'
                else ((bif ((r47' == 17) == true) then some (r48' == 5)
                    else some false)).bind fun b52' =>
                  ((bif (b52' == true) then (S17 n).bind fun r53' =>
                      some r53'
                    else some false)).bind fun b54' =>
                  some b54')
              else none)
            else (S45 n coins9 r3'.1).bind fun r55' =>
              (bif decide (r3'.2.1 ≥ r55'.2) then (S31 n coins9 r3'.1 l10).bind fun r56' =>
                (bif bounds (some 1) none none l10.length then (S31 n coins9 r3'.1 ((l10.drop (0 + (Int.toNat 1))).take (l10.length - (Int.toNat 1)))).bind fun r57' =>
                  (bif decide (r3'.1 > 200) then ((bif ((r56' == 14) == true) then some (r57' == 1)
                      else some false)).bind fun b58' =>
                    ((bif (b58' == true) then (S17 n).bind fun r59' =>
                        some r59'
                      else some false)).bind fun b60' =>
                    some b60'
                  else ((bif ((r56' == 14) == true) then some (r57' == 5)
                      else some false)).bind fun b61' =>
                    ((bif (b61' == true) then (S17 n).bind fun r62' =>
                        some r62'
                      else some false)).bind fun b63' =>
                    some b63')
                else none)
              else (S31 n coins9 r3'.1 l10).bind fun r64' =>
                (bif bounds (some 1) none none l10.length then (S31 n coins9 r3'.1 ((l10.drop (0 + (Int.toNat 1))).take (l10.length - (Int.toNat 1)))).bind fun r65' =>
                  (bif decide (r3'.1 > 200) then ((bif ((r64' == 0) == true) then some (r65' == 1)
                      else some false)).bind fun b66' =>
                    ((bif (b66' == true) then (S17 n).bind fun r67' =>
                        some r67'
                      else some false)).bind fun b68' =>
                    some b68'
                  else ((bif ((r64' == 0) == true) then some (r65' == 5)
                      else some false)).bind fun b69' =>
                    ((bif (b69' == true) then (S17 n).bind fun r70' =>
                        some r70'
                      else some false)).bind fun b71' =>
                    some b71')
                else none))))))) := by kernel_rfl
noncomputable def S15 (n : Nat × Nat) (m0 : Int × Int × Int × Int × Int × Int) (payment1 : Int × Int × Int × Int × Int × Int) (sum2 : Int) (off3 : Int) : Option R15 := run (E15 n) c15 an15 rt15 (fun _ _ => none) rt15 { tm := [.agg [.int .u8 m0.1, .int .u8 m0.2.1, .int .u8 m0.2.2.1, .int .u8 m0.2.2.2.1, .int .u8 m0.2.2.2.2.1, .int .u8 m0.2.2.2.2.2], .agg [.int .u8 payment1.1, .int .u8 payment1.2.1, .int .u8 payment1.2.2.1, .int .u8 payment1.2.2.2.1, .int .u8 payment1.2.2.2.2.1, .int .u8 payment1.2.2.2.2.2], .c (.int .u8 sum2), .c (.int .u8 off3), uu, uu, uu, uu, uu, uu, uu, uu, uu, uu, uu, uu, uu, uu, uu, uu, uu, uu, uu, uu, uu, uu, uu, uu, uu, uu, uu, uu, uu, uu, uu, uu, uu, uu, uu, uu, uu, uu, uu, uu, uu, uu, uu, uu, uu, uu, uu, uu, uu, uu, uu, uu, uu, uu, uu, uu, uu, uu, uu, uu, uu, uu, uu, uu, uu, uu, uu, uu, uu, uu, uu, uu, uu, uu, uu, uu, uu, uu, uu, uu, uu, uu, uu, uu, uu, uu, uu, uu, uu, uu, uu, uu], hp := emp }
theorem S15_eq (n : Nat × Nat) (m0 : Int × Int × Int × Int × Int × Int) (payment1 : Int × Int × Int × Int × Int × Int) (sum2 : Int) (off3 : Int) : S15 n m0 payment1 sum2 off3 =
    (S43 n m0 6 20).bind fun r1' =>
    L15_1 n n.1 sum2 off3 (r1'.length : Int) 0 payment1.1 payment1.2.1 payment1.2.2.1 payment1.2.2.2.1 payment1.2.2.2.2.1 payment1.2.2.2.2.2 r1' [] := by kernel_rfl
theorem S15_run (n : Nat × Nat) (xs : pksDen pk15) : S15 n xs.1 xs.2.1 xs.2.2.1 xs.2.2.2.1 = runG (E15 n) noScope c15 an15 (rtG rk15) (fun _ _ => none) (rtG rk15) (st0 pk15 xs Try.f15.ntmps) := by kernel_rfl
noncomputable def P15 (n : Nat × Nat) := phiOf pk15 rk15 (fun xs => S15 n xs.1 xs.2.1 xs.2.2.1 xs.2.2.2.1)
theorem call15 : CallOK Try.prog 15 := callOK_of Try.func15 (by kernel_rfl) (by kernel_rfl)
theorem env15 (n : Nat × Nat) : EnvOK Try.prog (E15 n) := envOK0 (consPhi_ok (FC17 n) call17 (consPhi_ok (FC31 n) call31 (consPhi_ok (FC43 n) call43 (consPhi_ok (FC45 n) call45 (consPhi_ok (FC51 n) call51 noPhi_ok))))) rfl rfl
theorem par15 (n : Nat × Nat) : EnvPar (E15 n) := envPar0 (consPhi_par phiOf_Par1 (consPhi_par phiOf_Par1 (consPhi_par phiOf_Par1 (consPhi_par phiOf_Par1 (consPhi_par phiOf_Par1 noPhi_par))))) rfl
theorem FC15 (n : Nat × Nat) : FCs Try.prog 15 (P15 n) := phiOf_FCs fun xs r h vs hv => FC.of_runG tabOK eqsOK (env15 n) (par15 n) mixed (fun _ => noScope_ok) Try.func15 (c := c15) (an := an15) (pks := pk15) (rks := rk15) (by kernel_rfl) (by kernel_rfl) hv ((S15_run n xs).symm.trans h)
end Go.Proofs.Ytjgmfdgpgdaclaa
set_option linter.unusedVariables false
set_option linter.unusedSimpArgs false
set_option maxRecDepth 100000
namespace Go.Proofs.Ytjgmfdgpgdaclaa
open Go.Vi
/-D 15 -/
noncomputable def DF15_1 (n : Nat × Nat) (f1 : Int → Int → Int → Int → Int → Int → Int → Int → Int → Int → List Int → List Int → Option R15) (sum2 : Int) (off3 : Int) (v27 : Int) (v28 : Int) (payment5_0 : Int) (payment5_1 : Int) (payment5_2 : Int) (payment5_3 : Int) (payment5_4 : Int) (payment5_5 : Int) (coins9 : List Int) (l10 : List Int) : Option R15 :=
    (bif decide (v28 < v27) then (bif inB v28 6 then (idx [payment5_0, payment5_1, payment5_2, payment5_3, payment5_4, payment5_5] v28).bind fun x2' =>
        (bif 4 == 0 then none
        else (bif decide (l10.length + [Int.tmod (wr .i64 x2') 4].length ≤ lim) then f1 sum2 off3 v27 (wr .i64 (v28 + 1)) payment5_0 payment5_1 payment5_2 payment5_3 payment5_4 payment5_5 coins9 (l10 ++ [Int.tmod (wr .i64 x2') 4])
          else none))
      else none)
    else (D51 n coins9 l10).bind fun r3' =>
      (bif 4 == 0 then none
      else (bif ((Int.tmod off3 4) == 0) then (bif 202 == 0 then none
          else (D51 n coins9 l10).bind fun r4' =>
            (bif decide (Int.tmod (wr .i64 sum2) 202 > 200) then (D31 n coins9 (Int.tmod (wr .i64 sum2) 202) l10).bind fun r5' =>
              (bif bounds (some 1) none none l10.length then (D31 n coins9 (Int.tmod (wr .i64 sum2) 202) ((l10.drop (0 + (Int.toNat 1))).take (l10.length - (Int.toNat 1)))).bind fun r6' =>
                (bif decide (Int.tmod (wr .i64 sum2) 202 > 200) then ((bif ((r5' == 1) == true) then some (r6' == 1)
                    else some false)).bind fun b7' =>
                  ((bif (b7' == true) then (D17 n).bind fun r8' =>
                      some r8'
                    else some false)).bind fun b9' =>
                  some b9'
                else ((bif ((r5' == 1) == true) then some (r6' == 5)
                    else some false)).bind fun b10' =>
                  ((bif (b10' == true) then (D17 n).bind fun r11' =>
                      some r11'
                    else some false)).bind fun b12' =>
                  some b12')
              else none)
            else (bif (r4'.1 != (Int.tmod (wr .i64 sum2) 202)) then (D31 n coins9 (Int.tmod (wr .i64 sum2) 202) l10).bind fun r13' =>
                (bif bounds (some 1) none none l10.length then (D31 n coins9 (Int.tmod (wr .i64 sum2) 202) ((l10.drop (0 + (Int.toNat 1))).take (l10.length - (Int.toNat 1)))).bind fun r14' =>
                  (bif decide (Int.tmod (wr .i64 sum2) 202 > 200) then ((bif ((r13' == 17) == true) then some (r14' == 1)
                      else some false)).bind fun b15' =>
                    ((bif (b15' == true) then (D17 n).bind fun r16' =>
                        some r16'
                      else some false)).bind fun b17' =>
                    some b17'
                  else ((bif ((r13' == 17) == true) then some (r14' == 5)
                      else some false)).bind fun b18' =>
                    ((bif (b18' == true) then (D17 n).bind fun r19' =>
                        some r19'
                      else some false)).bind fun b20' =>
                    some b20')
                else none)
              else (D45 n coins9 (Int.tmod (wr .i64 sum2) 202)).bind fun r21' =>
                (bif decide (r3'.2.1 ≥ r21'.2) then (D31 n coins9 (Int.tmod (wr .i64 sum2) 202) l10).bind fun r22' =>
                  (bif bounds (some 1) none none l10.length then (D31 n coins9 (Int.tmod (wr .i64 sum2) 202) ((l10.drop (0 + (Int.toNat 1))).take (l10.length - (Int.toNat 1)))).bind fun r23' =>
                    (bif decide (Int.tmod (wr .i64 sum2) 202 > 200) then ((bif ((r22' == 14) == true) then some (r23' == 1)
                        else some false)).bind fun b24' =>
                      ((bif (b24' == true) then (D17 n).bind fun r25' =>
                          some r25'
                        else some false)).bind fun b26' =>
                      some b26'
                    else ((bif ((r22' == 14) == true) then some (r23' == 5)
                        else some false)).bind fun b27' =>
                      ((bif (b27' == true) then (D17 n).bind fun r28' =>
                          some r28'
                        else some false)).bind fun b29' =>
                      some b29')
                  else none)
                else (D31 n coins9 (Int.tmod (wr .i64 sum2) 202) l10).bind fun r30' =>
                  (bif bounds (some 1) none none l10.length then (D31 n coins9 (Int.tmod (wr .i64 sum2) 202) ((l10.drop (0 + (Int.toNat 1))).take (l10.length - (Int.toNat 1)))).bind fun r31' =>
                    (bif decide (Int.tmod (wr .i64 sum2) 202 > 200) then ((bif ((r30' == 0) == true) then some (r31' == 1)
                        else some false)).bind fun b32' =>
                      ((bif (b32' == true) then (D17 n).bind fun r33' =>
                          some r33'
                        else some false)).bind fun b34' =>
                      some b34'
                    else ((bif ((r30' == 0) == true) then some (r31' == 5)
                        else some false)).bind fun b35' =>
                      ((bif (b35' == true) then (D17 n).bind fun r36' =>
                          some r36'
                        else some false)).bind fun b37' =>
                      some b37')
                  else none)))))
        else (D51 n coins9 l10).bind fun r38' =>
          (bif decide (r3'.1 > 200) then (D31 n coins9 r3'.1 l10).bind fun r39' =>
            (bif bounds (some 1) none none l10.length then (D31 n coins9 r3'.1 ((l10.drop (0 + (Int.toNat 1))).take (l10.length - (Int.toNat 1)))).bind fun r40' =>
              (bif decide (r3'.1 > 200) then ((bif ((r39' == 1) == true) then some (r40' == 1)
                  else some false)).bind fun b41' =>
                ((bif (b41' == true) then (D17 n).bind fun r42' =>
                    some r42'
                  else some false)).bind fun b43' =>
                some b43'
              else ((bif ((r39' == 1) == true) then some (r40' == 5)
                  else some false)).bind fun b44' =>
                ((bif (b44' == true) then (D17 n).bind fun r45' =>
                    some r45'
                  else some false)).bind fun b46' =>
                some b46')
            else none)
          else (bif (r38'.1 != r3'.1) then (D31 n coins9 r3'.1 l10).bind fun r47' =>
              (bif bounds (some 1) none none l10.length then (D31 n coins9 r3'.1 ((l10.drop (0 + (Int.toNat 1))).take (l10.length - (Int.toNat 1)))).bind fun r48' =>
                (bif decide (r3'.1 > 200) then ((bif ((r47' == 17) == true) then some (r48' == 1)
                    else some false)).bind fun b49' =>
                  ((bif (b49' == true) then (D17 n).bind fun r50' =>
                      some r50'
                    else some false)).bind fun b51' =>
                  some b51'
                else ((bif ((r47' == 17) == true) then some (r48' == 5)
                    else some false)).bind fun b52' =>
                  ((bif (b52' == true) then (D17 n).bind fun r53' =>
                      some r53'
                    else some false)).bind fun b54' =>
                  some b54')
              else none)
            else (D45 n coins9 r3'.1).bind fun r55' =>
              (bif decide (r3'.2.1 ≥ r55'.2) then (D31 n coins9 r3'.1 l10).bind fun r56' =>
                (bif bounds (some 1) none none l10.length then (D31 n coins9 r3'.1 ((l10.drop (0 + (Int.toNat 1))).take (l10.length - (Int.toNat 1)))).bind fun r57' =>
                  (bif decide (r3'.1 > 200) then ((bif ((r56' == 14) == true) then some (r57' == 1)
                      else some false)).bind fun b58' =>
                    ((bif (b58' == true) then (D17 n).bind fun r59' =>
                        some r59'
                      else some false)).bind fun b60' =>
                    some b60'
                  else ((bif ((r56' == 14) == true) then some (r57' == 5)
                      else some false)).bind fun b61' =>
                    ((bif (b61' == true) then (D17 n).bind fun r62' =>
                        some r62'
                      else some false)).bind fun b63' =>
                    some b63')
                else none)
              else (D31 n coins9 r3'.1 l10).bind fun r64' =>
                (bif bounds (some 1) none none l10.length then (D31 n coins9 r3'.1 ((l10.drop (0 + (Int.toNat 1))).take (l10.length - (Int.toNat 1)))).bind fun r65' =>
                  (bif decide (r3'.1 > 200) then ((bif ((r64' == 0) == true) then some (r65' == 1)
                      else some false)).bind fun b66' =>
                    ((bif (b66' == true) then (D17 n).bind fun r67' =>
                        some r67'
                      else some false)).bind fun b68' =>
                    some b68'
                  else ((bif ((r64' == 0) == true) then some (r65' == 5)
                      else some false)).bind fun b69' =>
                    ((bif (b69' == true) then (D17 n).bind fun r70' =>
                        some r70'
                      else some false)).bind fun b71' =>
                    some b71')
                else none)))))))
noncomputable def DL15_1 (n : Nat × Nat) (m : Nat) : Int → Int → Int → Int → Int → Int → Int → Int → Int → Int → List Int → List Int → Option R15 := Nat.rec (motive := fun _ => Int → Int → Int → Int → Int → Int → Int → Int → Int → Int → List Int → List Int → Option R15) (fun _ _ _ _ _ _ _ _ _ _ _ _ => none) (fun _ ih => DF15_1 n ih) m
theorem DL15_1_succ (n : Nat × Nat) (m : Nat) : DL15_1 n (m + 1) = DF15_1 n (DL15_1 n m) := rfl
theorem DL15_1_eq (n : Nat × Nat) (hn : n.2 = 1) : ∀ m, L15_1 n m = DL15_1 n m
  | 0 => by funext sum2 off3 v27 v28 payment5_0 payment5_1 payment5_2 payment5_3 payment5_4 payment5_5 coins9 l10; kernel_rfl
  | m + 1 => by
    have ih := DL15_1_eq n hn m
    funext sum2 off3 v27 v28 payment5_0 payment5_1 payment5_2 payment5_3 payment5_4 payment5_5 coins9 l10; refine (L15_1_eq n m sum2 off3 v27 v28 payment5_0 payment5_1 payment5_2 payment5_3 payment5_4 payment5_5 coins9 l10).trans ?_
    rw [DL15_1_succ]
    unfold DF15_1
    (try simp only [ih, S17_D n hn, S31_D n hn, S43_D n hn, S45_D n hn, S51_D n hn]) <;> first | with_reducible rfl | rfl
noncomputable def D15 (n : Nat × Nat) (m0 : Int × Int × Int × Int × Int × Int) (payment1 : Int × Int × Int × Int × Int × Int) (sum2 : Int) (off3 : Int) : Option R15 :=
    (D43 n m0 6 20).bind fun r1' =>
    DL15_1 n n.1 sum2 off3 (r1'.length : Int) 0 payment1.1 payment1.2.1 payment1.2.2.1 payment1.2.2.2.1 payment1.2.2.2.2.1 payment1.2.2.2.2.2 r1' []
theorem S15_D (n : Nat × Nat) (hn : n.2 = 1) : S15 n = D15 n := by
  funext m0 payment1 sum2 off3; refine (S15_eq n m0 payment1 sum2 off3).trans ?_
  unfold D15
  (try simp only [DL15_1_eq n hn, S17_D n hn, S31_D n hn, S43_D n hn, S45_D n hn, S51_D n hn]) <;> first | with_reducible rfl | rfl
end Go.Proofs.Ytjgmfdgpgdaclaa
/-
  Coins: the law CoinProved.
-/
set_option linter.unusedVariables false
set_option linter.unusedSimpArgs false
namespace Go.Proofs.Ytjgmfdgpgdaclaa
open Go.Vi
theorem worth_loop {n : Nat × Nat} {cs : List Int} (hv : Vld cs) {p : List Int} (hpl : p.length = cs.length) (hp : ∀ x ∈ p, 0 ≤ x ∧ x ≤ 1000) : ∀ (m i : Nat) (w t : Int), i ≤ p.length → p.length - i < m → 0 ≤ w → w ≤ 40000 * i → 0 ≤ t → t ≤ 1000 * i →
    DL51_1 n m cs w t p (p.length : Int) (i : Int) = some (w + dot (cs.drop i) (p.drop i), t + tot (p.drop i), true)
  | 0, i, w, t, _, h, _, _, _, _ => by omega
  | m + 1, i, w, t, hi, h, a, b, c, d => by
    have hl := hv.len
    rw [DL51_1_succ]
    unfold DF51_1
    by_cases hlt : i < p.length
    · have hlc : i < cs.length := by omega
      have hx := hp p[i] (List.getElem_mem _)
      have hc := hv.rng cs[i] (List.getElem_mem _)
      have hm1 := Int.mul_nonneg hx.1 (show 0 ≤ cs[i] by omega)
      have hm2 : p[i] * cs[i] ≤ 1000 * 40 := Int.mul_le_mul hx.2 hc.2 (by omega) (by omega)
      rw [decide_eq_true (show (i : Int) < (p.length : Int) by omega), cond_true, idx_nat hlt, idx_nat hlc, drop_cons hlt, drop_cons hlc]
      simp only [Option.bind_some, dot, tot]
      rw [decide_eq_false (show ¬ p[i] < 0 by omega), decide_eq_false (show ¬ p[i] > 1000 by omega)]
      simp only [show (false == false) = true from rfl, cond_true, cond_false, Option.bind_some]
      rw [wr_ok (x := p[i] * cs[i]) (by omega) (by omega), wr_ok (x := w + p[i] * cs[i]) (by omega) (by omega), wr_ok (x := t + p[i]) (by omega) (by omega)]
      have ih := worth_loop (n := n) hv hpl hp m (i + 1) (w + p[i] * cs[i]) (t + p[i]) (by omega) (by omega) (by omega) (by omega) (by omega) (by omega)
      rw [show ((i + 1 : Nat) : Int) = wr .i64 ((i : Int) + 1) by rw [wr_ok (by omega) (by omega)]; omega] at ih
      rw [ih, show w + p[i] * cs[i] + dot (cs.drop (i + 1)) (p.drop (i + 1)) = w + (p[i] * cs[i] + dot (cs.drop (i + 1)) (p.drop (i + 1))) by omega, show t + p[i] + tot (p.drop (i + 1)) = t + (p[i] + tot (p.drop (i + 1))) by omega]
    · rw [decide_eq_false (show ¬ (i : Int) < (p.length : Int) by omega), cond_false]
      rw [List.drop_of_length_le (show p.length ≤ i by omega), List.drop_of_length_le (show cs.length ≤ i by omega)]
      simp [dot, tot]
theorem worth_eq {n : Nat × Nat} (hn : 1000 ≤ n.1) {cs : List Int} (hv : Vld cs) {p : List Int} (hpl : p.length = cs.length) (hp : ∀ x ∈ p, 0 ≤ x ∧ x ≤ 1000) : D51 n cs p = some (dot cs p, tot p, true) := by
  unfold D51
  have hl := hv.len
  rw [show ((p.length : Int) != (cs.length : Int)) = false by simp [hpl], cond_false]
  have := worth_loop (n := n) hv hpl hp n.1 0 0 0 (by omega) (by omega) (by omega) (by omega) (by omega) (by omega)
  simpa using this
theorem dot_bd {cs : List Int} : ∀ (hp : ∀ c ∈ cs, 1 ≤ c ∧ c ≤ 40) {p : List Int}, p.length = cs.length → (∀ x ∈ p, 0 ≤ x ∧ x ≤ 3) → 0 ≤ dot cs p ∧ dot cs p ≤ 120 * cs.length := by
  induction cs with
  | nil => intro hp p hl _; cases p <;> simp [dot]
  | cons c cs ih =>
    intro hp p hl hx
    cases p with
    | nil => simp at hl
    | cons x p =>
      have h1 := ih (fun c h => hp c (by simp [h])) (p := p) (by simpa using hl) (fun y hy => hx y (by simp [hy]))
      have h2 := hp c (by simp)
      have h3 := hx x (by simp)
      have h4 := Int.mul_nonneg h3.1 (show 0 ≤ c by omega)
      have h5 : x * c ≤ 3 * 40 := Int.mul_le_mul h3.2 h2.2 (by omega) (by omega)
      simp only [dot, List.length_cons]
      omega
/-- What the checks say of a payment and its tail. -/
theorem proved_end {cs l : List Int} (hv : Vld cs) (hll : l.length = cs.length) (hlx : ∀ x ∈ l, 0 ≤ x ∧ x ≤ 3) {s : Int} (s0 : 0 ≤ s) :
    (200 < s → provS cs s l = 1 ∧ provS cs s (l.drop 1) = 1) ∧ (s ≤ 200 → provS cs s (l.drop 1) = 5 ∧ provS cs s l = if dot cs l ≠ s then 17 else if (gr cs s).2.1 ≤ tot l then 14 else 0) := by
  have hp := hv.pos
  constructor
  · intro h
    have : smd cs s = 1 := by unfold smd; rw [if_pos (vld_chk hv), if_pos (.inr h)]
    unfold provS
    rw [this]
    exact ⟨rfl, rfl⟩
  · intro h
    have hsm := smd_ok hv s0 h
    have hc : cnt cs l = 0 := by
      unfold cnt
      rw [if_neg (by simpa using hll), if_pos (fun x hx => by have := hlx x hx; omega)]
    have hc2 : cnt cs (l.drop 1) = 5 := by
      unfold cnt
      rw [if_pos (by simp; omega)]
    have h1 : ¬ smd cs s ≠ 0 := by simpa using hsm
    refine ⟨?_, ?_⟩
    · unfold provS
      rw [if_neg h1, hc2]
      rfl
    · unfold provS
      rw [if_neg h1, if_neg (by simpa using hc)]
theorem proved_loop {cs : List Int} (hv : Vld cs) (sum off : Int) (hs : 0 ≤ sum ∧ sum ≤ 255) (ho : 0 ≤ off ∧ off ≤ 255) (a b c d e f : Int) (hP : ∀ x ∈ [a, b, c, d, e, f], 0 ≤ x ∧ x ≤ 255) : ∀ (m i : Nat) (l : List Int), i ≤ cs.length → cs.length - i < m → l.length = i → (∀ x ∈ l, 0 ≤ x ∧ x ≤ 3) →
    DL15_1 N m sum off (cs.length : Int) (i : Int) a b c d e f cs l = some true
  | 0, i, l, _, h, _, _ => by omega
  | m + 1, i, l, hi, h, hl, hx => by
    have hcl := hv.len
    have hcp := hv.pos
    rw [DL15_1_succ]
    unfold DF15_1
    by_cases hlt : i < cs.length
    · have hi6 : i < [a, b, c, d, e, f].length := by simp; omega
      have hy := hP [a, b, c, d, e, f][i] (List.getElem_mem _)
      rw [decide_eq_true (show (i : Int) < (cs.length : Int) by omega), cond_true, inB_nat (show i < 6 by omega), cond_true, idx_nat hi6]
      simp only [Option.bind_some]
      rw [show ((4 : Nat) == 0) = false from rfl, cond_false]
      obtain ⟨t1, t2, t3⟩ := tmod_u8 hy (k := 4) (by omega)
      rw [t1, decide_eq_true (show l.length + [[a, b, c, d, e, f][i] % 4].length ≤ lim by simp [lim]; omega), cond_true]
      have ih := proved_loop hv sum off hs ho a b c d e f hP m (i + 1) (l ++ [[a, b, c, d, e, f][i] % 4]) (by omega) (by omega) (by simp [hl]) (fun x hx2 => by
        rcases List.mem_append.1 hx2 with h2 | h2
        · exact hx x h2
        · rw [List.mem_singleton] at h2
          rw [h2]; omega)
      rw [show ((i + 1 : Nat) : Int) = wr .i64 ((i : Int) + 1) by rw [wr_ok (by omega) (by omega)]; omega] at ih
      exact ih
    · rw [decide_eq_false (show ¬ (i : Int) < (cs.length : Int) by omega), cond_false]
      have hll : l.length = cs.length := by omega
      have hwo := worth_eq hN1 hv hll (fun x h => by have := hx x h; omega)
      have hdb := dot_bd hv.rng hll hx
      rw [hwo]
      simp only [Option.bind_some]
      rw [show ((4 : Nat) == 0) = false from rfl, show ((202 : Nat) == 0) = false from rfl]
      simp only [cond_false]
      have hcut : (l.drop (0 + (Int.toNat 1))).take (l.length - (Int.toNat 1)) = l.drop 1 := by
        rw [show (0 + Int.toNat 1) = 1 from rfl, show Int.toNat 1 = 1 from rfl]
        exact List.take_of_length_le (by simp)
      have hbnd : bounds (some 1) none none l.length = true := by simp [bounds]; omega
      obtain ⟨t1, t2, t3⟩ := tmod_u8 hs (k := 202) (by omega)
      rw [hcut, hbnd, t1, works_eq]
      simp only [prov_eq hN1, Option.bind_some, cond_true]
      cases (Int.tmod off 4 == 0) with
      | true =>
        simp only [cond_true]
        generalize sum % 202 = s at t2 t3 ⊢
        have hog := ogreat_eq hN1 hv t2 (by show s < 10000; omega) (by omega)
        by_cases h2 : s > 200
        · obtain ⟨e1, e2⟩ := (proved_end hv hll hx t2).1 h2
          simp only [decide_eq_true h2, e1, e2, cond_true]
          rfl
        · obtain ⟨e2, e1⟩ := (proved_end hv hll hx t2).2 (by omega)
          simp only [decide_eq_false h2, e1, e2, cond_false, hog, Option.bind_some]
          by_cases h3 : dot cs l = s
          · rw [show (dot cs l != s) = false by simp [h3], if_neg (by simpa using h3)]
            by_cases h4 : (gr cs s).2.1 ≤ tot l
            · rw [decide_eq_true (show tot l ≥ (gr cs s).2.1 from h4), if_pos h4]; rfl
            · rw [decide_eq_false (show ¬ tot l ≥ (gr cs s).2.1 from h4), if_neg h4]; rfl
          · rw [show (dot cs l != s) = true by simpa using h3, if_pos h3]; rfl
      | false =>
        simp only [cond_false]
        have h0 : 0 ≤ dot cs l := hdb.1
        have hog := ogreat_eq hN1 hv h0 (by show dot cs l < 10000; omega) (by omega)
        by_cases h2 : dot cs l > 200
        · obtain ⟨e1, e2⟩ := (proved_end hv hll hx h0).1 h2
          simp only [decide_eq_true h2, e1, e2, cond_true]
          rfl
        · obtain ⟨e2, e1⟩ := (proved_end hv hll hx h0).2 (by omega)
          simp only [decide_eq_false h2, e1, e2, cond_false, hog, Option.bind_some, bne_self_eq_false, ne_eq, not_true_eq_false, if_false]
          by_cases h4 : (gr cs (dot cs l)).2.1 ≤ tot l
          · rw [decide_eq_true (show tot l ≥ (gr cs (dot cs l)).2.1 from h4), if_pos h4]; rfl
          · rw [decide_eq_false (show ¬ tot l ≥ (gr cs (dot cs l)).2.1 from h4), if_neg h4]; rfl
theorem proved_ok (xs : pksDen (pks [ShM, ShM, .int .u8, .int .u8])) (h : WfL [ShM, ShM, .int .u8, .int .u8] xs) : ∃ n, S15 n xs.1 xs.2.1 xs.2.2.1 xs.2.2.2.1 = some true := by
  refine ⟨N, ?_⟩
  rw [S15_D N rfl]
  unfold D15
  obtain ⟨cs, g1, hv, g3, g4⟩ := made_eq hN1 (m0 := xs.1) h.1 (many := 6) (most := 20) (by omega) (by omega) (by omega) (by omega)
  rw [g1]
  simp only [Option.bind_some]
  obtain ⟨p1, p2, p3, p4, p5, p6⟩ := h.2.1
  have hl := hv.len
  exact proved_loop hv _ _ (u8_rng h.2.2.1) (u8_rng h.2.2.2.1) _ _ _ _ _ _ (fun x hx => by
    simp only [List.mem_cons, List.not_mem_nil, or_false] at hx
    rcases hx with rfl | rfl | rfl | rfl | rfl | rfl
    · exact u8_rng p1
    · exact u8_rng p2
    · exact u8_rng p3
    · exact u8_rng p4
    · exact u8_rng p5
    · exact u8_rng p6) N.1 0 [] (by omega) (by show cs.length - 0 < 10000; omega) rfl (by simp)
end Go.Proofs.Ytjgmfdgpgdaclaa
