/- Texts of this claim, joined: G7 to Co7. -/
import Derived.KernelRfl
import Derived.Test.YtjgmfdgpgdaclaaProg
import Derived.WalkKit
import Derived.Test.YtjgmfdgpgdaclaaP8
set_option linter.unusedVariables false
set_option linter.unusedSimpArgs false
set_option maxRecDepth 100000
namespace Go.Proofs.Ytjgmfdgpgdaclaa
open Go.Vi
/- headword/headwordlaw12.CoinKozen -/
abbrev R7 := Bool
noncomputable def c7 : Code := bodyOf Try.f7
noncomputable def an7 : Ann := (.s .l (.s .l (.s .l (.s .l (.s (.s .l (.j [3, 4, 5, 59, 60, 63, 64, 65, 66, 69, 70, 71, 78, 89, 90, 93, 94, 95, 98, 99, 100, 101, 102, 103, 106, 107, 108, 109, 110, 111, 112, 113, 114, 115, 118, 119, 120, 121, 122, 125] (.j [3, 4, 5, 27, 28, 29, 59, 60, 63, 64, 65, 66, 69, 70, 71, 78, 89, 90, 93, 94, 95, 98, 99, 100, 101, 102, 103, 106, 107, 108, 109, 110, 111, 112, 113, 114, 115, 118, 119, 120, 121, 122, 125] (.s .l (.s (.j [3, 4, 5, 27, 28, 29, 59, 60, 63, 64, 65, 66, 69, 70, 71, 78, 89, 90, 93, 94, 95, 98, 99, 100, 101, 102, 103, 106, 107, 108, 109, 110, 111, 112, 113, 114, 115, 118, 119, 120, 121, 122, 125] .l .l) (.s (.j [3, 4, 5, 27, 28, 29, 59, 60, 63, 64, 65, 66, 69, 70, 71, 78, 89, 90, 93, 94, 95, 98, 99, 100, 101, 102, 103, 106, 107, 108, 109, 110, 111, 112, 113, 114, 115, 118, 119, 120, 121, 122, 125] (.s .l (.s .l (.s .l (.j [3, 4, 5, 27, 28, 29, 59, 60, 63, 64, 65, 66, 69, 70, 71, 78, 89, 90, 93, 94, 95, 98, 99, 100, 101, 102, 103, 106, 107, 108, 109, 110, 111, 112, 113, 114, 115, 118, 119, 120, 121, 122, 125] .l .l)))) .l) .l))) .l) .l)) (.s .l (.s .l (.s (.s .l (.j [3, 4, 5, 13, 78, 89, 90, 93, 94, 95, 98, 99, 100, 101, 102, 103, 106, 107, 108, 109, 110, 111, 112, 113, 114, 115, 118, 119, 120, 121, 122, 125] .l .l)) (.s (.s .l (.j [3, 4, 5, 13, 89, 90, 93, 94, 95, 98, 99, 100, 101, 102, 103, 106, 107, 108, 109, 110, 111, 112, 113, 114, 115, 118, 119, 120, 121, 122, 125] .l .l)) .l)))))))))
def pk7 : List PK := [.c (.pair (.int .u8) (.pair (.int .u8) (.pair (.int .u8) (.pair (.int .u8) (.pair (.int .u8) (.int .u8))))))]
def rk7 : List RK := [.c .bool 2]
noncomputable def rt7 (st : St) : Option R7 := rtG rk7 st
noncomputable def E7 (n : Nat × Nat) : Env := { T := tab, phi := (consPhi 17 (fun _ => true) (P17 n) (consPhi 20 (fun _ => true) (P20 n) (consPhi 25 (fun _ => true) (P25 n) (consPhi 27 (fun _ => true) (P27 n) (consPhi 29 (fun _ => true) (P29 n) (consPhi 31 (fun _ => true) (P31 n) (consPhi 43 (fun _ => true) (P43 n) (consPhi 44 (fun _ => true) (P44 n) (consPhi 45 (fun _ => true) (P45 n) noPhi))))))))), eff := fun _ => false, fuel := n.1, hold := n.2 }
noncomputable def kq7_1 (n : Nat × Nat) : St → Option R7 := run (E7 n) (cB (cB (cB (cB (cB c7))))) (Ann.snd (Ann.snd (Ann.snd (Ann.snd (Ann.snd an7))))) rt7 (fun _ _ => none) rt7
noncomputable def kc7_2 (n : Nat × Nat) : St → Option R7 := fun s => normC [3, 4, 5, 59, 60, 63, 64, 65, 66, 69, 70, 71, 78, 89, 90, 93, 94, 95, 98, 99, 100, 101, 102, 103, 106, 107, 108, 109, 110, 111, 112, 113, 114, 115, 118, 119, 120, 121, 122, 125] s (kq7_1 n)
noncomputable def xb7_3 (n : Nat × Nat) : Nat → St → Option R7 := fun j s => bif Nat.beq j 0 then normC [3, 4, 5, 59, 60, 63, 64, 65, 66, 69, 70, 71, 78, 89, 90, 93, 94, 95, 98, 99, 100, 101, 102, 103, 106, 107, 108, 109, 110, 111, 112, 113, 114, 115, 118, 119, 120, 121, 122, 125] s (kq7_1 n) else (fun _ _ => none) j s
noncomputable def F7_4 (n : Nat × Nat) : (St → Option R7) → St → Option R7 := fun K s => run (E7 n) (cA (cA (cB (cA (cB (cB (cB (cB c7)))))))) (Ann.fst (Ann.fst (Ann.snd (Ann.fst (Ann.snd (Ann.snd (Ann.snd (Ann.snd an7)))))))) (fun s => normC [3, 4, 5, 27, 28, 29, 59, 60, 63, 64, 65, 66, 69, 70, 71, 78, 89, 90, 93, 94, 95, 98, 99, 100, 101, 102, 103, 106, 107, 108, 109, 110, 111, 112, 113, 114, 115, 118, 119, 120, 121, 122, 125] s K) (xb7_3 n) rt7 s
noncomputable def kq7_5 (n : Nat × Nat) (m1 : Nat) : St → Option R7 := run (E7 n) (cB (cB (cA (cA (cB (cA (cB (cB (cB (cB c7)))))))))) (Ann.snd (Ann.snd (Ann.fst (Ann.fst (Ann.snd (Ann.fst (Ann.snd (Ann.snd (Ann.snd (Ann.snd an7)))))))))) (fun s => normC [3, 4, 5, 27, 28, 29, 59, 60, 63, 64, 65, 66, 69, 70, 71, 78, 89, 90, 93, 94, 95, 98, 99, 100, 101, 102, 103, 106, 107, 108, 109, 110, 111, 112, 113, 114, 115, 118, 119, 120, 121, 122, 125] s (loopN (F7_4 n) m1)) (xb7_3 n) rt7
noncomputable def kc7_6 (n : Nat × Nat) (m1 : Nat) : St → Option R7 := fun s => normC [3, 4, 5, 27, 28, 29, 59, 60, 63, 64, 65, 66, 69, 70, 71, 78, 89, 90, 93, 94, 95, 98, 99, 100, 101, 102, 103, 106, 107, 108, 109, 110, 111, 112, 113, 114, 115, 118, 119, 120, 121, 122, 125] s (kq7_5 n m1)
noncomputable def kq7_7 (n : Nat × Nat) (m1 : Nat) : St → Option R7 := run (E7 n) (cB (cB (cB (cA (cA (cB (cA (cB (cB (cB (cB c7))))))))))) (Ann.snd (Ann.snd (Ann.snd (Ann.fst (Ann.fst (Ann.snd (Ann.fst (Ann.snd (Ann.snd (Ann.snd (Ann.snd an7))))))))))) (fun s => normC [3, 4, 5, 27, 28, 29, 59, 60, 63, 64, 65, 66, 69, 70, 71, 78, 89, 90, 93, 94, 95, 98, 99, 100, 101, 102, 103, 106, 107, 108, 109, 110, 111, 112, 113, 114, 115, 118, 119, 120, 121, 122, 125] s (loopN (F7_4 n) m1)) (xb7_3 n) rt7
noncomputable def kc7_8 (n : Nat × Nat) (m1 : Nat) : St → Option R7 := fun s => normC [3, 4, 5, 27, 28, 29, 59, 60, 63, 64, 65, 66, 69, 70, 71, 78, 89, 90, 93, 94, 95, 98, 99, 100, 101, 102, 103, 106, 107, 108, 109, 110, 111, 112, 113, 114, 115, 118, 119, 120, 121, 122, 125] s (kq7_7 n m1)
noncomputable def xb7_9 (n : Nat × Nat) (m1 : Nat) : Nat → St → Option R7 := fun j s => bif Nat.beq j 1 then normC [3, 4, 5, 27, 28, 29, 59, 60, 63, 64, 65, 66, 69, 70, 71, 78, 89, 90, 93, 94, 95, 98, 99, 100, 101, 102, 103, 106, 107, 108, 109, 110, 111, 112, 113, 114, 115, 118, 119, 120, 121, 122, 125] s (kq7_7 n m1) else (xb7_3 n) j s
noncomputable def kc7_10 (n : Nat × Nat) (m1 : Nat) : St → Option R7 := fun s => normC [3, 4, 5, 27, 28, 29, 59, 60, 63, 64, 65, 66, 69, 70, 71, 78, 89, 90, 93, 94, 95, 98, 99, 100, 101, 102, 103, 106, 107, 108, 109, 110, 111, 112, 113, 114, 115, 118, 119, 120, 121, 122, 125] s (kc7_8 n m1)
noncomputable def kq7_11 (n : Nat × Nat) : St → Option R7 := run (E7 n) (cB (cB (cB (cB (cB (cB (cB (cB c7)))))))) (Ann.snd (Ann.snd (Ann.snd (Ann.snd (Ann.snd (Ann.snd (Ann.snd (Ann.snd an7)))))))) rt7 (fun _ _ => none) rt7
noncomputable def kc7_12 (n : Nat × Nat) : St → Option R7 := fun s => normC [3, 4, 5, 13, 78, 89, 90, 93, 94, 95, 98, 99, 100, 101, 102, 103, 106, 107, 108, 109, 110, 111, 112, 113, 114, 115, 118, 119, 120, 121, 122, 125] s (kq7_11 n)
noncomputable def kq7_13 (n : Nat × Nat) : St → Option R7 := run (E7 n) (cB (cB (cB (cB (cB (cB (cB (cB (cB c7))))))))) (Ann.snd (Ann.snd (Ann.snd (Ann.snd (Ann.snd (Ann.snd (Ann.snd (Ann.snd (Ann.snd an7))))))))) rt7 (fun _ _ => none) rt7
noncomputable def kc7_14 (n : Nat × Nat) : St → Option R7 := fun s => normC [3, 4, 5, 13, 89, 90, 93, 94, 95, 98, 99, 100, 101, 102, 103, 106, 107, 108, 109, 110, 111, 112, 113, 114, 115, 118, 119, 120, 121, 122, 125] s (kq7_13 n)
noncomputable def L7_1 (n : Nat × Nat) (m : Nat) (top4 : Int) (first5 : Int) (v28 : Int) (v29 : Int) (coins3 : List Int) (v27 : List Int) : Option R7 := loopN (F7_4 n) m { tm := [uu, uu, uu, .own 3 none false, .c (.int .i64 top4), .c (.int .i64 first5), uu, uu, uu, uu, uu, uu, uu, uu, uu, uu, uu, uu, uu, uu, uu, uu, uu, uu, uu, uu, uu, .own 27 none false, .c (.int .i64 v28), .c (.int .i64 v29), uu, uu, uu, uu, uu, uu, uu, uu, uu, uu, uu, uu, uu, uu, uu, uu, uu, uu, uu, uu, uu, uu, uu, uu, uu, uu, uu, uu, uu, uu, uu, uu, uu, uu, uu, uu, uu, uu, uu, uu, uu, uu, uu, uu, uu, uu, uu, uu, uu, uu, uu, uu, uu, uu, uu, uu, uu, uu, uu, uu, uu, uu, uu, uu, uu, uu, uu, uu, uu, uu, uu, uu, uu, uu, uu, uu, uu, uu, uu, uu, uu, uu, uu, uu, uu, uu, uu, uu, uu, uu, uu, uu, uu, uu, uu, uu, uu], hp := (upd (upd emp 27 (.arr (.int .i64) v27 false)) 3 (.arr (.int .i64) coins3 false)) }
theorem L7_1_eq (n : Nat × Nat) (m1 : Nat) (top4 : Int) (first5 : Int) (v28 : Int) (v29 : Int) (coins3 : List Int) (v27 : List Int) : L7_1 n (m1 + 1) top4 first5 v28 v29 coins3 v27 =
    (bif decide (v29 < v28) then (bif inB v29 v27.length then (idx v27 v29).bind fun x4' =>
        (S45 n coins3 v29).bind fun r5' =>
        (bif decide (r5'.2 > x4') then (S27 n coins3).bind fun r6' =>
          (S29 n coins3).bind fun r7' =>
          (S25 n coins3).bind fun r8' =>
          ((bif ((r8' != 0) == false) then some (r6'.2 != 0)
            else some true)).bind fun b9' =>
          ((bif (b9' == false) then some (r6'.1 != (v29 == 0))
            else some true)).bind fun b10' =>
          ((bif (b10' == false) then some (r7'.1 != v29)
            else some true)).bind fun b11' =>
          (bif b11' then some false
          else (bif (v29 == 0) then ((bif ((r7'.2 == 13) == true) then (S17 n).bind fun r12' =>
                  some r12'
                else some false)).bind fun b13' =>
              some b13'
            else (S20 n coins3 v29).bind fun r14' =>
              ((bif ((r7'.2 == 0) == true) then some (r14'.2 == 0)
                else some false)).bind fun b15' =>
              ((bif (b15' == true) then some (decide ((coins3.length : Int) > 2))
                else some false)).bind fun b16' =>
              ((bif (b16' == true) then (bif inB 2 coins3.length then (idx coins3 2).bind fun x17' =>
                    some (decide (v29 > wr .i64 (x17' + 1)))
                  else none)
                else some false)).bind fun b18' =>
              ((bif (b18' == true) then (bif inB (wr .i64 ((coins3.length : Int) - 2)) coins3.length then (idx coins3 (wr .i64 ((coins3.length : Int) - 2))).bind fun x19' =>
                    some (decide (v29 < wr .i64 (top4 + x19')))
                  else none)
                else some false)).bind fun b20' =>
              ((bif (b20' == true) then (S31 n coins3 v29 r14'.1).bind fun r21' =>
                  some (r21' == 0)
                else some false)).bind fun b22' =>
              ((bif (b22' == true) then (S17 n).bind fun r23' =>
                  some r23'
                else some false)).bind fun b24' =>
              some b24'))
        else L7_1 n m1 top4 first5 v28 (wr .i64 (v29 + 1)) coins3 v27)
      else none)
    else (S27 n coins3).bind fun r25' =>
      (S29 n coins3).bind fun r26' =>
      (S25 n coins3).bind fun r27' =>
      ((bif ((r27' != 0) == false) then some (r25'.2 != 0)
        else some true)).bind fun b28' =>
      ((bif (b28' == false) then some (r25'.1 != (first5 == 0))
        else some true)).bind fun b29' =>
      ((bif (b29' == false) then some (r26'.1 != first5)
        else some true)).bind fun b30' =>
      (bif b30' then some false
      else (bif (first5 == 0) then ((bif ((r26'.2 == 13) == true) then (S17 n).bind fun r31' =>
              some r31'
            else some false)).bind fun b32' =>
          some b32'
        else (S20 n coins3 first5).bind fun r33' =>
          ((bif ((r26'.2 == 0) == true) then some (r33'.2 == 0)
            else some false)).bind fun b34' =>
          ((bif (b34' == true) then some (decide ((coins3.length : Int) > 2))
            else some false)).bind fun b35' =>
          ((bif (b35' == true) then (bif inB 2 coins3.length then (idx coins3 2).bind fun x36' =>
                some (decide (first5 > wr .i64 (x36' + 1)))
              else none)
            else some false)).bind fun b37' =>
          ((bif (b37' == true) then (bif inB (wr .i64 ((coins3.length : Int) - 2)) coins3.length then (idx coins3 (wr .i64 ((coins3.length : Int) - 2))).bind fun x38' =>
                some (decide (first5 < wr .i64 (top4 + x38')))
              else none)
            else some false)).bind fun b39' =>
          ((bif (b39' == true) then (S31 n coins3 first5 r33'.1).bind fun r40' =>
              some (r40' == 0)
            else some false)).bind fun b41' =>
          ((bif (b41' == true) then (S17 n).bind fun r42' =>
              some r42'
            else some false)).bind fun b43' =>
          some b43'))) := by kernel_rfl
noncomputable def S7 (n : Nat × Nat) (m0 : Int × Int × Int × Int × Int × Int) : Option R7 := run (E7 n) c7 an7 rt7 (fun _ _ => none) rt7 { tm := [.agg [.int .u8 m0.1, .int .u8 m0.2.1, .int .u8 m0.2.2.1, .int .u8 m0.2.2.2.1, .int .u8 m0.2.2.2.2.1, .int .u8 m0.2.2.2.2.2], uu, uu, uu, uu, uu, uu, uu, uu, uu, uu, uu, uu, uu, uu, uu, uu, uu, uu, uu, uu, uu, uu, uu, uu, uu, uu, uu, uu, uu, uu, uu, uu, uu, uu, uu, uu, uu, uu, uu, uu, uu, uu, uu, uu, uu, uu, uu, uu, uu, uu, uu, uu, uu, uu, uu, uu, uu, uu, uu, uu, uu, uu, uu, uu, uu, uu, uu, uu, uu, uu, uu, uu, uu, uu, uu, uu, uu, uu, uu, uu, uu, uu, uu, uu, uu, uu, uu, uu, uu, uu, uu, uu, uu, uu, uu, uu, uu, uu, uu, uu, uu, uu, uu, uu, uu, uu, uu, uu, uu, uu, uu, uu, uu, uu, uu, uu, uu, uu, uu, uu, uu, uu, uu, uu, uu, uu], hp := emp }
theorem S7_eq (n : Nat × Nat) (m0 : Int × Int × Int × Int × Int × Int) : S7 n m0 =
    (S43 n m0 6 40).bind fun r1' =>
    (bif inB (wr .i64 ((r1'.length : Int) - 1)) r1'.length then (idx r1' (wr .i64 ((r1'.length : Int) - 1))).bind fun x2' =>
      (S44 n r1' (wr .i64 (5 * x2'))).bind fun r3' =>
      L7_1 n n.1 x2' 0 (r3'.length : Int) 0 r1' r3'
    else none) := by kernel_rfl
theorem S7_run (n : Nat × Nat) (xs : pksDen pk7) : S7 n xs.1 = runG (E7 n) noScope c7 an7 (rtG rk7) (fun _ _ => none) (rtG rk7) (st0 pk7 xs Try.f7.ntmps) := by kernel_rfl
noncomputable def P7 (n : Nat × Nat) := phiOf pk7 rk7 (fun xs => S7 n xs.1)
theorem call7 : CallOK Try.prog 7 := callOK_of Try.func7 (by kernel_rfl) (by kernel_rfl)
theorem env7 (n : Nat × Nat) : EnvOK Try.prog (E7 n) := envOK0 (consPhi_ok (FC17 n) call17 (consPhi_ok (FC20 n) call20 (consPhi_ok (FC25 n) call25 (consPhi_ok (FC27 n) call27 (consPhi_ok (FC29 n) call29 (consPhi_ok (FC31 n) call31 (consPhi_ok (FC43 n) call43 (consPhi_ok (FC44 n) call44 (consPhi_ok (FC45 n) call45 noPhi_ok))))))))) rfl rfl
theorem par7 (n : Nat × Nat) : EnvPar (E7 n) := envPar0 (consPhi_par phiOf_Par1 (consPhi_par phiOf_Par1 (consPhi_par phiOf_Par1 (consPhi_par phiOf_Par1 (consPhi_par phiOf_Par1 (consPhi_par phiOf_Par1 (consPhi_par phiOf_Par1 (consPhi_par phiOf_Par1 (consPhi_par phiOf_Par1 noPhi_par))))))))) rfl
theorem FC7 (n : Nat × Nat) : FCs Try.prog 7 (P7 n) := phiOf_FCs fun xs r h vs hv => FC.of_runG tabOK eqsOK (env7 n) (par7 n) mixed (fun _ => noScope_ok) Try.func7 (c := c7) (an := an7) (pks := pk7) (rks := rk7) (by kernel_rfl) (by kernel_rfl) hv ((S7_run n xs).symm.trans h)
end Go.Proofs.Ytjgmfdgpgdaclaa
set_option linter.unusedVariables false
set_option linter.unusedSimpArgs false
set_option maxRecDepth 100000
namespace Go.Proofs.Ytjgmfdgpgdaclaa
open Go.Vi
/-D 7 -/
noncomputable def DF7_1 (n : Nat × Nat) (f1 : Int → Int → Int → Int → List Int → List Int → Option R7) (top4 : Int) (first5 : Int) (v28 : Int) (v29 : Int) (coins3 : List Int) (v27 : List Int) : Option R7 :=
    (bif decide (v29 < v28) then (bif inB v29 v27.length then (idx v27 v29).bind fun x4' =>
        (D45 n coins3 v29).bind fun r5' =>
        (bif decide (r5'.2 > x4') then (D27 n coins3).bind fun r6' =>
          (D29 n coins3).bind fun r7' =>
          (D25 n coins3).bind fun r8' =>
          ((bif ((r8' != 0) == false) then some (r6'.2 != 0)
            else some true)).bind fun b9' =>
          ((bif (b9' == false) then some (r6'.1 != (v29 == 0))
            else some true)).bind fun b10' =>
          ((bif (b10' == false) then some (r7'.1 != v29)
            else some true)).bind fun b11' =>
          (bif b11' then some false
          else (bif (v29 == 0) then ((bif ((r7'.2 == 13) == true) then (D17 n).bind fun r12' =>
                  some r12'
                else some false)).bind fun b13' =>
              some b13'
            else (D20 n coins3 v29).bind fun r14' =>
              ((bif ((r7'.2 == 0) == true) then some (r14'.2 == 0)
                else some false)).bind fun b15' =>
              ((bif (b15' == true) then some (decide ((coins3.length : Int) > 2))
                else some false)).bind fun b16' =>
              ((bif (b16' == true) then (bif inB 2 coins3.length then (idx coins3 2).bind fun x17' =>
                    some (decide (v29 > wr .i64 (x17' + 1)))
                  else none)
                else some false)).bind fun b18' =>
              ((bif (b18' == true) then (bif inB (wr .i64 ((coins3.length : Int) - 2)) coins3.length then (idx coins3 (wr .i64 ((coins3.length : Int) - 2))).bind fun x19' =>
                    some (decide (v29 < wr .i64 (top4 + x19')))
                  else none)
                else some false)).bind fun b20' =>
              ((bif (b20' == true) then (D31 n coins3 v29 r14'.1).bind fun r21' =>
                  some (r21' == 0)
                else some false)).bind fun b22' =>
              ((bif (b22' == true) then (D17 n).bind fun r23' =>
                  some r23'
                else some false)).bind fun b24' =>
              some b24'))
        else f1 top4 first5 v28 (wr .i64 (v29 + 1)) coins3 v27)
      else none)
    else (D27 n coins3).bind fun r25' =>
      (D29 n coins3).bind fun r26' =>
      (D25 n coins3).bind fun r27' =>
      ((bif ((r27' != 0) == false) then some (r25'.2 != 0)
        else some true)).bind fun b28' =>
      ((bif (b28' == false) then some (r25'.1 != (first5 == 0))
        else some true)).bind fun b29' =>
      ((bif (b29' == false) then some (r26'.1 != first5)
        else some true)).bind fun b30' =>
      (bif b30' then some false
      else (bif (first5 == 0) then ((bif ((r26'.2 == 13) == true) then (D17 n).bind fun r31' =>
              some r31'
            else some false)).bind fun b32' =>
          some b32'
        else (D20 n coins3 first5).bind fun r33' =>
          ((bif ((r26'.2 == 0) == true) then some (r33'.2 == 0)
            else some false)).bind fun b34' =>
          ((bif (b34' == true) then some (decide ((coins3.length : Int) > 2))
            else some false)).bind fun b35' =>
          ((bif (b35' == true) then (bif inB 2 coins3.length then (idx coins3 2).bind fun x36' =>
                some (decide (first5 > wr .i64 (x36' + 1)))
              else none)
            else some false)).bind fun b37' =>
          ((bif (b37' == true) then (bif inB (wr .i64 ((coins3.length : Int) - 2)) coins3.length then (idx coins3 (wr .i64 ((coins3.length : Int) - 2))).bind fun x38' =>
                some (decide (first5 < wr .i64 (top4 + x38')))
              else none)
            else some false)).bind fun b39' =>
          ((bif (b39' == true) then (D31 n coins3 first5 r33'.1).bind fun r40' =>
              some (r40' == 0)
            else some false)).bind fun b41' =>
          ((bif (b41' == true) then (D17 n).bind fun r42' =>
              some r42'
            else some false)).bind fun b43' =>
          some b43')))
noncomputable def DL7_1 (n : Nat × Nat) (m : Nat) : Int → Int → Int → Int → List Int → List Int → Option R7 := Nat.rec (motive := fun _ => Int → Int → Int → Int → List Int → List Int → Option R7) (fun _ _ _ _ _ _ => none) (fun _ ih => DF7_1 n ih) m
theorem DL7_1_succ (n : Nat × Nat) (m : Nat) : DL7_1 n (m + 1) = DF7_1 n (DL7_1 n m) := rfl
theorem DL7_1_eq (n : Nat × Nat) (hn : n.2 = 1) : ∀ m, L7_1 n m = DL7_1 n m
  | 0 => by funext top4 first5 v28 v29 coins3 v27; kernel_rfl
  | m + 1 => by
    have ih := DL7_1_eq n hn m
    funext top4 first5 v28 v29 coins3 v27; refine (L7_1_eq n m top4 first5 v28 v29 coins3 v27).trans ?_
    rw [DL7_1_succ]
    unfold DF7_1
    (try simp only [ih, S17_D n hn, S20_D n hn, S25_D n hn, S27_D n hn, S29_D n hn, S31_D n hn, S43_D n hn, S44_D n hn, S45_D n hn]) <;> first | with_reducible rfl | rfl
noncomputable def D7 (n : Nat × Nat) (m0 : Int × Int × Int × Int × Int × Int) : Option R7 :=
    (D43 n m0 6 40).bind fun r1' =>
    (bif inB (wr .i64 ((r1'.length : Int) - 1)) r1'.length then (idx r1' (wr .i64 ((r1'.length : Int) - 1))).bind fun x2' =>
      (D44 n r1' (wr .i64 (5 * x2'))).bind fun r3' =>
      DL7_1 n n.1 x2' 0 (r3'.length : Int) 0 r1' r3'
    else none)
theorem S7_D (n : Nat × Nat) (hn : n.2 = 1) : S7 n = D7 n := by
  funext m0; refine (S7_eq n m0).trans ?_
  unfold D7
  (try simp only [DL7_1_eq n hn, S17_D n hn, S20_D n hn, S25_D n hn, S27_D n hn, S29_D n hn, S31_D n hn, S43_D n hn, S44_D n hn, S45_D n hn]) <;> first | with_reducible rfl | rfl
end Go.Proofs.Ytjgmfdgpgdaclaa
/-
  Coins: the law CoinKozen.
-/
set_option linter.unusedVariables false
set_option linter.unusedSimpArgs false
namespace Go.Proofs.Ytjgmfdgpgdaclaa
open Go.Vi
theorem PayU.dot : ∀ {cs : List Int} {s : Int} {p : List Int}, PayU cs s p → Ytjgmfdgpgdaclaa.dot cs p = s
  | [], s, p, h => by rw [h.2, h.1]; rfl
  | c :: cs, s, p, ⟨n, p', h1, h2, h4⟩ => by
    rw [h1]
    simp only [Ytjgmfdgpgdaclaa.dot]
    rw [h4.dot]
    omega
theorem PayU.mem {cs : List Int} : ∀ (hp : ∀ c ∈ cs, 1 ≤ c) {s : Int} {p : List Int}, PayU cs s p → ∀ x ∈ p, 0 ≤ x ∧ x ≤ tot p := by
  induction cs with
  | nil => intro hp s p h x hx; rw [h.2] at hx; cases hx
  | cons c cs ih =>
    intro hp s p ⟨n, p', h1, h2, h4⟩ x hx
    have h5 := (PayU.sum (fun c h => hp c (by simp [h])) h4).1
    rw [h1] at hx ⊢
    simp only [tot]
    rcases List.mem_cons.1 hx with rfl | hx
    · omega
    · have := ih (fun c h => hp c (by simp [h])) h4 x hx
      omega
theorem pay_cnt {cs : List Int} (hv : Vld cs) {s : Int} {p : List Int} (h : PayU cs s p) (hs : s ≤ 200) : cnt cs p = 0 := by
  unfold cnt
  rw [if_neg (by simpa using h.length), if_pos]
  intro x hx
  have h1 := h.mem hv.mnt.pos x hx
  have h2 := PayU.sum hv.mnt.pos h
  omega
theorem kozen_loop {cs : List Int} (hv : Vld cs) (T M : Nat) (hT : (T : Int) = lastC cs) (hM : M ≤ 249) (hb : fbad cs ≤ M) : ∀ (m k : Nat), k ≤ M + 1 → M + 1 - k < m → (∀ s : Int, 0 ≤ s → s < k → ¬ Bad cs s) → DL7_1 N m (T : Int) 0 ((M + 1 : Nat) : Int) (k : Int) cs (ftab cs M) = some true
  | 0, k, _, hm, _ => by omega
  | m + 1, k, hk, hm, hno => by
    have hl := hv.len
    have hp := hv.pos
    rw [DL7_1_succ]
    unfold DF7_1
    have hgood : goodS cs = (decide (fbad cs = 0), 0) := by unfold goodS; rw [if_pos (vld_chk hv)]
    by_cases hlt : k < M + 1
    · have hkl : k < (ftab cs M).length := by rw [ftab_length]; omega
      rw [decide_eq_true (show (k : Int) < ((M + 1 : Nat) : Int) by omega), cond_true, inB_nat hkl, cond_true, idx_nat hkl, ftab_get]
      simp only [Option.bind_some]
      rw [ogreat_eq hN1 hv (by omega) (by show (k : Int) < 10000; omega) (by omega)]
      simp only [Option.bind_some]
      by_cases hbad : Bad cs k
      · have hb2 : (gr cs (k : Int)).2.1 > opt cs (k : Int) := hbad
        have hf := fbad_is hv.mnt (by omega) hbad hno
        have hk0 : 0 < (k : Int) := by
          by_cases e : k = 0
          · subst e; exact absurd hbad (not_bad_zero hv.mnt)
          · omega
        have hwhy : whyS cs = ((k : Int), 0) := by unfold whyS; rw [if_pos (vld_chk hv), if_neg (by omega), hf]
        obtain ⟨lo1, lo2⟩ := fbad_low hv (by omega)
        have hi := fbad_bound hv (by omega)
        rw [List.getElem?_eq_getElem (by omega), Option.getD_some] at lo2
        rw [List.getElem?_eq_getElem (by omega), Option.getD_some, List.getElem?_eq_getElem (by omega), Option.getD_some] at hi
        have hc2 := hv.rng cs[2] (List.getElem_mem _)
        have hcl := hv.rng cs[cs.length - 1] (List.getElem_mem _)
        have hcl2 := hv.rng cs[cs.length - 2] (List.getElem_mem _)
        have hTl : (T : Int) = cs[cs.length - 1] := by rw [hT, lastC_get hp]
        rw [decide_eq_true hb2, cond_true, good_eq hN1, why_eq hN1, chk_eq hN1, hgood, hwhy, vld_chk hv, works_eq]
        simp only [Option.bind_some, show ((0 : Int) != 0) = false from rfl, show (false == false) = true from rfl, cond_true]
        rw [decide_eq_false (show ¬ fbad cs = 0 by omega), show ((k : Int) == 0) = false by simpa using (show ¬ (k : Int) = 0 by omega)]
        simp only [show (false != false) = false from rfl, show (false == false) = true from rfl, cond_true, Option.bind_some, bne_self_eq_false, cond_false]
        have hsm := smd_ok hv (s := (k : Int)) (by omega) (by omega)
        rcases first_eq hN2 cs (k : Int) with ⟨h9, _⟩ | ⟨_, p, hp1, hp2⟩
        · exact absurd hsm h9
        · rw [hp1]
          simp only [Option.bind_some, show ((0 : Int) == 0) = true from rfl, show (true == true) = true from rfl, cond_true]
          rw [decide_eq_true (show (cs.length : Int) > 2 by omega)]
          simp only [show (true == true) = true from rfl, cond_true]
          rw [show inB 2 cs.length = true from inB_nat (k := 2) (by omega), cond_true, show idx cs 2 = some cs[2] from idx_int (k := 2) rfl (by omega)]
          simp only [Option.bind_some]
          rw [wr_ok (x := cs[2] + 1) (by omega) (by omega), decide_eq_true (show (k : Int) > cs[2] + 1 by omega)]
          simp only [show (true == true) = true from rfl, cond_true]
          have hw2 : wr .i64 ((cs.length : Int) - 2) = ((cs.length - 2 : Nat) : Int) := by rw [wr_ok (by omega) (by omega)]; omega
          rw [hw2, inB_nat (show cs.length - 2 < cs.length by omega), cond_true, idx_nat (show cs.length - 2 < cs.length by omega)]
          simp only [Option.bind_some]
          rw [wr_ok (x := (T : Int) + cs[cs.length - 2]) (by omega) (by omega), decide_eq_true (show (k : Int) < (T : Int) + cs[cs.length - 2] by omega)]
          simp only [show (true == true) = true from rfl, cond_true]
          have hto := hp2.opt hv.mnt (by omega)
          have hpv : provS cs (k : Int) p = 0 := by
            unfold provS
            rw [if_neg (by simpa using hsm), if_neg (by simpa using pay_cnt hv hp2.1 (by omega)), if_neg (by simpa using hp2.1.dot), if_neg (by omega)]
          rw [prov_eq hN1, hpv]
          rfl
      · have hb2 : ¬ (gr cs (k : Int)).2.1 > opt cs (k : Int) := hbad
        rw [decide_eq_false hb2, cond_false]
        have ih := kozen_loop hv T M hT hM hb m (k + 1) (by omega) (by omega) (fun s hs hlt => by
          by_cases e : s = k
          · subst e; exact hbad
          · exact hno s hs (by omega))
        rw [show ((k + 1 : Nat) : Int) = wr .i64 ((k : Int) + 1) by rw [wr_ok (by omega) (by omega)]; omega] at ih
        exact ih
    · rw [decide_eq_false (show ¬ (k : Int) < ((M + 1 : Nat) : Int) by omega), cond_false]
      have hf : fbad cs = 0 := by
        rcases fbad_spec hv.mnt with ⟨e, _⟩ | ⟨h1, h2, _⟩
        · exact e
        · exact absurd h2 (hno _ (by omega) (by omega))
      have hwhy : whyS cs = (0, 13) := by unfold whyS; rw [if_pos (vld_chk hv), if_pos hf]
      rw [good_eq hN1, why_eq hN1, chk_eq hN1, hgood, hwhy, vld_chk hv, works_eq, hf]
      rfl
theorem kozen_ok (xs : pksDen (pks [ShM])) (h : WfL [ShM] xs) : ∃ n, S7 n xs.1 = some true := by
  refine ⟨N, ?_⟩
  rw [S7_D N rfl]
  unfold D7
  obtain ⟨cs, g1, hv, g3, g4⟩ := made_eq hN1 (m0 := xs.1) h.1 (many := 6) (most := 40) (by omega) (by omega) (by omega) (by omega)
  rw [g1]
  simp only [Option.bind_some]
  have hl := hv.len
  have hp := hv.pos
  rw [inB_last hp (by omega), cond_true, idx_last hp (by omega)]
  simp only [Option.bind_some]
  have hd := lastC_rng hv
  have ht := fbad_top hv
  obtain ⟨T, hT⟩ := Int.eq_ofNat_of_zero_le (show 0 ≤ lastC cs by omega)
  have hTc : (T : Int) = lastC cs := hT.symm
  have ht2 : fbad cs ≤ 2 * lastC cs := ht
  rw [hT] at hd ht2 ⊢
  rw [show wr .i64 (5 * (T : Int)) = ((5 * T : Nat) : Int) by rw [wr_ok (by omega) (by omega)]; omega, ofew_eq hv (5 * T) (by omega)]
  simp only [Option.bind_some]
  rw [ftab_length]
  exact kozen_loop hv T (5 * T) hTc (by omega) (by omega) N.1 0 (by omega) (by show 5 * T + 1 - 0 < 10000; omega) (fun s h1 h2 => by omega)
end Go.Proofs.Ytjgmfdgpgdaclaa
