/- Texts of this claim, joined: G10 to Co10. -/
import Derived.KernelRfl
import Derived.Test.YtjgmfdgpgdaclaaProg
import Derived.WalkKit
import Derived.Test.YtjgmfdgpgdaclaaP8
set_option linter.unusedVariables false
set_option linter.unusedSimpArgs false
set_option maxRecDepth 100000
namespace Go.Proofs.Ytjgmfdgpgdaclaa
open Go.Vi
/- headword/headwordlaw12.CoinWays -/
abbrev R10 := Bool
noncomputable def c10 : Code := bodyOf Try.f10
noncomputable def an10 : Ann := (.s .l (.s .l (.s .l (.s .l (.s .l (.s .l (.s .l (.s (.s .l (.j [7, 8, 9, 10, 11, 105, 106, 109, 110, 113, 114, 117, 118, 119, 120, 121, 122, 125, 126, 127, 130, 131, 157, 158, 161, 162, 163, 164, 165, 168] (.j [7, 8, 9, 10, 11, 53, 54, 55, 105, 106, 109, 110, 113, 114, 117, 118, 119, 120, 121, 122, 125, 126, 127, 130, 131, 157, 158, 161, 162, 163, 164, 165, 168] (.s .l (.s (.j [7, 8, 9, 10, 11, 53, 54, 55, 105, 106, 109, 110, 113, 114, 117, 118, 119, 120, 121, 122, 125, 126, 127, 130, 131, 157, 158, 161, 162, 163, 164, 165, 168] .l .l) (.s (.j [7, 8, 9, 10, 11, 53, 54, 55, 105, 106, 109, 110, 113, 114, 117, 118, 119, 120, 121, 122, 125, 126, 127, 130, 131, 157, 158, 161, 162, 163, 164, 165, 168] (.s .l (.s .l (.j [7, 8, 9, 10, 11, 53, 54, 55, 105, 106, 109, 110, 113, 114, 117, 118, 119, 120, 121, 122, 125, 126, 127, 130, 131, 157, 158, 161, 162, 163, 164, 165, 168] (.j [7, 8, 9, 10, 11, 13, 14, 53, 54, 55, 105, 106, 109, 110, 113, 114, 117, 118, 119, 120, 121, 122, 125, 126, 127, 130, 131, 157, 158, 161, 162, 163, 164, 165, 168] (.s (.s .l (.j [7, 8, 9, 10, 11, 13, 14, 53, 54, 55, 105, 106, 109, 110, 113, 114, 117, 118, 119, 120, 121, 122, 125, 126, 127, 130, 131, 157, 158, 161, 162, 163, 164, 165, 168] .l .l)) (.s (.j [7, 8, 9, 10, 11, 13, 14, 53, 54, 55, 105, 106, 109, 110, 113, 114, 117, 118, 119, 120, 121, 122, 125, 126, 127, 130, 131, 157, 158, 161, 162, 163, 164, 165, 168] .l .l) .l)) .l) .l))) .l) .l))) .l) .l)) (.s .l (.s .l (.s .l (.s .l (.s (.s .l (.j [8, 9, 10, 15, 17, 157, 158, 161, 162, 163, 164, 165, 168] .l .l)) (.s .l (.s (.s .l (.j [8, 15, 17, 23, 157, 158, 161, 162, 163, 164, 165, 168] (.s .l (.s (.s .l (.j [8, 15, 17, 24, 157, 158, 161, 162, 163, 164, 165, 168] .l .l)) .l)) .l)) .l)))))))))))))))
def pk10 : List PK := [.c (.pair (.int .u8) (.pair (.int .u8) (.pair (.int .u8) (.pair (.int .u8) (.pair (.int .u8) (.int .u8)))))), .c (.int .u8), .c (.int .u8)]
def rk10 : List RK := [.c .bool 6]
noncomputable def rt10 (st : St) : Option R10 := rtG rk10 st
noncomputable def E10 (n : Nat × Nat) : Env := { T := tab, phi := (consPhi 17 (fun _ => true) (P17 n) (consPhi 18 (fun _ => true) (P18 n) (consPhi 37 (fun _ => true) (P37 n) (consPhi 43 (fun _ => true) (P43 n) (consPhi 46 (fun _ => true) (P46 n) noPhi))))), eff := fun _ => false, fuel := n.1, hold := n.2 }
noncomputable def kq10_1 (n : Nat × Nat) : St → Option R10 := run (E10 n) (cB (cB (cB (cB (cB (cB (cB (cB c10)))))))) (Ann.snd (Ann.snd (Ann.snd (Ann.snd (Ann.snd (Ann.snd (Ann.snd (Ann.snd an10)))))))) rt10 (fun _ _ => none) rt10
noncomputable def kc10_2 (n : Nat × Nat) : St → Option R10 := fun s => normC [7, 8, 9, 10, 11, 105, 106, 109, 110, 113, 114, 117, 118, 119, 120, 121, 122, 125, 126, 127, 130, 131, 157, 158, 161, 162, 163, 164, 165, 168] s (kq10_1 n)
noncomputable def xb10_3 (n : Nat × Nat) : Nat → St → Option R10 := fun j s => bif Nat.beq j 0 then normC [7, 8, 9, 10, 11, 105, 106, 109, 110, 113, 114, 117, 118, 119, 120, 121, 122, 125, 126, 127, 130, 131, 157, 158, 161, 162, 163, 164, 165, 168] s (kq10_1 n) else (fun _ _ => none) j s
noncomputable def F10_4 (n : Nat × Nat) : (St → Option R10) → St → Option R10 := fun K s => run (E10 n) (cA (cA (cB (cA (cB (cB (cB (cB (cB (cB (cB c10))))))))))) (Ann.fst (Ann.fst (Ann.snd (Ann.fst (Ann.snd (Ann.snd (Ann.snd (Ann.snd (Ann.snd (Ann.snd (Ann.snd an10))))))))))) (fun s => normC [7, 8, 9, 10, 11, 53, 54, 55, 105, 106, 109, 110, 113, 114, 117, 118, 119, 120, 121, 122, 125, 126, 127, 130, 131, 157, 158, 161, 162, 163, 164, 165, 168] s K) (xb10_3 n) rt10 s
noncomputable def kq10_5 (n : Nat × Nat) (m1 : Nat) : St → Option R10 := run (E10 n) (cB (cB (cA (cA (cB (cA (cB (cB (cB (cB (cB (cB (cB c10))))))))))))) (Ann.snd (Ann.snd (Ann.fst (Ann.fst (Ann.snd (Ann.fst (Ann.snd (Ann.snd (Ann.snd (Ann.snd (Ann.snd (Ann.snd (Ann.snd an10))))))))))))) (fun s => normC [7, 8, 9, 10, 11, 53, 54, 55, 105, 106, 109, 110, 113, 114, 117, 118, 119, 120, 121, 122, 125, 126, 127, 130, 131, 157, 158, 161, 162, 163, 164, 165, 168] s (loopN (F10_4 n) m1)) (xb10_3 n) rt10
noncomputable def kc10_6 (n : Nat × Nat) (m1 : Nat) : St → Option R10 := fun s => normC [7, 8, 9, 10, 11, 53, 54, 55, 105, 106, 109, 110, 113, 114, 117, 118, 119, 120, 121, 122, 125, 126, 127, 130, 131, 157, 158, 161, 162, 163, 164, 165, 168] s (kq10_5 n m1)
noncomputable def kq10_7 (n : Nat × Nat) (m1 : Nat) : St → Option R10 := run (E10 n) (cB (cB (cB (cA (cA (cB (cA (cB (cB (cB (cB (cB (cB (cB c10)))))))))))))) (Ann.snd (Ann.snd (Ann.snd (Ann.fst (Ann.fst (Ann.snd (Ann.fst (Ann.snd (Ann.snd (Ann.snd (Ann.snd (Ann.snd (Ann.snd (Ann.snd an10)))))))))))))) (fun s => normC [7, 8, 9, 10, 11, 53, 54, 55, 105, 106, 109, 110, 113, 114, 117, 118, 119, 120, 121, 122, 125, 126, 127, 130, 131, 157, 158, 161, 162, 163, 164, 165, 168] s (loopN (F10_4 n) m1)) (xb10_3 n) rt10
noncomputable def kc10_8 (n : Nat × Nat) (m1 : Nat) : St → Option R10 := fun s => normC [7, 8, 9, 10, 11, 53, 54, 55, 105, 106, 109, 110, 113, 114, 117, 118, 119, 120, 121, 122, 125, 126, 127, 130, 131, 157, 158, 161, 162, 163, 164, 165, 168] s (kq10_7 n m1)
noncomputable def xb10_9 (n : Nat × Nat) (m1 : Nat) : Nat → St → Option R10 := fun j s => bif Nat.beq j 1 then normC [7, 8, 9, 10, 11, 53, 54, 55, 105, 106, 109, 110, 113, 114, 117, 118, 119, 120, 121, 122, 125, 126, 127, 130, 131, 157, 158, 161, 162, 163, 164, 165, 168] s (kq10_7 n m1) else (xb10_3 n) j s
noncomputable def kc10_10 (n : Nat × Nat) (m1 : Nat) : St → Option R10 := fun s => normC [7, 8, 9, 10, 11, 53, 54, 55, 105, 106, 109, 110, 113, 114, 117, 118, 119, 120, 121, 122, 125, 126, 127, 130, 131, 157, 158, 161, 162, 163, 164, 165, 168] s (kc10_8 n m1)
noncomputable def xb10_11 (n : Nat × Nat) (m1 : Nat) : Nat → St → Option R10 := fun j s => bif Nat.beq j 2 then normC [7, 8, 9, 10, 11, 53, 54, 55, 105, 106, 109, 110, 113, 114, 117, 118, 119, 120, 121, 122, 125, 126, 127, 130, 131, 157, 158, 161, 162, 163, 164, 165, 168] s (kc10_8 n m1) else (xb10_9 n m1) j s
noncomputable def F10_12 (n : Nat × Nat) (m1 : Nat) : (St → Option R10) → St → Option R10 := fun K s => run (E10 n) (cA (cA (cB (cB (cA (cA (cB (cB (cA (cA (cB (cA (cB (cB (cB (cB (cB (cB (cB c10))))))))))))))))))) (Ann.fst (Ann.fst (Ann.snd (Ann.snd (Ann.fst (Ann.fst (Ann.snd (Ann.snd (Ann.fst (Ann.fst (Ann.snd (Ann.fst (Ann.snd (Ann.snd (Ann.snd (Ann.snd (Ann.snd (Ann.snd (Ann.snd an10))))))))))))))))))) (fun s => normC [7, 8, 9, 10, 11, 13, 14, 53, 54, 55, 105, 106, 109, 110, 113, 114, 117, 118, 119, 120, 121, 122, 125, 126, 127, 130, 131, 157, 158, 161, 162, 163, 164, 165, 168] s K) (xb10_11 n m1) rt10 s
noncomputable def kq10_13 (n : Nat × Nat) : St → Option R10 := run (E10 n) (cB (cB (cB (cB (cB (cB (cB (cB (cB (cB (cB (cB (cB c10))))))))))))) (Ann.snd (Ann.snd (Ann.snd (Ann.snd (Ann.snd (Ann.snd (Ann.snd (Ann.snd (Ann.snd (Ann.snd (Ann.snd (Ann.snd (Ann.snd an10))))))))))))) rt10 (fun _ _ => none) rt10
noncomputable def kc10_14 (n : Nat × Nat) : St → Option R10 := fun s => normC [8, 9, 10, 15, 17, 157, 158, 161, 162, 163, 164, 165, 168] s (kq10_13 n)
noncomputable def kq10_15 (n : Nat × Nat) : St → Option R10 := run (E10 n) (cB (cB (cB (cB (cB (cB (cB (cB (cB (cB (cB (cB (cB (cB (cB c10))))))))))))))) (Ann.snd (Ann.snd (Ann.snd (Ann.snd (Ann.snd (Ann.snd (Ann.snd (Ann.snd (Ann.snd (Ann.snd (Ann.snd (Ann.snd (Ann.snd (Ann.snd (Ann.snd an10))))))))))))))) rt10 (fun _ _ => none) rt10
noncomputable def kc10_16 (n : Nat × Nat) : St → Option R10 := fun s => normC [8, 15, 17, 23, 157, 158, 161, 162, 163, 164, 165, 168] s (kq10_15 n)
noncomputable def kq10_17 (n : Nat × Nat) : St → Option R10 := run (E10 n) (cB (cB (cA (cB (cA (cB (cB (cB (cB (cB (cB (cB (cB (cB (cB (cB (cB (cB (cB c10))))))))))))))))))) (Ann.snd (Ann.snd (Ann.fst (Ann.snd (Ann.fst (Ann.snd (Ann.snd (Ann.snd (Ann.snd (Ann.snd (Ann.snd (Ann.snd (Ann.snd (Ann.snd (Ann.snd (Ann.snd (Ann.snd (Ann.snd (Ann.snd an10))))))))))))))))))) (kc10_16 n) (fun _ _ => none) rt10
noncomputable def kc10_18 (n : Nat × Nat) : St → Option R10 := fun s => normC [8, 15, 17, 24, 157, 158, 161, 162, 163, 164, 165, 168] s (kq10_17 n)
noncomputable def kq10_19 (n : Nat × Nat) (m1 m2 : Nat) : St → Option R10 := run (E10 n) (cB (cA (cA (cB (cB (cA (cA (cB (cB (cA (cA (cB (cA (cB (cB (cB (cB (cB (cB (cB c10)))))))))))))))))))) (Ann.snd (Ann.fst (Ann.fst (Ann.snd (Ann.snd (Ann.fst (Ann.fst (Ann.snd (Ann.snd (Ann.fst (Ann.fst (Ann.snd (Ann.fst (Ann.snd (Ann.snd (Ann.snd (Ann.snd (Ann.snd (Ann.snd (Ann.snd an10)))))))))))))))))))) (fun s => normC [7, 8, 9, 10, 11, 13, 14, 53, 54, 55, 105, 106, 109, 110, 113, 114, 117, 118, 119, 120, 121, 122, 125, 126, 127, 130, 131, 157, 158, 161, 162, 163, 164, 165, 168] s (loopN (F10_12 n m1) m2)) (xb10_11 n m1) rt10
noncomputable def kc10_20 (n : Nat × Nat) (m1 m2 : Nat) : St → Option R10 := fun s => normC [7, 8, 9, 10, 11, 13, 14, 53, 54, 55, 105, 106, 109, 110, 113, 114, 117, 118, 119, 120, 121, 122, 125, 126, 127, 130, 131, 157, 158, 161, 162, 163, 164, 165, 168] s (kq10_19 n m1 m2)
noncomputable def kq10_21 (n : Nat × Nat) (m1 m2 : Nat) : St → Option R10 := run (E10 n) (cB (cB (cA (cA (cB (cB (cA (cA (cB (cB (cA (cA (cB (cA (cB (cB (cB (cB (cB (cB (cB c10))))))))))))))))))))) (Ann.snd (Ann.snd (Ann.fst (Ann.fst (Ann.snd (Ann.snd (Ann.fst (Ann.fst (Ann.snd (Ann.snd (Ann.fst (Ann.fst (Ann.snd (Ann.fst (Ann.snd (Ann.snd (Ann.snd (Ann.snd (Ann.snd (Ann.snd (Ann.snd an10))))))))))))))))))))) (fun s => normC [7, 8, 9, 10, 11, 13, 14, 53, 54, 55, 105, 106, 109, 110, 113, 114, 117, 118, 119, 120, 121, 122, 125, 126, 127, 130, 131, 157, 158, 161, 162, 163, 164, 165, 168] s (loopN (F10_12 n m1) m2)) (xb10_11 n m1) rt10
noncomputable def kc10_22 (n : Nat × Nat) (m1 m2 : Nat) : St → Option R10 := fun s => normC [7, 8, 9, 10, 11, 13, 14, 53, 54, 55, 105, 106, 109, 110, 113, 114, 117, 118, 119, 120, 121, 122, 125, 126, 127, 130, 131, 157, 158, 161, 162, 163, 164, 165, 168] s (kq10_21 n m1 m2)
noncomputable def xb10_23 (n : Nat × Nat) (m1 m2 : Nat) : Nat → St → Option R10 := fun j s => bif Nat.beq j 3 then normC [7, 8, 9, 10, 11, 13, 14, 53, 54, 55, 105, 106, 109, 110, 113, 114, 117, 118, 119, 120, 121, 122, 125, 126, 127, 130, 131, 157, 158, 161, 162, 163, 164, 165, 168] s (kq10_21 n m1 m2) else (xb10_11 n m1) j s
noncomputable def L10_1 (n : Nat × Nat) (m : Nat) (s8 : Int) (c9 : Int) (v54 : Int) (v55 : Int) (coins7 : List Int) (more10 : List Int) (ways11 : List Int) : Option R10 := loopN (F10_4 n) m { tm := [uu, uu, uu, uu, uu, uu, uu, .own 7 none false, .c (.int .i64 s8), .c (.int .i64 c9), .own 10 none false, .own 11 none false, uu, uu, uu, uu, uu, uu, uu, uu, uu, uu, uu, uu, uu, uu, uu, uu, uu, uu, uu, uu, uu, uu, uu, uu, uu, uu, uu, uu, uu, uu, uu, uu, uu, uu, uu, uu, uu, uu, uu, uu, uu, .own 7 none false, .c (.int .i64 v54), .c (.int .i64 v55), uu, uu, uu, uu, uu, uu, uu, uu, uu, uu, uu, uu, uu, uu, uu, uu, uu, uu, uu, uu, uu, uu, uu, uu, uu, uu, uu, uu, uu, uu, uu, uu, uu, uu, uu, uu, uu, uu, uu, uu, uu, uu, uu, uu, uu, uu, uu, uu, uu, uu, uu, uu, uu, uu, uu, uu, uu, uu, uu, uu, uu, uu, uu, uu, uu, uu, uu, uu, uu, uu, uu, uu, uu, uu, uu, uu, uu, uu, uu, uu, uu, uu, uu, uu, uu, uu, uu, uu, uu, uu, uu, uu, uu, uu, uu, uu, uu, uu, uu, uu, uu, uu, uu, uu, uu, uu, uu, uu, uu, uu, uu, uu, uu, uu], hp := (upd (upd (upd emp 11 (.arr (.int .i64) ways11 false)) 10 (.arr (.int .i64) more10 false)) 7 (.arr (.int .i64) coins7 false)) }
noncomputable def L10_2 (n : Nat × Nat) (m1 : Nat) (m : Nat) (s8 : Int) (c9 : Int) (c13 : Int) (x14 : Int) (v54 : Int) (v55 : Int) (coins7 : List Int) (more10 : List Int) (ways11 : List Int) : Option R10 := loopN (F10_12 n m1) m { tm := [uu, uu, uu, uu, uu, uu, uu, .own 7 none false, .c (.int .i64 s8), .c (.int .i64 c9), .own 10 none false, .own 11 none false, uu, .c (.int .i64 c13), .c (.int .i64 x14), uu, uu, uu, uu, uu, uu, uu, uu, uu, uu, uu, uu, uu, uu, uu, uu, uu, uu, uu, uu, uu, uu, uu, uu, uu, uu, uu, uu, uu, uu, uu, uu, uu, uu, uu, uu, uu, uu, .own 7 none false, .c (.int .i64 v54), .c (.int .i64 v55), uu, uu, uu, uu, uu, uu, uu, uu, uu, uu, uu, uu, uu, uu, uu, uu, uu, uu, uu, uu, uu, uu, uu, uu, uu, uu, uu, uu, uu, uu, uu, uu, uu, uu, uu, uu, uu, uu, uu, uu, uu, uu, uu, uu, uu, uu, uu, uu, uu, uu, uu, uu, uu, uu, uu, uu, uu, uu, uu, uu, uu, uu, uu, uu, uu, uu, uu, uu, uu, uu, uu, uu, uu, uu, uu, uu, uu, uu, uu, uu, uu, uu, uu, uu, uu, uu, uu, uu, uu, uu, uu, uu, uu, uu, uu, uu, uu, uu, uu, uu, uu, uu, uu, uu, uu, uu, uu, uu, uu, uu, uu, uu, uu, uu], hp := (upd (upd (upd emp 11 (.arr (.int .i64) ways11 false)) 10 (.arr (.int .i64) more10 false)) 7 (.arr (.int .i64) coins7 false)) }
theorem L10_1_eq (n : Nat × Nat) (m1 : Nat) (s8 : Int) (c9 : Int) (v54 : Int) (v55 : Int) (coins7 : List Int) (more10 : List Int) (ways11 : List Int) : L10_1 n (m1 + 1) s8 c9 v54 v55 coins7 more10 ways11 =
    (bif decide (v55 < v54) then (bif inB v55 coins7.length then (idx coins7 v55).bind fun x5' =>
        L10_2 n m1 n.1 s8 c9 x5' x5' v54 v55 coins7 more10 ways11
      else none)
    else (S37 n coins7 s8).bind fun r6' =>
      (S37 n more10 s8).bind fun r7' =>
      (S18 n coins7 s8).bind fun r8' =>
      (S18 n more10 s8).bind fun r9' =>
      ((bif ((r6'.2 != 0) == false) then some (r7'.2 != 0)
        else some true)).bind fun b10' =>
      ((bif (b10' == false) then some (r8'.2 != 0)
        else some true)).bind fun b11' =>
      ((bif (b11' == false) then some (r9'.2 != 0)
        else some true)).bind fun b12' =>
      ((bif (b12' == false) then (bif inB s8 ways11.length then (idx ways11 s8).bind fun x13' =>
            some (r6'.1 != x13')
          else none)
        else some true)).bind fun b14' =>
      ((bif (b14' == false) then some (decide (r9'.1 > r8'.1))
        else some true)).bind fun b15' =>
      ((bif (b15' == false) then some (decide (r9'.1 < 0))
        else some true)).bind fun b16' =>
      (bif b16' then some false
      else (bif decide (s8 ≥ c9) then (S37 n more10 (wr .i64 (s8 - c9))).bind fun r17' =>
          (bif (r17'.2 != 0) then some false
          else (S37 n [1] s8).bind fun r18' =>
            ((bif ((r18'.2 == 0) == true) then some (r18'.1 == 1)
              else some false)).bind fun b19' =>
            ((bif (b19' == true) then some ((wr .i64 (r7'.1 - r6'.1)) == r17'.1)
              else some false)).bind fun b20' =>
            ((bif (b20' == true) then (S17 n).bind fun r21' =>
                some r21'
              else some false)).bind fun b22' =>
            some b22')
        else (S37 n [1] s8).bind fun r23' =>
          ((bif ((r23'.2 == 0) == true) then some (r23'.1 == 1)
            else some false)).bind fun b24' =>
          ((bif (b24' == true) then some ((wr .i64 (r7'.1 - r6'.1)) == 0)
            else some false)).bind fun b25' =>
          ((bif (b25' == true) then (S17 n).bind fun r26' =>
              some r26'
            else some false)).bind fun b27' =>
          some b27'))) := by kernel_rfl
theorem L10_2_eq (n : Nat × Nat) (m1 m2 : Nat) (s8 : Int) (c9 : Int) (c13 : Int) (x14 : Int) (v54 : Int) (v55 : Int) (coins7 : List Int) (more10 : List Int) (ways11 : List Int) : L10_2 n m1 (m2 + 1) s8 c9 c13 x14 v54 v55 coins7 more10 ways11 =
    (bif decide (x14 ≤ s8) then (bif inB x14 ways11.length then (idx ways11 x14).bind fun x28' =>
        (bif inB (wr .i64 (x14 - c13)) ways11.length then (idx ways11 (wr .i64 (x14 - c13))).bind fun x29' =>
          (bif inB x14 ways11.length then (idx ways11 x14).bind fun x30' =>
            L10_2 n m1 m2 s8 c9 c13 (wr .i64 (x14 + 1)) v54 v55 coins7 more10 (ways11.set (Int.toNat x14) (wr .i64 (x28' + x29')))
          else none)
        else none)
      else none)
    else L10_1 n m1 s8 c9 v54 (wr .i64 (v55 + 1)) coins7 more10 ways11) := by kernel_rfl
noncomputable def S10 (n : Nat × Nat) (m0 : Int × Int × Int × Int × Int × Int) (step1 : Int) (sum2 : Int) : Option R10 := run (E10 n) c10 an10 rt10 (fun _ _ => none) rt10 { tm := [.agg [.int .u8 m0.1, .int .u8 m0.2.1, .int .u8 m0.2.2.1, .int .u8 m0.2.2.2.1, .int .u8 m0.2.2.2.2.1, .int .u8 m0.2.2.2.2.2], .c (.int .u8 step1), .c (.int .u8 sum2), uu, uu, uu, uu, uu, uu, uu, uu, uu, uu, uu, uu, uu, uu, uu, uu, uu, uu, uu, uu, uu, uu, uu, uu, uu, uu, uu, uu, uu, uu, uu, uu, uu, uu, uu, uu, uu, uu, uu, uu, uu, uu, uu, uu, uu, uu, uu, uu, uu, uu, uu, uu, uu, uu, uu, uu, uu, uu, uu, uu, uu, uu, uu, uu, uu, uu, uu, uu, uu, uu, uu, uu, uu, uu, uu, uu, uu, uu, uu, uu, uu, uu, uu, uu, uu, uu, uu, uu, uu, uu, uu, uu, uu, uu, uu, uu, uu, uu, uu, uu, uu, uu, uu, uu, uu, uu, uu, uu, uu, uu, uu, uu, uu, uu, uu, uu, uu, uu, uu, uu, uu, uu, uu, uu, uu, uu, uu, uu, uu, uu, uu, uu, uu, uu, uu, uu, uu, uu, uu, uu, uu, uu, uu, uu, uu, uu, uu, uu, uu, uu, uu, uu, uu, uu, uu, uu, uu, uu, uu, uu, uu, uu, uu, uu, uu, uu, uu], hp := emp }
theorem S10_eq (n : Nat × Nat) (m0 : Int × Int × Int × Int × Int × Int) (step1 : Int) (sum2 : Int) : S10 n m0 step1 sum2 =
    (S43 n m0 5 30).bind fun r1' =>
    (bif 201 == 0 then none
    else (bif inB (wr .i64 ((r1'.length : Int) - 1)) r1'.length then (idx r1' (wr .i64 ((r1'.length : Int) - 1))).bind fun x2' =>
        (bif 10 == 0 then none
        else (S46 n r1').bind fun r3' =>
          (bif decide (r3'.length + [wr .i64 ((wr .i64 (x2' + 1)) + (Int.tmod (wr .i64 step1) 10))].length ≤ lim) then (bif decide (0 ≤ wr .i64 ((Int.tmod (wr .i64 sum2) 201) + 1)) && decide (wr .i64 ((Int.tmod (wr .i64 sum2) 201) + 1) ≤ wr .i64 ((Int.tmod (wr .i64 sum2) 201) + 1)) && decide (wr .i64 ((Int.tmod (wr .i64 sum2) 201) + 1) ≤ lim) then (bif inB 0 (List.replicate (Int.toNat (wr .i64 ((Int.tmod (wr .i64 sum2) 201) + 1))) (0 : Int)).length then (idx (List.replicate (Int.toNat (wr .i64 ((Int.tmod (wr .i64 sum2) 201) + 1))) (0 : Int)) 0).bind fun x4' =>
                L10_1 n n.1 (Int.tmod (wr .i64 sum2) 201) (wr .i64 ((wr .i64 (x2' + 1)) + (Int.tmod (wr .i64 step1) 10))) (r1'.length : Int) 0 r1' (r3' ++ [wr .i64 ((wr .i64 (x2' + 1)) + (Int.tmod (wr .i64 step1) 10))]) ((List.replicate (Int.toNat (wr .i64 ((Int.tmod (wr .i64 sum2) 201) + 1))) (0 : Int)).set (Int.toNat 0) 1)
              else none)
            else none)
          else none))
      else none)) := by kernel_rfl
theorem S10_run (n : Nat × Nat) (xs : pksDen pk10) : S10 n xs.1 xs.2.1 xs.2.2.1 = runG (E10 n) noScope c10 an10 (rtG rk10) (fun _ _ => none) (rtG rk10) (st0 pk10 xs Try.f10.ntmps) := by kernel_rfl
noncomputable def P10 (n : Nat × Nat) := phiOf pk10 rk10 (fun xs => S10 n xs.1 xs.2.1 xs.2.2.1)
theorem call10 : CallOK Try.prog 10 := callOK_of Try.func10 (by kernel_rfl) (by kernel_rfl)
theorem env10 (n : Nat × Nat) : EnvOK Try.prog (E10 n) := envOK0 (consPhi_ok (FC17 n) call17 (consPhi_ok (FC18 n) call18 (consPhi_ok (FC37 n) call37 (consPhi_ok (FC43 n) call43 (consPhi_ok (FC46 n) call46 noPhi_ok))))) rfl rfl
theorem par10 (n : Nat × Nat) : EnvPar (E10 n) := envPar0 (consPhi_par phiOf_Par1 (consPhi_par phiOf_Par1 (consPhi_par phiOf_Par1 (consPhi_par phiOf_Par1 (consPhi_par phiOf_Par1 noPhi_par))))) rfl
theorem FC10 (n : Nat × Nat) : FCs Try.prog 10 (P10 n) := phiOf_FCs fun xs r h vs hv => FC.of_runG tabOK eqsOK (env10 n) (par10 n) mixed (fun _ => noScope_ok) Try.func10 (c := c10) (an := an10) (pks := pk10) (rks := rk10) (by kernel_rfl) (by kernel_rfl) hv ((S10_run n xs).symm.trans h)
end Go.Proofs.Ytjgmfdgpgdaclaa
set_option linter.unusedVariables false
set_option linter.unusedSimpArgs false
set_option maxRecDepth 100000
namespace Go.Proofs.Ytjgmfdgpgdaclaa
open Go.Vi
/-D 10 -/
noncomputable def DF10_2 (n : Nat × Nat) (f1 : Int → Int → Int → Int → List Int → List Int → List Int → Option R10) (f2 : Int → Int → Int → Int → Int → Int → List Int → List Int → List Int → Option R10) (s8 : Int) (c9 : Int) (c13 : Int) (x14 : Int) (v54 : Int) (v55 : Int) (coins7 : List Int) (more10 : List Int) (ways11 : List Int) : Option R10 :=
    (bif decide (x14 ≤ s8) then (bif inB x14 ways11.length then (idx ways11 x14).bind fun x28' =>
        (bif inB (wr .i64 (x14 - c13)) ways11.length then (idx ways11 (wr .i64 (x14 - c13))).bind fun x29' =>
          (bif inB x14 ways11.length then (idx ways11 x14).bind fun x30' =>
            f2 s8 c9 c13 (wr .i64 (x14 + 1)) v54 v55 coins7 more10 (ways11.set (Int.toNat x14) (wr .i64 (x28' + x29')))
          else none)
        else none)
      else none)
    else f1 s8 c9 v54 (wr .i64 (v55 + 1)) coins7 more10 ways11)
noncomputable def DL10_2 (n : Nat × Nat) (f1 : Int → Int → Int → Int → List Int → List Int → List Int → Option R10) (m : Nat) : Int → Int → Int → Int → Int → Int → List Int → List Int → List Int → Option R10 := Nat.rec (motive := fun _ => Int → Int → Int → Int → Int → Int → List Int → List Int → List Int → Option R10) (fun _ _ _ _ _ _ _ _ _ => none) (fun _ ih => DF10_2 n f1 ih) m
theorem DL10_2_succ (n : Nat × Nat) (f1 : Int → Int → Int → Int → List Int → List Int → List Int → Option R10) (m : Nat) : DL10_2 n f1 (m + 1) = DF10_2 n f1 (DL10_2 n f1 m) := rfl
theorem DL10_2_eq (n : Nat × Nat) (hn : n.2 = 1) (m1 : Nat) : ∀ m, L10_2 n m1 m = DL10_2 n (L10_1 n m1) m
  | 0 => by funext s8 c9 c13 x14 v54 v55 coins7 more10 ways11; kernel_rfl
  | m + 1 => by
    have ih := DL10_2_eq n hn m1 m
    funext s8 c9 c13 x14 v54 v55 coins7 more10 ways11; refine (L10_2_eq n m1 m s8 c9 c13 x14 v54 v55 coins7 more10 ways11).trans ?_
    rw [DL10_2_succ]
    unfold DF10_2
    (try simp only [ih, S17_D n hn, S18_D n hn, S37_D n hn, S43_D n hn, S46_D n hn]) <;> first | with_reducible rfl | rfl
noncomputable def DF10_1 (n : Nat × Nat) (f1 : Int → Int → Int → Int → List Int → List Int → List Int → Option R10) (s8 : Int) (c9 : Int) (v54 : Int) (v55 : Int) (coins7 : List Int) (more10 : List Int) (ways11 : List Int) : Option R10 :=
    (bif decide (v55 < v54) then (bif inB v55 coins7.length then (idx coins7 v55).bind fun x5' =>
        DL10_2 n f1 n.1 s8 c9 x5' x5' v54 v55 coins7 more10 ways11
      else none)
    else (D37 n coins7 s8).bind fun r6' =>
      (D37 n more10 s8).bind fun r7' =>
      (D18 n coins7 s8).bind fun r8' =>
      (D18 n more10 s8).bind fun r9' =>
      ((bif ((r6'.2 != 0) == false) then some (r7'.2 != 0)
        else some true)).bind fun b10' =>
      ((bif (b10' == false) then some (r8'.2 != 0)
        else some true)).bind fun b11' =>
      ((bif (b11' == false) then some (r9'.2 != 0)
        else some true)).bind fun b12' =>
      ((bif (b12' == false) then (bif inB s8 ways11.length then (idx ways11 s8).bind fun x13' =>
            some (r6'.1 != x13')
          else none)
        else some true)).bind fun b14' =>
      ((bif (b14' == false) then some (decide (r9'.1 > r8'.1))
        else some true)).bind fun b15' =>
      ((bif (b15' == false) then some (decide (r9'.1 < 0))
        else some true)).bind fun b16' =>
      (bif b16' then some false
      else (bif decide (s8 ≥ c9) then (D37 n more10 (wr .i64 (s8 - c9))).bind fun r17' =>
          (bif (r17'.2 != 0) then some false
          else (D37 n [1] s8).bind fun r18' =>
            ((bif ((r18'.2 == 0) == true) then some (r18'.1 == 1)
              else some false)).bind fun b19' =>
            ((bif (b19' == true) then some ((wr .i64 (r7'.1 - r6'.1)) == r17'.1)
              else some false)).bind fun b20' =>
            ((bif (b20' == true) then (D17 n).bind fun r21' =>
                some r21'
              else some false)).bind fun b22' =>
            some b22')
        else (D37 n [1] s8).bind fun r23' =>
          ((bif ((r23'.2 == 0) == true) then some (r23'.1 == 1)
            else some false)).bind fun b24' =>
          ((bif (b24' == true) then some ((wr .i64 (r7'.1 - r6'.1)) == 0)
            else some false)).bind fun b25' =>
          ((bif (b25' == true) then (D17 n).bind fun r26' =>
              some r26'
            else some false)).bind fun b27' =>
          some b27')))
noncomputable def DL10_1 (n : Nat × Nat) (m : Nat) : Int → Int → Int → Int → List Int → List Int → List Int → Option R10 := Nat.rec (motive := fun _ => Int → Int → Int → Int → List Int → List Int → List Int → Option R10) (fun _ _ _ _ _ _ _ => none) (fun _ ih => DF10_1 n ih) m
theorem DL10_1_succ (n : Nat × Nat) (m : Nat) : DL10_1 n (m + 1) = DF10_1 n (DL10_1 n m) := rfl
theorem DL10_1_eq (n : Nat × Nat) (hn : n.2 = 1) : ∀ m, L10_1 n m = DL10_1 n m
  | 0 => by funext s8 c9 v54 v55 coins7 more10 ways11; kernel_rfl
  | m + 1 => by
    have ih := DL10_1_eq n hn m
    funext s8 c9 v54 v55 coins7 more10 ways11; refine (L10_1_eq n m s8 c9 v54 v55 coins7 more10 ways11).trans ?_
    rw [DL10_1_succ]
    unfold DF10_1
    (try simp only [ih, DL10_2_eq n hn, S17_D n hn, S18_D n hn, S37_D n hn, S43_D n hn, S46_D n hn]) <;> first | with_reducible rfl | rfl
noncomputable def D10 (n : Nat × Nat) (m0 : Int × Int × Int × Int × Int × Int) (step1 : Int) (sum2 : Int) : Option R10 :=
    (D43 n m0 5 30).bind fun r1' =>
    (bif 201 == 0 then none
    else (bif inB (wr .i64 ((r1'.length : Int) - 1)) r1'.length then (idx r1' (wr .i64 ((r1'.length : Int) - 1))).bind fun x2' =>
        (bif 10 == 0 then none
        else (D46 n r1').bind fun r3' =>
          (bif decide (r3'.length + [wr .i64 ((wr .i64 (x2' + 1)) + (Int.tmod (wr .i64 step1) 10))].length ≤ lim) then (bif decide (0 ≤ wr .i64 ((Int.tmod (wr .i64 sum2) 201) + 1)) && decide (wr .i64 ((Int.tmod (wr .i64 sum2) 201) + 1) ≤ wr .i64 ((Int.tmod (wr .i64 sum2) 201) + 1)) && decide (wr .i64 ((Int.tmod (wr .i64 sum2) 201) + 1) ≤ lim) then (bif inB 0 (List.replicate (Int.toNat (wr .i64 ((Int.tmod (wr .i64 sum2) 201) + 1))) (0 : Int)).length then (idx (List.replicate (Int.toNat (wr .i64 ((Int.tmod (wr .i64 sum2) 201) + 1))) (0 : Int)) 0).bind fun x4' =>
                DL10_1 n n.1 (Int.tmod (wr .i64 sum2) 201) (wr .i64 ((wr .i64 (x2' + 1)) + (Int.tmod (wr .i64 step1) 10))) (r1'.length : Int) 0 r1' (r3' ++ [wr .i64 ((wr .i64 (x2' + 1)) + (Int.tmod (wr .i64 step1) 10))]) ((List.replicate (Int.toNat (wr .i64 ((Int.tmod (wr .i64 sum2) 201) + 1))) (0 : Int)).set (Int.toNat 0) 1)
              else none)
            else none)
          else none))
      else none))
theorem S10_D (n : Nat × Nat) (hn : n.2 = 1) : S10 n = D10 n := by
  funext m0 step1 sum2; refine (S10_eq n m0 step1 sum2).trans ?_
  unfold D10
  (try simp only [DL10_2_eq n hn, DL10_1_eq n hn, S17_D n hn, S18_D n hn, S37_D n hn, S43_D n hn, S46_D n hn]) <;> first | with_reducible rfl | rfl
end Go.Proofs.Ytjgmfdgpgdaclaa
/-
  Coins: the law CoinWays.
-/
set_option linter.unusedVariables false
set_option linter.unusedSimpArgs false
namespace Go.Proofs.Ytjgmfdgpgdaclaa
open Go.Vi
/-- A row of sums, one coin more: sums from this coin on. -/
theorem ways_in2 (cs more : List Int) (s : Nat) (c9 v54 v55 : Int) (hs : s ≤ 200) {c : Int} (hc : 1 ≤ c) (hc2 : c ≤ 40) (f : Int → Int) (hf : ∀ x, x < 0 → f x = 0) (hnn : ∀ x, 0 ≤ f x) (hB : ∀ x, x ≤ 240 → tsum c f x ≤ 200000000000000) (f1 : Int → Int → Int → Int → List Int → List Int → List Int → Option R10) :
    ∀ (m x : Nat), c ≤ (x : Int) → s + 1 - x < m → DL10_2 N f1 m (s : Int) c9 c (x : Int) v54 v55 cs more (ltab s (fun y => if (y : Int) < x then tsum c f y else f y)) = f1 (s : Int) c9 v54 (wr .i64 (v55 + 1)) cs more (ltab s (fun y => tsum c f y))
  | 0, x, _, h => by omega
  | m + 1, x, hx, h => by
    rw [DL10_2_succ]
    unfold DF10_2
    by_cases hlt : x ≤ s
    · obtain ⟨d, hd⟩ : ∃ d : Nat, (x : Int) - c = d := ⟨((x : Int) - c).toNat, by omega⟩
      have hxl : x < (ltab s (fun y => if (y : Int) < x then tsum c f y else f y)).length := by rw [ltab_length]; omega
      have hdl : d < (ltab s (fun y => if (y : Int) < x then tsum c f y else f y)).length := by rw [ltab_length]; omega
      rw [decide_eq_true (show (x : Int) ≤ (s : Int) by omega), cond_true, inB_nat hxl, cond_true, idx_nat hxl, ltab_get]
      simp only [Option.bind_some]
      rw [show wr .i64 ((x : Int) - c) = (d : Int) by rw [wr_ok (by omega) (by omega)]; exact hd, inB_nat hdl, cond_true, idx_nat hdl, ltab_get]
      simp only [Option.bind_some]
      rw [if_neg (by omega), if_pos (by omega)]
      have he := tsum_eq hc hf x
      rw [hd] at he
      have b1 := hB x (by omega)
      have b2 := hnn x
      have b3 := tsum_nn hc hf hnn d
      rw [wr_ok (x := f x + tsum c f d) (by omega) (by omega), Int.toNat_natCast, ltab_set]
      have ih := ways_in2 cs more s c9 v54 v55 hs hc hc2 f hf hnn hB f1 m (x + 1) (by omega) (by omega)
      rw [show ((x + 1 : Nat) : Int) = wr .i64 ((x : Int) + 1) by rw [wr_ok (by omega) (by omega)]; omega] at ih
      rw [← ih, cond_true]
      congr 1
      apply ltab_congr
      intro y hy
      rw [wr_ok (x := (x : Int) + 1) (by omega) (by omega)]
      by_cases e : y = x
      · subst e; rw [if_pos rfl, if_pos (by omega), he]
      · rw [if_neg e]
        by_cases e2 : (y : Int) < x
        · rw [if_pos e2, if_pos (by omega)]
        · rw [if_neg e2, if_neg (by omega)]
    · rw [decide_eq_false (show ¬ (x : Int) ≤ (s : Int) by omega), cond_false]
      rw [ltab_congr (G := fun y => tsum c f y) (fun y hy => by rw [if_pos (by omega)])]
theorem ways_out {cs : List Int} (hv : Vld cs) (h5 : cs.length ≤ 5) (s : Nat) (hs : s ≤ 200) {c9 : Int} (hc9 : lastC cs < c9) (hc40 : c9 ≤ 40) : ∀ (m i : Nat), i ≤ cs.length → cs.length - i < m →
    DL10_1 N m (s : Int) c9 (cs.length : Int) (i : Int) cs (cs ++ [c9]) (ltab s (fun y => cw (cs.take i) y)) = some true
  | 0, i, _, h => by omega
  | m + 1, i, hi, h => by
    have hp := hv.pos
    have hd := lastC_rng hv
    rw [DL10_1_succ]
    unfold DF10_1
    by_cases hlt : i < cs.length
    · have hc := hv.rng cs[i] (List.getElem_mem _)
      obtain ⟨c, hcc⟩ := Int.eq_ofNat_of_zero_le (show 0 ≤ cs[i] by omega)
      rw [decide_eq_true (show (i : Int) < (cs.length : Int) by omega), cond_true, inB_nat hlt, cond_true, idx_nat hlt]
      simp only [Option.bind_some]
      have htk : cs.take (i + 1) = cs.take i ++ [cs[i]] := by rw [List.take_add_one, List.getElem?_eq_getElem hlt]; rfl
      have hpt : ∀ x ∈ cs.take i, 1 ≤ x := fun x hx => (hv.rng x (List.mem_of_mem_take hx)).1
      have hsn := cw_snoc hpt hc.1
      have hin := ways_in2 cs (cs ++ [c9]) s c9 (cs.length : Int) (i : Int) hs hc.1 hc.2 (cw (cs.take i)) (fun x h => cw_neg _ h) (fun x => cw_nn hpt x) (fun x hx => by
        rw [← hsn, ← htk]
        have := cw_lim (l := cs.take (i + 1)) (fun x hx => (hv.rng x (List.mem_of_mem_take hx)).1) (by simp; omega) hx
        omega) (DL10_1 N m) N.1 c (by omega) (by show s + 1 - c < 10000; omega)
      rw [← hcc] at hin
      rw [ltab_congr (G := fun y => if (y : Int) < cs[i] then tsum cs[i] (cw (cs.take i)) y else cw (cs.take i) y) (fun y hy => by
        split
        · rename_i hlt2
          rw [tsum_eq hc.1 (fun x h => cw_neg _ h), tsum_neg (by omega)]
          omega
        · rfl), hin]
      have ih := ways_out hv h5 s hs hc9 hc40 m (i + 1) (by omega) (by omega)
      rw [show ((i + 1 : Nat) : Int) = wr .i64 ((i : Int) + 1) by rw [wr_ok (by omega) (by omega)]; omega] at ih
      rw [← ih]
      congr 1
      exact ltab_congr fun y hy => by rw [htk, hsn]
    · obtain rfl : i = cs.length := by omega
      rw [decide_eq_false (show ¬ (cs.length : Int) < (cs.length : Int) by omega), cond_false, List.take_length]
      have hvs := hv.snoc (by omega) (show cs[cs.length - 1]?.getD 0 < c9 from hc9) hc40
      have hv1 : Vld [1] := ⟨by simp, by simp, by simp, by simp, rfl⟩
      have sm : ∀ {l : List Int} (_ : Vld l) {x : Int}, 0 ≤ x → x ≤ 200 → smd l x = 0 := by
        intro l h x h1 h2
        exact smd_ok h h1 h2
      have w : ∀ {l : List Int} (_ : Vld l) {x : Int}, 0 ≤ x → x ≤ 200 → waysS l x = (cw l x, 0) := by
        intro l h x h1 h2
        unfold waysS
        rw [if_neg (by simpa using sm h h1 h2)]
      have fw : ∀ {l : List Int} (_ : Vld l) {x : Int}, 0 ≤ x → x ≤ 200 → fewS l x = (opt l x, 0) := by
        intro l h x h1 h2
        unfold fewS
        rw [if_neg (by simpa using sm h h1 h2)]
      have s0 : (0 : Int) ≤ (s : Int) := by omega
      have s1 : (s : Int) ≤ 200 := by omega
      rw [ways_eq hN1, ways_eq hN1, fewS_eq hN1, fewS_eq hN1, w hv s0 s1, w hvs s0 s1, fw hv s0 s1, fw hvs s0 s1]
      have hsl : s < (ltab s (fun y => cw cs y)).length := by rw [ltab_length]; omega
      simp only [Option.bind_some, show ((0 : Int) != 0) = false from rfl, show (false == false) = true from rfl, cond_true]
      rw [inB_nat hsl, cond_true, idx_nat hsl, ltab_get]
      simp only [Option.bind_some, bne_self_eq_false, show (false == false) = true from rfl, cond_true]
      have hmono := opt_mono hv.mnt hvs.mnt (fun c hc => by simp [hc]) s0
      have hon := opt_nonneg hvs.mnt s0
      rw [decide_eq_false (show ¬ opt (cs ++ [c9]) s > opt cs s by omega)]
      simp only [show (false == false) = true from rfl, cond_true, Option.bind_some]
      rw [decide_eq_false (show ¬ opt (cs ++ [c9]) s < 0 by omega)]
      simp only [cond_false]
      have hsn := cw_snoc hv.mnt.pos (d := c9) (by omega)
      have he := tsum_eq (f := cw cs) (c := c9) (by omega) (fun x h => cw_neg cs h) s
      have l1 := cw_lim hv.mnt.pos hv.len (x := (s : Int)) (by omega)
      have l2 := cw_lim hvs.mnt.pos hvs.len (x := (s : Int)) (by omega)
      have l3 := cw_nn hv.mnt.pos (s : Int)
      have l4 := cw_nn hvs.mnt.pos (s : Int)
      rw [ways_eq hN1 [1], w hv1 s0 s1, cw_one (s : Int) s0, works_eq]
      rw [wr_ok (x := cw (cs ++ [c9]) s - cw cs s) (by omega) (by omega), hsn]
      by_cases hge : (s : Int) ≥ c9
      · rw [decide_eq_true hge, cond_true, wr_ok (x := (s : Int) - c9) (by omega) (by omega), ways_eq hN1, w hvs (by omega) (by omega), hsn]
        simp only [Option.bind_some, show ((0 : Int) != 0) = false from rfl, cond_false, beq_self_eq_true, cond_true]
        rw [show (tsum c9 (cw cs) s - cw cs s == tsum c9 (cw cs) (s - c9)) = true by simp; omega]
        rfl
      · rw [decide_eq_false hge, cond_false]
        rw [tsum_neg (x := (s : Int) - c9) (by omega)] at he
        simp only [Option.bind_some, beq_self_eq_true, cond_true]
        rw [show (tsum c9 (cw cs) s - cw cs s == 0) = true by simp; omega]
        rfl
theorem ways_ok (xs : pksDen (pks [ShM, .int .u8, .int .u8])) (h : WfL [ShM, .int .u8, .int .u8] xs) : ∃ n, S10 n xs.1 xs.2.1 xs.2.2.1 = some true := by
  refine ⟨N, ?_⟩
  rw [S10_D N rfl]
  unfold D10
  obtain ⟨cs, g1, hv, g3, g4⟩ := made_eq hN1 (m0 := xs.1) h.1 (many := 5) (most := 30) (by omega) (by omega) (by omega) (by omega)
  rw [g1]
  simp only [Option.bind_some]
  have hl := hv.len
  have hp := hv.pos
  obtain ⟨t1, t2, t3⟩ := tmod_u8 (u8_rng h.2.2.1) (k := 201) (by omega)
  obtain ⟨q1, q2, q3⟩ := tmod_u8 (u8_rng h.2.1) (k := 10) (by omega)
  rw [show ((201 : Nat) == 0) = false from rfl, cond_false, inB_last hp (by omega), cond_true, idx_last hp (by omega)]
  simp only [Option.bind_some]
  rw [show ((10 : Nat) == 0) = false from rfl, cond_false, t1, q1]
  have hd := lastC_rng hv
  have hd30 : lastC cs ≤ 30 := by rw [lastC_get hp]; exact g4 _ (List.getElem_mem _)
  generalize xs.2.1 % 10 = y at *
  obtain ⟨s, hs⟩ := Int.eq_ofNat_of_zero_le t2
  rw [hs] at t3 ⊢
  rw [clone_eq hp (by omega)]
  simp only [Option.bind_some]
  rw [wr_ok (x := lastC cs + 1) (by omega) (by omega), wr_ok (x := lastC cs + 1 + y) (by omega) (by omega), decide_eq_true (show cs.length + [lastC cs + 1 + y].length ≤ lim by simp [lim]; omega), cond_true]
  have hw : wr .i64 ((s : Int) + 1) = ((s + 1 : Nat) : Int) := by rw [wr_ok (by omega) (by omega)]; omega
  rw [hw, decide_eq_true (show (0 : Int) ≤ ((s + 1 : Nat) : Int) by omega), decide_eq_true (Int.le_refl _), decide_eq_true (show ((s + 1 : Nat) : Int) ≤ lim by simp [lim]; omega)]
  simp only [Bool.and_self, cond_true]
  have hl0 : 0 < (List.replicate (Int.toNat ((s + 1 : Nat) : Int)) (0 : Int)).length := by simp
  rw [show inB 0 (List.replicate (Int.toNat ((s + 1 : Nat) : Int)) (0 : Int)).length = true from inB_nat (k := 0) hl0, cond_true, show idx (List.replicate (Int.toNat ((s + 1 : Nat) : Int)) (0 : Int)) 0 = some _ from idx_int (k := 0) rfl hl0]
  simp only [Option.bind_some]
  have he : (List.replicate (Int.toNat ((s + 1 : Nat) : Int)) (0 : Int)).set (Int.toNat 0) 1 = ltab s (fun y => cw (cs.take 0) y) := by
    apply List.ext_getElem
    · simp [ltab]
    · intro i h1 h2
      rw [ltab_get]
      simp only [List.take_zero, cw]
      cases i with
      | zero => simp
      | succ i =>
        rw [show (((i + 1 : Nat) : Int) == 0) = false by simpa using (show ((i + 1 : Nat) : Int) ≠ 0 by omega)]
        simp
  rw [he]
  exact ways_out hv (by omega) s (by omega) (by omega) (by omega) N.1 0 (by omega) (by show cs.length - 0 < 10000; omega)
end Go.Proofs.Ytjgmfdgpgdaclaa
