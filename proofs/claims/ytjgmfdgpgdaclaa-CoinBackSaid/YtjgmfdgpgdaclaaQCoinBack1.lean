/- Texts of this claim, joined: G14 to Co14. -/
import Derived.KernelRfl
import Derived.Test.YtjgmfdgpgdaclaaProg
import Derived.WalkKit
import Derived.Test.YtjgmfdgpgdaclaaP8
set_option linter.unusedVariables false
set_option linter.unusedSimpArgs false
set_option maxRecDepth 100000
namespace Go.Proofs.Ytjgmfdgpgdaclaa
open Go.Vi
/- headword/headwordlaw12.CoinBack -/
abbrev R14 := Bool
noncomputable def c14 : Code := bodyOf Try.f14
noncomputable def an14 : Ann := (.s .l (.s .l (.s .l (.s .l (.s .l (.s (.s .l (.j [2, 5, 9, 10, 11, 13, 75, 76, 79, 80, 81, 84, 85, 86, 116, 117, 120, 121, 124, 125, 126, 127, 130, 131, 132, 133, 136, 137, 138, 139, 191, 192, 195, 214, 215, 218, 221, 224, 225, 226, 229, 230, 231, 234, 235, 236, 239] .l .l)) (.s .l (.s .l (.s (.s .l (.j [2, 5, 9, 10, 11, 13, 116, 117, 120, 121, 124, 125, 126, 127, 130, 131, 132, 133, 136, 137, 138, 139, 191, 192, 195, 214, 215, 218, 221, 224, 225, 226, 229, 230, 231, 234, 235, 236, 239] .l .l)) (.s .l (.s .l (.s .l (.s (.s .l (.j [2, 5, 9, 10, 191, 192, 195, 214, 215, 218, 221, 224, 225, 226, 229, 230, 231, 234, 235, 236, 239] .l .l)) (.s .l (.s (.s .l (.j [2, 9, 10, 25, 191, 192, 195, 214, 215, 218, 221, 224, 225, 226, 229, 230, 231, 234, 235, 236, 239] (.j [2, 5, 9, 10, 25, 142, 143, 191, 192, 195, 214, 215, 218, 221, 224, 225, 226, 229, 230, 231, 234, 235, 236, 239] (.s .l (.s (.j [2, 5, 9, 10, 25, 142, 143, 191, 192, 195, 214, 215, 218, 221, 224, 225, 226, 229, 230, 231, 234, 235, 236, 239] .l .l) (.s (.j [2, 5, 9, 10, 25, 142, 143, 191, 192, 195, 214, 215, 218, 221, 224, 225, 226, 229, 230, 231, 234, 235, 236, 239] .l .l) .l))) .l) .l)) (.s .l (.s .l (.s .l (.s .l (.s .l (.s (.s .l (.j [9, 10, 12, 14, 29, 30, 214, 215, 218, 221, 224, 225, 226, 229, 230, 231, 234, 235, 236, 239] .l .l)) .l)))))))))))))))))))))
def pk14 : List PK := [.c (.pair (.int .u8) (.pair (.int .u8) (.pair (.int .u8) (.pair (.int .u8) (.pair (.int .u8) (.int .u8)))))), .c (.pair (.int .u8) (.pair (.int .u8) (.pair (.int .u8) (.pair (.int .u8) (.pair (.int .u8) (.int .u8)))))), .c (.int .u8), .c (.int .u8)]
def rk14 : List RK := [.c .bool 8]
noncomputable def rt14 (st : St) : Option R14 := rtG rk14 st
noncomputable def E14 (n : Nat × Nat) : Env := { T := tab, phi := (consPhi 17 (fun _ => true) (P17 n) (consPhi 20 (fun _ => true) (P20 n) (consPhi 22 (fun _ => true) (P22 n) (consPhi 24 (fun _ => true) (P24 n) (consPhi 41 (fun _ => true) (P41 n) (consPhi 43 (fun _ => true) (P43 n) (consPhi 46 (fun _ => true) (P46 n) (consPhi 51 (fun _ => true) (P51 n) (consPhi 52 (fun _ => true) (P52 n) noPhi))))))))), eff := fun _ => false, fuel := n.1, hold := n.2 }
noncomputable def kq14_1 (n : Nat × Nat) : St → Option R14 := run (E14 n) (cB (cB (cB (cB (cB (cB c14)))))) (Ann.snd (Ann.snd (Ann.snd (Ann.snd (Ann.snd (Ann.snd an14)))))) rt14 (fun _ _ => none) rt14
noncomputable def kc14_2 (n : Nat × Nat) : St → Option R14 := fun s => normC [2, 5, 9, 10, 11, 13, 75, 76, 79, 80, 81, 84, 85, 86, 116, 117, 120, 121, 124, 125, 126, 127, 130, 131, 132, 133, 136, 137, 138, 139, 191, 192, 195, 214, 215, 218, 221, 224, 225, 226, 229, 230, 231, 234, 235, 236, 239] s (kq14_1 n)
noncomputable def kq14_3 (n : Nat × Nat) : St → Option R14 := run (E14 n) (cB (cB (cB (cB (cB (cB (cB (cB (cB c14))))))))) (Ann.snd (Ann.snd (Ann.snd (Ann.snd (Ann.snd (Ann.snd (Ann.snd (Ann.snd (Ann.snd an14))))))))) rt14 (fun _ _ => none) rt14
noncomputable def kc14_4 (n : Nat × Nat) : St → Option R14 := fun s => normC [2, 5, 9, 10, 11, 13, 116, 117, 120, 121, 124, 125, 126, 127, 130, 131, 132, 133, 136, 137, 138, 139, 191, 192, 195, 214, 215, 218, 221, 224, 225, 226, 229, 230, 231, 234, 235, 236, 239] s (kq14_3 n)
noncomputable def kq14_5 (n : Nat × Nat) : St → Option R14 := run (E14 n) (cB (cB (cB (cB (cB (cB (cB (cB (cB (cB (cB (cB (cB c14))))))))))))) (Ann.snd (Ann.snd (Ann.snd (Ann.snd (Ann.snd (Ann.snd (Ann.snd (Ann.snd (Ann.snd (Ann.snd (Ann.snd (Ann.snd (Ann.snd an14))))))))))))) rt14 (fun _ _ => none) rt14
noncomputable def kc14_6 (n : Nat × Nat) : St → Option R14 := fun s => normC [2, 5, 9, 10, 191, 192, 195, 214, 215, 218, 221, 224, 225, 226, 229, 230, 231, 234, 235, 236, 239] s (kq14_5 n)
noncomputable def kq14_7 (n : Nat × Nat) : St → Option R14 := run (E14 n) (cB (cB (cB (cB (cB (cB (cB (cB (cB (cB (cB (cB (cB (cB (cB c14))))))))))))))) (Ann.snd (Ann.snd (Ann.snd (Ann.snd (Ann.snd (Ann.snd (Ann.snd (Ann.snd (Ann.snd (Ann.snd (Ann.snd (Ann.snd (Ann.snd (Ann.snd (Ann.snd an14))))))))))))))) rt14 (fun _ _ => none) rt14
noncomputable def kc14_8 (n : Nat × Nat) : St → Option R14 := fun s => normC [2, 9, 10, 25, 191, 192, 195, 214, 215, 218, 221, 224, 225, 226, 229, 230, 231, 234, 235, 236, 239] s (kq14_7 n)
noncomputable def xb14_9 (n : Nat × Nat) : Nat → St → Option R14 := fun j s => bif Nat.beq j 0 then normC [2, 9, 10, 25, 191, 192, 195, 214, 215, 218, 221, 224, 225, 226, 229, 230, 231, 234, 235, 236, 239] s (kq14_7 n) else (fun _ _ => none) j s
noncomputable def F14_10 (n : Nat × Nat) : (St → Option R14) → St → Option R14 := fun K s => run (E14 n) (cA (cA (cB (cA (cB (cB (cB (cB (cB (cB (cB (cB (cB (cB (cB (cB (cB (cB c14)))))))))))))))))) (Ann.fst (Ann.fst (Ann.snd (Ann.fst (Ann.snd (Ann.snd (Ann.snd (Ann.snd (Ann.snd (Ann.snd (Ann.snd (Ann.snd (Ann.snd (Ann.snd (Ann.snd (Ann.snd (Ann.snd (Ann.snd an14)))))))))))))))))) (fun s => normC [2, 5, 9, 10, 25, 142, 143, 191, 192, 195, 214, 215, 218, 221, 224, 225, 226, 229, 230, 231, 234, 235, 236, 239] s K) (xb14_9 n) rt14 s
noncomputable def kq14_11 (n : Nat × Nat) (m1 : Nat) : St → Option R14 := run (E14 n) (cB (cB (cA (cA (cB (cA (cB (cB (cB (cB (cB (cB (cB (cB (cB (cB (cB (cB (cB (cB c14)))))))))))))))))))) (Ann.snd (Ann.snd (Ann.fst (Ann.fst (Ann.snd (Ann.fst (Ann.snd (Ann.snd (Ann.snd (Ann.snd (Ann.snd (Ann.snd (Ann.snd (Ann.snd (Ann.snd (Ann.snd (Ann.snd (Ann.snd (Ann.snd (Ann.snd an14)))))))))))))))))))) (fun s => normC [2, 5, 9, 10, 25, 142, 143, 191, 192, 195, 214, 215, 218, 221, 224, 225, 226, 229, 230, 231, 234, 235, 236, 239] s (loopN (F14_10 n) m1)) (xb14_9 n) rt14
noncomputable def kc14_12 (n : Nat × Nat) (m1 : Nat) : St → Option R14 := fun s => normC [2, 5, 9, 10, 25, 142, 143, 191, 192, 195, 214, 215, 218, 221, 224, 225, 226, 229, 230, 231, 234, 235, 236, 239] s (kq14_11 n m1)
noncomputable def kq14_13 (n : Nat × Nat) (m1 : Nat) : St → Option R14 := run (E14 n) (cB (cB (cB (cA (cA (cB (cA (cB (cB (cB (cB (cB (cB (cB (cB (cB (cB (cB (cB (cB (cB c14))))))))))))))))))))) (Ann.snd (Ann.snd (Ann.snd (Ann.fst (Ann.fst (Ann.snd (Ann.fst (Ann.snd (Ann.snd (Ann.snd (Ann.snd (Ann.snd (Ann.snd (Ann.snd (Ann.snd (Ann.snd (Ann.snd (Ann.snd (Ann.snd (Ann.snd (Ann.snd an14))))))))))))))))))))) (fun s => normC [2, 5, 9, 10, 25, 142, 143, 191, 192, 195, 214, 215, 218, 221, 224, 225, 226, 229, 230, 231, 234, 235, 236, 239] s (loopN (F14_10 n) m1)) (xb14_9 n) rt14
noncomputable def kc14_14 (n : Nat × Nat) (m1 : Nat) : St → Option R14 := fun s => normC [2, 5, 9, 10, 25, 142, 143, 191, 192, 195, 214, 215, 218, 221, 224, 225, 226, 229, 230, 231, 234, 235, 236, 239] s (kq14_13 n m1)
noncomputable def xb14_15 (n : Nat × Nat) (m1 : Nat) : Nat → St → Option R14 := fun j s => bif Nat.beq j 1 then normC [2, 5, 9, 10, 25, 142, 143, 191, 192, 195, 214, 215, 218, 221, 224, 225, 226, 229, 230, 231, 234, 235, 236, 239] s (kq14_13 n m1) else (xb14_9 n) j s
noncomputable def kq14_16 (n : Nat × Nat) : St → Option R14 := run (E14 n) (cB (cB (cB (cB (cB (cB (cB (cB (cB (cB (cB (cB (cB (cB (cB (cB (cB (cB (cB (cB (cB c14))))))))))))))))))))) (Ann.snd (Ann.snd (Ann.snd (Ann.snd (Ann.snd (Ann.snd (Ann.snd (Ann.snd (Ann.snd (Ann.snd (Ann.snd (Ann.snd (Ann.snd (Ann.snd (Ann.snd (Ann.snd (Ann.snd (Ann.snd (Ann.snd (Ann.snd (Ann.snd an14))))))))))))))))))))) rt14 (fun _ _ => none) rt14
noncomputable def kc14_17 (n : Nat × Nat) : St → Option R14 := fun s => normC [9, 10, 12, 14, 29, 30, 214, 215, 218, 221, 224, 225, 226, 229, 230, 231, 234, 235, 236, 239] s (kq14_16 n)
noncomputable def L14_1 (n : Nat × Nat) (m : Nat) (one2 : Int) (s10 : Int) (v142 : Int) (v143 : Int) (purse5_0 : Int) (purse5_1 : Int) (purse5_2 : Int) (purse5_3 : Int) (purse5_4 : Int) (purse5_5 : Int) (coins9 : List Int) (has25 : List Int) : Option R14 := loopN (F14_10 n) m { tm := [uu, uu, .c (.int .u8 one2), uu, uu, .ptr 5 0, uu, uu, uu, .own 9 none false, .c (.int .i64 s10), uu, uu, uu, uu, uu, uu, uu, uu, uu, uu, uu, uu, uu, uu, .own 25 none false, uu, uu, uu, uu, uu, uu, uu, uu, uu, uu, uu, uu, uu, uu, uu, uu, uu, uu, uu, uu, uu, uu, uu, uu, uu, uu, uu, uu, uu, uu, uu, uu, uu, uu, uu, uu, uu, uu, uu, uu, uu, uu, uu, uu, uu, uu, uu, uu, uu, uu, uu, uu, uu, uu, uu, uu, uu, uu, uu, uu, uu, uu, uu, uu, uu, uu, uu, uu, uu, uu, uu, uu, uu, uu, uu, uu, uu, uu, uu, uu, uu, uu, uu, uu, uu, uu, uu, uu, uu, uu, uu, uu, uu, uu, uu, uu, uu, uu, uu, uu, uu, uu, uu, uu, uu, uu, uu, uu, uu, uu, uu, uu, uu, uu, uu, uu, .c (.int .i64 v142), .c (.int .i64 v143), uu, uu, uu, uu, uu, uu, uu, uu, uu, uu, uu, uu, uu, uu, uu, uu, uu, uu, uu, uu, uu, uu, uu, uu, uu, uu, uu, uu, uu, uu, uu, uu, uu, uu, uu, uu, uu, uu, uu, uu, uu, uu, uu, uu, uu, uu, uu, uu, uu, uu, uu, uu, uu, uu, uu, uu, uu, uu, uu, uu, uu, uu, uu, uu, uu, uu, uu, uu, uu, uu, uu, uu, uu, uu, uu, uu, uu, uu, uu, uu, uu, uu, uu, uu, uu, uu, uu, uu, uu, uu, uu, uu, uu, uu, uu, uu, uu], hp := (upd (upd (upd emp 25 (.arr (.int .i64) has25 false)) 9 (.arr (.int .i64) coins9 false)) 5 (.box [.int .u8 purse5_0, .int .u8 purse5_1, .int .u8 purse5_2, .int .u8 purse5_3, .int .u8 purse5_4, .int .u8 purse5_5])) }
theorem L14_1_eq (n : Nat × Nat) (m1 : Nat) (one2 : Int) (s10 : Int) (v142 : Int) (v143 : Int) (purse5_0 : Int) (purse5_1 : Int) (purse5_2 : Int) (purse5_3 : Int) (purse5_4 : Int) (purse5_5 : Int) (coins9 : List Int) (has25 : List Int) : L14_1 n (m1 + 1) one2 s10 v142 v143 purse5_0 purse5_1 purse5_2 purse5_3 purse5_4 purse5_5 coins9 has25 =
    (bif decide (v143 < v142) then (bif inB v143 6 then (idx [purse5_0, purse5_1, purse5_2, purse5_3, purse5_4, purse5_5] v143).bind fun x22' =>
        (bif 9 == 0 then none
        else (bif decide (has25.length + [Int.tmod (wr .i64 x22') 9].length ≤ lim) then L14_1 n m1 one2 s10 v142 (wr .i64 (v143 + 1)) purse5_0 purse5_1 purse5_2 purse5_3 purse5_4 purse5_5 coins9 (has25 ++ [Int.tmod (wr .i64 x22') 9])
          else none))
      else none)
    else (bif (coins9.length : Int) == 0 then none
      else (S46 n has25).bind fun r23' =>
        (bif inB (Int.tmod (wr .i64 one2) (coins9.length : Int)) r23'.length then (idx r23' (Int.tmod (wr .i64 one2) (coins9.length : Int))).bind fun x24' =>
          (bif 5 == 0 then none
          else (bif inB (Int.tmod (wr .i64 one2) (coins9.length : Int)) r23'.length then (idx r23' (Int.tmod (wr .i64 one2) (coins9.length : Int))).bind fun x25' =>
              (S41 n coins9 has25 s10).bind fun r26' =>
              (S41 n coins9 (r23'.set (Int.toNat (Int.tmod (wr .i64 one2) (coins9.length : Int))) (wr .i64 (x24' + (wr .i64 (1 + (Int.tmod (wr .i64 one2) 5)))))) s10).bind fun r27' =>
              (bif (r26'.2 == 12) then ((bif ((r27'.2 == 0) == false) then some (r27'.2 == 12)
                  else some true)).bind fun b28' =>
                ((bif (b28' == true) then (S17 n).bind fun r29' =>
                    some r29'
                  else some false)).bind fun b30' =>
                some b30'
              else (S51 n coins9 r26'.1).bind fun r31' =>
                (S51 n coins9 r27'.1).bind fun r32' =>
                ((bif ((r26'.2 == 0) == true) then some (r27'.2 == 0)
                  else some false)).bind fun b33' =>
                ((bif (b33' == true) then some r31'.2.2
                  else some false)).bind fun b34' =>
                ((bif (b34' == true) then some r32'.2.2
                  else some false)).bind fun b35' =>
                ((bif (b35' == true) then some (r31'.1 == s10)
                  else some false)).bind fun b36' =>
                ((bif (b36' == true) then some (r32'.1 == s10)
                  else some false)).bind fun b37' =>
                ((bif (b37' == true) then some (decide (r32'.2.1 ≤ r31'.2.1))
                  else some false)).bind fun b38' =>
                ((bif (b38' == true) then (S17 n).bind fun r39' =>
                    some r39'
                  else some false)).bind fun b40' =>
                some b40')
            else none))
        else none))) := by kernel_rfl
noncomputable def S14 (n : Nat × Nat) (m0 : Int × Int × Int × Int × Int × Int) (purse1 : Int × Int × Int × Int × Int × Int) (one2 : Int) (sum3 : Int) : Option R14 := run (E14 n) c14 an14 rt14 (fun _ _ => none) rt14 { tm := [.agg [.int .u8 m0.1, .int .u8 m0.2.1, .int .u8 m0.2.2.1, .int .u8 m0.2.2.2.1, .int .u8 m0.2.2.2.2.1, .int .u8 m0.2.2.2.2.2], .agg [.int .u8 purse1.1, .int .u8 purse1.2.1, .int .u8 purse1.2.2.1, .int .u8 purse1.2.2.2.1, .int .u8 purse1.2.2.2.2.1, .int .u8 purse1.2.2.2.2.2], .c (.int .u8 one2), .c (.int .u8 sum3), uu, uu, uu, uu, uu, uu, uu, uu, uu, uu, uu, uu, uu, uu, uu, uu, uu, uu, uu, uu, uu, uu, uu, uu, uu, uu, uu, uu, uu, uu, uu, uu, uu, uu, uu, uu, uu, uu, uu, uu, uu, uu, uu, uu, uu, uu, uu, uu, uu, uu, uu, uu, uu, uu, uu, uu, uu, uu, uu, uu, uu, uu, uu, uu, uu, uu, uu, uu, uu, uu, uu, uu, uu, uu, uu, uu, uu, uu, uu, uu, uu, uu, uu, uu, uu, uu, uu, uu, uu, uu, uu, uu, uu, uu, uu, uu, uu, uu, uu, uu, uu, uu, uu, uu, uu, uu, uu, uu, uu, uu, uu, uu, uu, uu, uu, uu, uu, uu, uu, uu, uu, uu, uu, uu, uu, uu, uu, uu, uu, uu, uu, uu, uu, uu, uu, uu, uu, uu, uu, uu, uu, uu, uu, uu, uu, uu, uu, uu, uu, uu, uu, uu, uu, uu, uu, uu, uu, uu, uu, uu, uu, uu, uu, uu, uu, uu, uu, uu, uu, uu, uu, uu, uu, uu, uu, uu, uu, uu, uu, uu, uu, uu, uu, uu, uu, uu, uu, uu, uu, uu, uu, uu, uu, uu, uu, uu, uu, uu, uu, uu, uu, uu, uu, uu, uu, uu, uu, uu, uu, uu, uu, uu, uu, uu, uu, uu, uu, uu, uu, uu, uu, uu, uu, uu, uu, uu, uu, uu, uu, uu, uu, uu, uu, uu, uu, uu, uu], hp := emp }
theorem S14_eq (n : Nat × Nat) (m0 : Int × Int × Int × Int × Int × Int) (purse1 : Int × Int × Int × Int × Int × Int) (one2 : Int) (sum3 : Int) : S14 n m0 purse1 one2 sum3 =
    (S43 n m0 6 40).bind fun r1' =>
    (bif 201 == 0 then none
    else (S20 n r1' (Int.tmod (wr .i64 sum3) 201)).bind fun r2' =>
      (S22 n r1' (Int.tmod (wr .i64 sum3) 201)).bind fun r3' =>
      ((bif ((r2'.2 != 0) == false) then some (r3'.2 != 0)
        else some true)).bind fun b4' =>
      (bif b4' then some false
      else (S51 n r1' r2'.1).bind fun r5' =>
        (S51 n r1' r3'.1).bind fun r6' =>
        ((bif ((!r5'.2.2) == false) then some (!r6'.2.2)
          else some true)).bind fun b7' =>
        ((bif (b7' == false) then some (r5'.1 != (Int.tmod (wr .i64 sum3) 201))
          else some true)).bind fun b8' =>
        ((bif (b8' == false) then some (r6'.1 != (Int.tmod (wr .i64 sum3) 201))
          else some true)).bind fun b9' =>
        (bif b9' then some false
        else (S41 n r1' r2'.1 (Int.tmod (wr .i64 sum3) 201)).bind fun r10' =>
          (S41 n r1' r3'.1 (Int.tmod (wr .i64 sum3) 201)).bind fun r11' =>
          (S52 n [200] (r1'.length : Int)).bind fun r12' =>
          (S41 n r1' r12' (Int.tmod (wr .i64 sum3) 201)).bind fun r13' =>
          ((bif ((r10'.2 != 0) == false) then some (r11'.2 != 0)
            else some true)).bind fun b14' =>
          ((bif (b14' == false) then some (r13'.2 != 0)
            else some true)).bind fun b15' =>
          ((bif (b15' == false) then (S24 n r10'.1 r2'.1).bind fun r16' =>
              some (!r16')
            else some true)).bind fun b17' =>
          ((bif (b17' == false) then (S24 n r11'.1 r3'.1).bind fun r18' =>
              some (!r18')
            else some true)).bind fun b19' =>
          ((bif (b19' == false) then (S24 n r13'.1 r2'.1).bind fun r20' =>
              some (!r20')
            else some true)).bind fun b21' =>
          (bif b21' then some false
          else L14_1 n n.1 one2 (Int.tmod (wr .i64 sum3) 201) (r1'.length : Int) 0 purse1.1 purse1.2.1 purse1.2.2.1 purse1.2.2.2.1 purse1.2.2.2.2.1 purse1.2.2.2.2.2 r1' [])))) := by kernel_rfl
theorem S14_run (n : Nat × Nat) (xs : pksDen pk14) : S14 n xs.1 xs.2.1 xs.2.2.1 xs.2.2.2.1 = runG (E14 n) noScope c14 an14 (rtG rk14) (fun _ _ => none) (rtG rk14) (st0 pk14 xs Try.f14.ntmps) := by kernel_rfl
noncomputable def P14 (n : Nat × Nat) := phiOf pk14 rk14 (fun xs => S14 n xs.1 xs.2.1 xs.2.2.1 xs.2.2.2.1)
theorem call14 : CallOK Try.prog 14 := callOK_of Try.func14 (by kernel_rfl) (by kernel_rfl)
theorem env14 (n : Nat × Nat) : EnvOK Try.prog (E14 n) := envOK0 (consPhi_ok (FC17 n) call17 (consPhi_ok (FC20 n) call20 (consPhi_ok (FC22 n) call22 (consPhi_ok (FC24 n) call24 (consPhi_ok (FC41 n) call41 (consPhi_ok (FC43 n) call43 (consPhi_ok (FC46 n) call46 (consPhi_ok (FC51 n) call51 (consPhi_ok (FC52 n) call52 noPhi_ok))))))))) rfl rfl
theorem par14 (n : Nat × Nat) : EnvPar (E14 n) := envPar0 (consPhi_par phiOf_Par1 (consPhi_par phiOf_Par1 (consPhi_par phiOf_Par1 (consPhi_par phiOf_Par1 (consPhi_par phiOf_Par1 (consPhi_par phiOf_Par1 (consPhi_par phiOf_Par1 (consPhi_par phiOf_Par1 (consPhi_par phiOf_Par1 noPhi_par))))))))) rfl
theorem FC14 (n : Nat × Nat) : FCs Try.prog 14 (P14 n) := phiOf_FCs fun xs r h vs hv => FC.of_runG tabOK eqsOK (env14 n) (par14 n) mixed (fun _ => noScope_ok) Try.func14 (c := c14) (an := an14) (pks := pk14) (rks := rk14) (by kernel_rfl) (by kernel_rfl) hv ((S14_run n xs).symm.trans h)
end Go.Proofs.Ytjgmfdgpgdaclaa
set_option linter.unusedVariables false
set_option linter.unusedSimpArgs false
set_option maxRecDepth 100000
namespace Go.Proofs.Ytjgmfdgpgdaclaa
open Go.Vi
/-D 14 -/
noncomputable def DF14_1 (n : Nat × Nat) (f1 : Int → Int → Int → Int → Int → Int → Int → Int → Int → Int → List Int → List Int → Option R14) (one2 : Int) (s10 : Int) (v142 : Int) (v143 : Int) (purse5_0 : Int) (purse5_1 : Int) (purse5_2 : Int) (purse5_3 : Int) (purse5_4 : Int) (purse5_5 : Int) (coins9 : List Int) (has25 : List Int) : Option R14 :=
    (bif decide (v143 < v142) then (bif inB v143 6 then (idx [purse5_0, purse5_1, purse5_2, purse5_3, purse5_4, purse5_5] v143).bind fun x22' =>
        (bif 9 == 0 then none
        else (bif decide (has25.length + [Int.tmod (wr .i64 x22') 9].length ≤ lim) then f1 one2 s10 v142 (wr .i64 (v143 + 1)) purse5_0 purse5_1 purse5_2 purse5_3 purse5_4 purse5_5 coins9 (has25 ++ [Int.tmod (wr .i64 x22') 9])
          else none))
      else none)
    else (bif (coins9.length : Int) == 0 then none
      else (D46 n has25).bind fun r23' =>
        (bif inB (Int.tmod (wr .i64 one2) (coins9.length : Int)) r23'.length then (idx r23' (Int.tmod (wr .i64 one2) (coins9.length : Int))).bind fun x24' =>
          (bif 5 == 0 then none
          else (bif inB (Int.tmod (wr .i64 one2) (coins9.length : Int)) r23'.length then (idx r23' (Int.tmod (wr .i64 one2) (coins9.length : Int))).bind fun x25' =>
              (D41 n coins9 has25 s10).bind fun r26' =>
              (D41 n coins9 (r23'.set (Int.toNat (Int.tmod (wr .i64 one2) (coins9.length : Int))) (wr .i64 (x24' + (wr .i64 (1 + (Int.tmod (wr .i64 one2) 5)))))) s10).bind fun r27' =>
              (bif (r26'.2 == 12) then ((bif ((r27'.2 == 0) == false) then some (r27'.2 == 12)
                  else some true)).bind fun b28' =>
                ((bif (b28' == true) then (D17 n).bind fun r29' =>
                    some r29'
                  else some false)).bind fun b30' =>
                some b30'
              else (D51 n coins9 r26'.1).bind fun r31' =>
                (D51 n coins9 r27'.1).bind fun r32' =>
                ((bif ((r26'.2 == 0) == true) then some (r27'.2 == 0)
                  else some false)).bind fun b33' =>
                ((bif (b33' == true) then some r31'.2.2
                  else some false)).bind fun b34' =>
                ((bif (b34' == true) then some r32'.2.2
                  else some false)).bind fun b35' =>
                ((bif (b35' == true) then some (r31'.1 == s10)
                  else some false)).bind fun b36' =>
                ((bif (b36' == true) then some (r32'.1 == s10)
                  else some false)).bind fun b37' =>
                ((bif (b37' == true) then some (decide (r32'.2.1 ≤ r31'.2.1))
                  else some false)).bind fun b38' =>
                ((bif (b38' == true) then (D17 n).bind fun r39' =>
                    some r39'
                  else some false)).bind fun b40' =>
                some b40')
            else none))
        else none)))
noncomputable def DL14_1 (n : Nat × Nat) (m : Nat) : Int → Int → Int → Int → Int → Int → Int → Int → Int → Int → List Int → List Int → Option R14 := Nat.rec (motive := fun _ => Int → Int → Int → Int → Int → Int → Int → Int → Int → Int → List Int → List Int → Option R14) (fun _ _ _ _ _ _ _ _ _ _ _ _ => none) (fun _ ih => DF14_1 n ih) m
theorem DL14_1_succ (n : Nat × Nat) (m : Nat) : DL14_1 n (m + 1) = DF14_1 n (DL14_1 n m) := rfl
theorem DL14_1_eq (n : Nat × Nat) (hn : n.2 = 1) : ∀ m, L14_1 n m = DL14_1 n m
  | 0 => by funext one2 s10 v142 v143 purse5_0 purse5_1 purse5_2 purse5_3 purse5_4 purse5_5 coins9 has25; kernel_rfl
  | m + 1 => by
    have ih := DL14_1_eq n hn m
    funext one2 s10 v142 v143 purse5_0 purse5_1 purse5_2 purse5_3 purse5_4 purse5_5 coins9 has25; refine (L14_1_eq n m one2 s10 v142 v143 purse5_0 purse5_1 purse5_2 purse5_3 purse5_4 purse5_5 coins9 has25).trans ?_
    rw [DL14_1_succ]
    unfold DF14_1
    (try simp only [ih, S17_D n hn, S20_D n hn, S22_D n hn, S24_D n hn, S41_D n hn, S43_D n hn, S46_D n hn, S51_D n hn, S52_D n hn]) <;> first | with_reducible rfl | rfl
noncomputable def D14 (n : Nat × Nat) (m0 : Int × Int × Int × Int × Int × Int) (purse1 : Int × Int × Int × Int × Int × Int) (one2 : Int) (sum3 : Int) : Option R14 :=
    (D43 n m0 6 40).bind fun r1' =>
    (bif 201 == 0 then none
    else (D20 n r1' (Int.tmod (wr .i64 sum3) 201)).bind fun r2' =>
      (D22 n r1' (Int.tmod (wr .i64 sum3) 201)).bind fun r3' =>
      ((bif ((r2'.2 != 0) == false) then some (r3'.2 != 0)
        else some true)).bind fun b4' =>
      (bif b4' then some false
      else (D51 n r1' r2'.1).bind fun r5' =>
        (D51 n r1' r3'.1).bind fun r6' =>
        ((bif ((!r5'.2.2) == false) then some (!r6'.2.2)
          else some true)).bind fun b7' =>
        ((bif (b7' == false) then some (r5'.1 != (Int.tmod (wr .i64 sum3) 201))
          else some true)).bind fun b8' =>
        ((bif (b8' == false) then some (r6'.1 != (Int.tmod (wr .i64 sum3) 201))
          else some true)).bind fun b9' =>
        (bif b9' then some false
        else (D41 n r1' r2'.1 (Int.tmod (wr .i64 sum3) 201)).bind fun r10' =>
          (D41 n r1' r3'.1 (Int.tmod (wr .i64 sum3) 201)).bind fun r11' =>
          (D52 n [200] (r1'.length : Int)).bind fun r12' =>
          (D41 n r1' r12' (Int.tmod (wr .i64 sum3) 201)).bind fun r13' =>
          ((bif ((r10'.2 != 0) == false) then some (r11'.2 != 0)
            else some true)).bind fun b14' =>
          ((bif (b14' == false) then some (r13'.2 != 0)
            else some true)).bind fun b15' =>
          ((bif (b15' == false) then (D24 n r10'.1 r2'.1).bind fun r16' =>
              some (!r16')
            else some true)).bind fun b17' =>
          ((bif (b17' == false) then (D24 n r11'.1 r3'.1).bind fun r18' =>
              some (!r18')
            else some true)).bind fun b19' =>
          ((bif (b19' == false) then (D24 n r13'.1 r2'.1).bind fun r20' =>
              some (!r20')
            else some true)).bind fun b21' =>
          (bif b21' then some false
          else DL14_1 n n.1 one2 (Int.tmod (wr .i64 sum3) 201) (r1'.length : Int) 0 purse1.1 purse1.2.1 purse1.2.2.1 purse1.2.2.2.1 purse1.2.2.2.2.1 purse1.2.2.2.2.2 r1' []))))
theorem S14_D (n : Nat × Nat) (hn : n.2 = 1) : S14 n = D14 n := by
  funext m0 purse1 one2 sum3; refine (S14_eq n m0 purse1 one2 sum3).trans ?_
  unfold D14
  (try simp only [DL14_1_eq n hn, S17_D n hn, S20_D n hn, S22_D n hn, S24_D n hn, S41_D n hn, S43_D n hn, S46_D n hn, S51_D n hn, S52_D n hn]) <;> first | with_reducible rfl | rfl
end Go.Proofs.Ytjgmfdgpgdaclaa
/-
  Coins: what a payment is worth.
-/
set_option linter.unusedVariables false
set_option linter.unusedSimpArgs false
namespace Go.Proofs.Ytjgmfdgpgdaclaa
open Go.Vi
theorem PayU.dot : ∀ {cs : List Int} {s : Int} {p : List Int}, PayU cs s p → Ytjgmfdgpgdaclaa.dot cs p = s
  | [], s, p, h => by rw [h.2, h.1]; rfl
  | c :: cs, s, p, ⟨n, p', h1, h2, h4⟩ => by
    rw [h1]
    simp only [Ytjgmfdgpgdaclaa.dot]
    rw [h4.dot]
    omega
theorem PayU.mem {cs : List Int} : ∀ (hp : ∀ c ∈ cs, 1 ≤ c) {s : Int} {p : List Int}, PayU cs s p → ∀ x ∈ p, 0 ≤ x ∧ x ≤ tot p := by
  induction cs with
  | nil => intro hp s p h x hx; rw [h.2] at hx; cases hx
  | cons c cs ih =>
    intro hp s p ⟨n, p', h1, h2, h4⟩ x hx
    have h5 := (PayU.sum (fun c h => hp c (by simp [h])) h4).1
    rw [h1] at hx ⊢
    simp only [tot]
    rcases List.mem_cons.1 hx with rfl | hx
    · omega
    · have := ih (fun c h => hp c (by simp [h])) h4 x hx
      omega
theorem pay_cnt {cs : List Int} (hv : Vld cs) {s : Int} {p : List Int} (h : PayU cs s p) (hs : s ≤ 200) : cnt cs p = 0 := by
  unfold cnt
  rw [if_neg (by simpa using h.length), if_pos]
  intro x hx
  have h1 := h.mem hv.mnt.pos x hx
  have h2 := PayU.sum hv.mnt.pos h
  omega
theorem worth_loop {n : Nat × Nat} {cs : List Int} (hv : Vld cs) {p : List Int} (hpl : p.length = cs.length) (hp : ∀ x ∈ p, 0 ≤ x ∧ x ≤ 1000) : ∀ (m i : Nat) (w t : Int), i ≤ p.length → p.length - i < m → 0 ≤ w → w ≤ 40000 * i → 0 ≤ t → t ≤ 1000 * i →
    DL51_1 n m cs w t p (p.length : Int) (i : Int) = some (w + dot (cs.drop i) (p.drop i), t + tot (p.drop i), true)
  | 0, i, w, t, _, h, _, _, _, _ => by omega
  | m + 1, i, w, t, hi, h, a, b, c, d => by
    have hl := hv.len
    rw [DL51_1_succ]
    unfold DF51_1
    by_cases hlt : i < p.length
    · have hlc : i < cs.length := by omega
      have hx := hp p[i] (List.getElem_mem _)
      have hc := hv.rng cs[i] (List.getElem_mem _)
      have hm1 := Int.mul_nonneg hx.1 (show 0 ≤ cs[i] by omega)
      have hm2 : p[i] * cs[i] ≤ 1000 * 40 := Int.mul_le_mul hx.2 hc.2 (by omega) (by omega)
      rw [decide_eq_true (show (i : Int) < (p.length : Int) by omega), cond_true, idx_nat hlt, idx_nat hlc, drop_cons hlt, drop_cons hlc]
      simp only [Option.bind_some, dot, tot]
      rw [decide_eq_false (show ¬ p[i] < 0 by omega), decide_eq_false (show ¬ p[i] > 1000 by omega)]
      simp only [show (false == false) = true from rfl, cond_true, cond_false, Option.bind_some]
      rw [wr_ok (x := p[i] * cs[i]) (by omega) (by omega), wr_ok (x := w + p[i] * cs[i]) (by omega) (by omega), wr_ok (x := t + p[i]) (by omega) (by omega)]
      have ih := worth_loop (n := n) hv hpl hp m (i + 1) (w + p[i] * cs[i]) (t + p[i]) (by omega) (by omega) (by omega) (by omega) (by omega) (by omega)
      rw [show ((i + 1 : Nat) : Int) = wr .i64 ((i : Int) + 1) by rw [wr_ok (by omega) (by omega)]; omega] at ih
      rw [ih, show w + p[i] * cs[i] + dot (cs.drop (i + 1)) (p.drop (i + 1)) = w + (p[i] * cs[i] + dot (cs.drop (i + 1)) (p.drop (i + 1))) by omega, show t + p[i] + tot (p.drop (i + 1)) = t + (p[i] + tot (p.drop (i + 1))) by omega]
    · rw [decide_eq_false (show ¬ (i : Int) < (p.length : Int) by omega), cond_false]
      rw [List.drop_of_length_le (show p.length ≤ i by omega), List.drop_of_length_le (show cs.length ≤ i by omega)]
      simp [dot, tot]
theorem worth_eq {n : Nat × Nat} (hn : 1000 ≤ n.1) {cs : List Int} (hv : Vld cs) {p : List Int} (hpl : p.length = cs.length) (hp : ∀ x ∈ p, 0 ≤ x ∧ x ≤ 1000) : D51 n cs p = some (dot cs p, tot p, true) := by
  unfold D51
  have hl := hv.len
  rw [show ((p.length : Int) != (cs.length : Int)) = false by simp [hpl], cond_false]
  have := worth_loop (n := n) hv hpl hp n.1 0 0 0 (by omega) (by omega) (by omega) (by omega) (by omega) (by omega)
  simpa using this
end Go.Proofs.Ytjgmfdgpgdaclaa
/-
  Coins: what a purse pays is the first of its payments with the fewest coins.
-/
set_option linter.unusedVariables false
set_option linter.unusedSimpArgs false
namespace Go.Proofs.Ytjgmfdgpgdaclaa
open Go.Vi

theorem pcell_spec {f : Int → Int} {q c x : Int} (hc : 1 ≤ c) : ∀ (k : Nat) (n cur : Int), 0 ≤ n → x < n + k →
    (pcell f q c x k n cur = cur ∨ ∃ m, n ≤ m ∧ m ≤ q ∧ m * c ≤ x ∧ 0 ≤ f (x - m * c) ∧ pcell f q c x k n cur = f (x - m * c) + m) ∧ (0 ≤ cur → 0 ≤ pcell f q c x k n cur ∧ pcell f q c x k n cur ≤ cur) ∧
    (∀ m, n ≤ m → m ≤ q → m * c ≤ x → 0 ≤ f (x - m * c) → 0 ≤ pcell f q c x k n cur ∧ pcell f q c x k n cur ≤ f (x - m * c) + m)
  | 0, n, cur, hn, hx => by
    refine ⟨.inl rfl, fun h => ⟨h, Int.le_refl _⟩, fun m h1 h2 h3 h4 => ?_⟩
    have : m * 1 ≤ m * c := Int.mul_le_mul_of_nonneg_left hc (by omega)
    omega
  | k + 1, n, cur, hn, hx => by
    by_cases h : n ≤ q ∧ n * c ≤ x
    · rw [pcell_go h.1 h.2]
      obtain ⟨a, b, d⟩ := pcell_spec (f := f) (q := q) (x := x) hc k (n + 1) (upd1 cur (f (x - n * c)) n) (by omega) (by omega)
      have hu : upd1 cur (f (x - n * c)) n = cur ∨ (0 ≤ f (x - n * c) ∧ upd1 cur (f (x - n * c)) n = f (x - n * c) + n) := by
        unfold upd1
        cases hb : (decide (0 ≤ f (x - n * c)) && (decide (cur < 0) || decide (f (x - n * c) + n < cur))) with
        | true => simp only [Bool.and_eq_true, decide_eq_true_eq] at hb; exact .inr ⟨hb.1, rfl⟩
        | false => exact .inl rfl
      have hu2 : 0 ≤ cur → 0 ≤ upd1 cur (f (x - n * c)) n ∧ upd1 cur (f (x - n * c)) n ≤ cur := fun h0 => by
        unfold upd1
        cases hb : (decide (0 ≤ f (x - n * c)) && (decide (cur < 0) || decide (f (x - n * c) + n < cur))) with
        | true =>
          simp only [Bool.and_eq_true, Bool.or_eq_true, decide_eq_true_eq] at hb
          rw [cond_true]
          omega
        | false => rw [cond_false]; omega
      have hu3 : 0 ≤ f (x - n * c) → 0 ≤ upd1 cur (f (x - n * c)) n ∧ upd1 cur (f (x - n * c)) n ≤ f (x - n * c) + n := fun h0 => by
        unfold upd1
        cases hb : (decide (0 ≤ f (x - n * c)) && (decide (cur < 0) || decide (f (x - n * c) + n < cur))) with
        | true => rw [cond_true]; omega
        | false =>
          rw [cond_false]
          rw [decide_eq_true h0, Bool.true_and, Bool.or_eq_false_iff] at hb
          have h1 := of_decide_eq_false hb.1
          have h2 := of_decide_eq_false hb.2
          omega
      generalize upd1 cur (f (x - n * c)) n = u at *
      refine ⟨?_, fun h0 => ?_, fun m h1 h2 h3 h4 => ?_⟩
      · rcases a with a | ⟨m, m1, m2, m3, m4, m5⟩
        · rcases hu with hu | ⟨hu, hu'⟩
          · exact .inl (by omega)
          · exact .inr ⟨n, Int.le_refl n, h.1, h.2, hu, by omega⟩
        · exact .inr ⟨m, by omega, m2, m3, m4, m5⟩
      · have := hu2 h0
        have := b this.1
        omega
      · by_cases e : m = n
        · subst e
          have := hu3 h4
          have := b this.1
          omega
        · exact d m (by omega) h2 h3 h4
    · rw [pcell_stop (by omega)]
      refine ⟨.inl rfl, fun h => ⟨h, Int.le_refl _⟩, fun m h1 h2 h3 h4 => ?_⟩
      have : n * c ≤ m * c := Int.mul_le_mul_of_nonneg_right h1 (by omega)
      omega
theorem Pay.nn : ∀ {l ps : List Int} {x : Int} {p : List Int}, (∀ c ∈ l, 1 ≤ c) → Pay l ps x p → 0 ≤ x
  | [], _, x, p, _, h => by rw [h.1]; exact Int.le_refl 0
  | c :: l, ps, x, p, hp, ⟨n, p', h1, h2, h3, h4⟩ => by
    have := h4.nn (fun c h => hp c (by simp [h]))
    have := Int.mul_nonneg h2 (show 0 ≤ c by have := hp c (by simp); omega)
    omega
theorem bc_pay : ∀ {l : List Int} (hp : ∀ c ∈ l, 1 ≤ c) {ps : List Int} {x : Int}, 0 ≤ x → 0 ≤ bc l ps x → ∃ p, Pay l ps x p ∧ tot p = bc l ps x
  | [], _, ps, x, h0, h => by
    unfold bc at h ⊢
    cases hx : x == 0 with
    | true => exact ⟨[], ⟨by simpa using hx, rfl⟩, rfl⟩
    | false => rw [hx] at h; simp at h
  | c :: l, hp, ps, x, h0, h => by
    unfold bc at h ⊢
    obtain ⟨a, _, _⟩ := pcell_spec (f := bc l ps.tail) (q := ps.headD 0) (x := x) (hp c (by simp)) (x.toNat + 1) 0 (-1) (Int.le_refl 0) (by omega)
    rcases a with a | ⟨m, m1, m2, m3, m4, m5⟩
    · omega
    · obtain ⟨p, h1, h2⟩ := bc_pay (fun c h => hp c (by simp [h])) (by omega) m4
      exact ⟨m :: p, ⟨m, p, rfl, m1, m2, h1⟩, by simp only [tot]; omega⟩
theorem bc_le : ∀ {l : List Int} (hp : ∀ c ∈ l, 1 ≤ c) {ps : List Int} {x : Int} {p : List Int}, Pay l ps x p → 0 ≤ bc l ps x ∧ bc l ps x ≤ tot p
  | [], _, ps, x, p, h => by
    rw [h.1, h.2]
    unfold bc
    simp [tot]
  | c :: l, hp, ps, x, p, h => by
    have hx := h.nn hp
    obtain ⟨n, p', rfl, h2, h3, h4⟩ := h
    obtain ⟨a, b⟩ := bc_le (fun c h => hp c (by simp [h])) h4
    have hx2 := h4.nn (fun c h => hp c (by simp [h]))
    obtain ⟨_, _, d⟩ := pcell_spec (f := bc l ps.tail) (q := ps.headD 0) (x := x) (hp c (by simp)) (x.toNat + 1) 0 (-1) (Int.le_refl 0) (by omega)
    have := d n h2 h3 (by omega) a
    unfold bc
    simp only [tot]
    omega
theorem pfind_spec {f : Int → Int} {c t s : Int} (hc : 1 ≤ c) : ∀ (k : Nat) (n : Int), 0 ≤ n → s < n + k → ∀ m, n ≤ m → m * c ≤ s → 0 ≤ f (s - m * c) → f (s - m * c) + m = t → ∃ m', pfind f c t s k n = some m' ∧ n ≤ m' ∧ m' ≤ m ∧ m' * c ≤ s ∧ 0 ≤ f (s - m' * c) ∧ f (s - m' * c) + m' = t ∧ ∀ j, n ≤ j → j < m' → j * c ≤ s → 0 ≤ f (s - j * c) → f (s - j * c) + j ≠ t
  | 0, n, hn, hs, m, h1, h2, h3, h4 => by
    have : m * 1 ≤ m * c := Int.mul_le_mul_of_nonneg_left hc (by omega)
    omega
  | k + 1, n, hn, hs, m, h1, h2, h3, h4 => by
    have hnc : n * c ≤ m * c := Int.mul_le_mul_of_nonneg_right h1 (by omega)
    by_cases h : 0 ≤ f (s - n * c) ∧ f (s - n * c) + n = t
    · exact ⟨n, pfind_hit (by omega) h.1 h.2 k, Int.le_refl n, h1, by omega, h.1, h.2, fun j h1 h2 => by omega⟩
    · rw [pfind_go (by omega) h]
      have hne : m ≠ n := fun e => h (e ▸ ⟨h3, h4⟩)
      obtain ⟨m', a, b, d, e, g, i, j⟩ := pfind_spec hc k (n + 1) (by omega) (by omega) m (by omega) h2 h3 h4
      refine ⟨m', a, by omega, d, e, g, i, fun y y1 y2 y3 y4 => ?_⟩
      by_cases hy : y = n
      · subst hy; exact fun e => h ⟨y4, e⟩
      · exact j y (by omega) y2 y3 y4
theorem pout_best : ∀ {l : List Int} (hp : ∀ c ∈ l, 1 ≤ c) {ps : List Int} {x : Int}, 0 ≤ x → 0 ≤ bc l ps x → IsBst (Pay l ps x) (pout l ps x) ∧ tot (pout l ps x) = bc l ps x
  | [], _, ps, x, h0, h => by
    have hx : x = 0 := by
      unfold bc at h
      cases hx : x == 0 with
      | true => simpa using hx
      | false => rw [hx] at h; simp at h
    subst hx
    exact ⟨⟨⟨rfl, rfl⟩, fun p' h' => .inr ⟨by rw [h'.2]; rfl, by rw [h'.2]; exact Lx.refl _⟩⟩, rfl⟩
  | c :: l, hp, ps, x, h0, h => by
    have hc := hp c (by simp)
    have hpl : ∀ c ∈ l, 1 ≤ c := fun c h => hp c (by simp [h])
    obtain ⟨p, h1, h2⟩ := bc_pay hp h0 h
    obtain ⟨n, p', rfl, n0, nq, h4⟩ := h1
    simp only [tot] at h2
    obtain ⟨a, b⟩ := bc_le hpl h4
    have hx2 := h4.nn hpl
    obtain ⟨_, _, d⟩ := pcell_spec (f := bc l ps.tail) (q := ps.headD 0) (x := x) hc (x.toNat + 1) 0 (-1) (Int.le_refl 0) (by omega)
    have hmin : bc (c :: l) ps x = pcell (bc l ps.tail) (ps.headD 0) c x (x.toNat + 1) 0 (-1) := rfl
    have hn := d n n0 nq (by omega) a
    rw [← hmin] at hn
    obtain ⟨m, e1, e2, e3, e4, e5, e6, e7⟩ := pfind_spec (f := bc l ps.tail) (t := bc (c :: l) ps x) hc (x.toNat + 1) 0 (Int.le_refl 0) (by omega) n n0 (by omega) a (by omega)
    obtain ⟨⟨i1, i2⟩, i3⟩ := pout_best hpl (ps := ps.tail) (x := x - m * c) (by omega) e5
    have hpo : pout (c :: l) ps x = m :: pout l ps.tail (x - m * c) := by
      rw [pout, e1]
    rw [hpo]
    refine ⟨⟨⟨m, _, rfl, e2, by omega, i1⟩, ?_⟩, by simp only [tot]; omega⟩
    rintro q ⟨j, q', rfl, j0, jq, j4⟩
    obtain ⟨k1, k2⟩ := bc_le hpl j4
    have hx3 := j4.nn hpl
    have hj := d j j0 jq (by omega) k1
    rw [← hmin] at hj
    simp only [tot]
    by_cases hlt : m + tot (pout l ps.tail (x - m * c)) < j + tot q'
    · exact .inl hlt
    · right
      refine ⟨by omega, ?_⟩
      by_cases hjm : j < m
      · exact absurd (by omega) (e7 j j0 hjm (by omega) k1)
      · by_cases e : m = j
        · subst e
          refine .inr ⟨rfl, ?_⟩
          rcases i2 q' j4 with h9 | ⟨_, h9⟩
          · omega
          · exact h9
        · exact .inl (by omega)

theorem clone_eq2 {n : Nat × Nat} {cs : List Int} (h : 0 < cs.length) (hl : cs.length ≤ 1000) : D46 n cs = some cs := by
  unfold D46
  cases cs with
  | nil => simp at h
  | cons a l =>
    rw [decide_eq_true (show ([] : List Int).length + (a :: l).length ≤ lim by simp [lim]; simp at hl; omega)]
    rfl
theorem repB200 : repB 200 7 = true := by kernel_rfl
theorem rep200 {k : Nat} (h : k < 7) : D52 N [200] (k : Int) = some (List.replicate k 200) := by
  have := List.all_eq_true.1 repB200 k (by simpa using h)
  simpa using this
/-- What a purse pays. -/
theorem purse_eq {cs ps : List Int} {s : Int} (hv : Vld cs) (s0 : 0 ≤ s) (s1 : s ≤ 200) (hl : ps.length = cs.length) (hq : ∀ q ∈ ps, 0 ≤ q ∧ q ≤ 200) :
    (D41 N cs ps s = some ([], 12) ∧ ∀ p, ¬ Pay cs ps s p) ∨ ∃ p, D41 N cs ps s = some (p, 0) ∧ IsBst (Pay cs ps s) p := by
  unfold D41 HF41
  have hcl := hv.len
  have hcp := hv.pos
  have hc0 : cnt cs ps = 0 := by unfold cnt; rw [if_neg (by simpa using hl), if_pos hq]
  rw [smd_eq hN1, smd_ok hv s0 s1]
  simp only [Option.bind_some, show ((0 : Int) != 0) = false from rfl, cond_false]
  rw [cnt_eq hN1 cs ps hcp (by omega), hc0]
  simp only [Option.bind_some, show ((0 : Int) != 0) = false from rfl, cond_false]
  obtain ⟨s', rfl⟩ := Int.eq_ofNat_of_zero_le s0
  rw [show (s' : Int) + 1 = ((s' + 1 : Nat) : Int) by omega, rep_eq (by omega)]
  simp only [Option.bind_some]
  rw [clone_eq2 (by simp) (by simp; omega)]
  simp only [Option.bind_some]
  have hb : ((cs.all fun c => decide (1 ≤ c) && decide (c ≤ 40)) && (decide (0 < cs.length) && decide (cs.length ≤ 6)) && (decide (0 ≤ (s' : Int)) && decide ((s' : Int) ≤ 200)) && (decide (ps.length = cs.length) && ps.all fun q => decide (0 ≤ q) && decide (q ≤ 200)) &&
      (decide (List.replicate (s' + 1) (-1 : Int) = List.replicate ((s' : Int).toNat + 1) (-1)) && decide True)) = true := by
    simp only [Bool.and_eq_true, decide_eq_true_eq, List.all_eq_true, Int.toNat_natCast]
    exact ⟨⟨⟨⟨fun c hc => hv.rng c hc, hcp, hcl⟩, s0, s1⟩, hl, hq⟩, trivial, trivial⟩
  rw [hb, cond_true]
  by_cases hn : bc cs ps s' < 0
  · left
    rw [decide_eq_true hn, cond_true]
    refine ⟨rfl, fun p hp => ?_⟩
    have := bc_le hv.mnt.pos hp
    omega
  · right
    rw [decide_eq_false hn, cond_false]
    exact ⟨_, rfl, (pout_best hv.mnt.pos s0 (by omega)).1⟩

/-- A payment out of itself is the only one. -/
theorem Pay.self : ∀ {cs : List Int} (hp : ∀ c ∈ cs, 1 ≤ c) {f : List Int} {s s' : Int} {p : List Int}, Pay cs f s p → PayU cs s' f → s ≤ s' ∧ (s = s' → p = f)
  | [], _, f, s, s', p, h, k => by
    rw [h.1, k.1]
    exact ⟨Int.le_refl 0, fun _ => by rw [h.2, k.2]⟩
  | c :: l, hp, f, s, s', p, ⟨n, p', h1, h2, h3, h4⟩, ⟨m, f', k1, k2, k3⟩ => by
    subst h1
    subst k1
    have h3 : n ≤ m := h3
    obtain ⟨a, b⟩ := Pay.self (fun c h => hp c (by simp [h])) (f := f') h4 k3
    have hc := hp c (by simp)
    have hm : n * c ≤ m * c := Int.mul_le_mul_of_nonneg_right h3 (by omega)
    refine ⟨by omega, fun e => ?_⟩
    have hmn : m = n := by
      by_cases e2 : n < m
      · have : (n + 1) * c ≤ m * c := Int.mul_le_mul_of_nonneg_right (by omega) (by omega)
        rw [Int.add_mul] at this
        omega
      · omega
    subst hmn
    rw [b (by omega)]
theorem PayU.own : ∀ {cs : List Int} {s : Int} {f : List Int}, PayU cs s f → Pay cs f s f
  | [], s, f, h => h
  | c :: l, s, f, ⟨n, p', h1, h2, h3⟩ => by
    subst h1
    exact ⟨n, p', rfl, h2, Int.le_refl n, h3.own⟩
theorem purse_self {cs f : List Int} {s : Int} (hv : Vld cs) (s0 : 0 ≤ s) (s1 : s ≤ 200) (hf : PayU cs s f) : D41 N cs f s = some (f, 0) := by
  have hb : ∀ q ∈ f, 0 ≤ q ∧ q ≤ 200 := fun q hq => by
    have h1 := hf.mem hv.mnt.pos q hq
    have h2 := PayU.sum hv.mnt.pos hf
    omega
  rcases purse_eq hv s0 s1 hf.length hb with ⟨_, h⟩ | ⟨p, h1, h2⟩
  · exact absurd hf.own (h f)
  · rw [h1, (h2.1.self hv.mnt.pos hf).2 rfl]
theorem Pay.more : ∀ {cs : List Int} {a b : List Int} {s : Int} {p : List Int}, (∀ i : Nat, a[i]?.getD 0 ≤ b[i]?.getD 0) → Pay cs a s p → Pay cs b s p
  | [], _, _, _, _, _, h => h
  | c :: l, a, b, s, p, hab, ⟨n, p', h1, h2, h3, h4⟩ => by
    have h0 := hab 0
    have ha : a.headD 0 = a[0]?.getD 0 := by cases a <;> rfl
    have hb : b.headD 0 = b[0]?.getD 0 := by cases b <;> rfl
    refine ⟨n, p', h1, h2, by omega, Pay.more (fun i => ?_) h4⟩
    have h5 := hab (i + 1)
    have ta : a.tail[i]? = a[i + 1]? := by cases a <;> simp
    have tb : b.tail[i]? = b[i + 1]? := by cases b <;> simp
    rw [ta, tb]
    exact h5
theorem bst_le {A B : List Int → Prop} {p q : List Int} (h : IsBst A p) (k : IsBst B q) (hAB : ∀ p, A p → B p) : tot q ≤ tot p := by
  rcases k.2 p (hAB p h.1) with h1 | ⟨h1, _⟩ <;> omega
end Go.Proofs.Ytjgmfdgpgdaclaa
/-
  Coins: the law CoinBack.
-/
set_option linter.unusedVariables false
set_option linter.unusedSimpArgs false
namespace Go.Proofs.Ytjgmfdgpgdaclaa
open Go.Vi
theorem worth_pay {cs : List Int} (hv : Vld cs) {s : Int} (s0 : 0 ≤ s) (s1 : s ≤ 200) {p : List Int} (h : PayU cs s p) : D51 N cs p = some (s, tot p, true) := by
  have h1 := h.mem hv.mnt.pos
  have h2 := PayU.sum hv.mnt.pos h
  rw [worth_eq hN1 hv h.length (fun x hx => by have := h1 x hx; omega), h.dot]
theorem back_loop {cs : List Int} (hv : Vld cs) (one s : Int) (hs : 0 ≤ s ∧ s ≤ 200) (ho : 0 ≤ one ∧ one ≤ 255) (a b c d e f : Int) (hP : ∀ x ∈ [a, b, c, d, e, f], 0 ≤ x ∧ x ≤ 255) : ∀ (m i : Nat) (l : List Int), i ≤ cs.length → cs.length - i < m → l.length = i → (∀ x ∈ l, 0 ≤ x ∧ x ≤ 8) →
    DL14_1 N m one s (cs.length : Int) (i : Int) a b c d e f cs l = some true
  | 0, i, l, _, h, _, _ => by omega
  | m + 1, i, l, hi, h, hl, hx => by
    have hcl := hv.len
    have hcp := hv.pos
    rw [DL14_1_succ]
    unfold DF14_1
    by_cases hlt : i < cs.length
    · have hi6 : i < [a, b, c, d, e, f].length := by simp; omega
      have hy := hP [a, b, c, d, e, f][i] (List.getElem_mem _)
      rw [decide_eq_true (show (i : Int) < (cs.length : Int) by omega), cond_true, inB_nat (show i < 6 by omega), cond_true, idx_nat hi6]
      simp only [Option.bind_some]
      rw [show ((9 : Nat) == 0) = false from rfl, cond_false]
      obtain ⟨t1, t2, t3⟩ := tmod_u8 hy (k := 9) (by omega)
      rw [t1, decide_eq_true (show l.length + [[a, b, c, d, e, f][i] % 9].length ≤ lim by simp [lim]; omega), cond_true]
      have ih := back_loop hv one s hs ho a b c d e f hP m (i + 1) (l ++ [[a, b, c, d, e, f][i] % 9]) (by omega) (by omega) (by simp [hl]) (fun x hx2 => by
        rcases List.mem_append.1 hx2 with h2 | h2
        · exact hx x h2
        · rw [List.mem_singleton] at h2
          rw [h2]; omega)
      rw [show ((i + 1 : Nat) : Int) = wr .i64 ((i : Int) + 1) by rw [wr_ok (by omega) (by omega)]; omega] at ih
      exact ih
    · rw [decide_eq_false (show ¬ (i : Int) < (cs.length : Int) by omega), cond_false]
      have hll : l.length = cs.length := by omega
      obtain ⟨t1, t2, t3⟩ := tmod_u8 ho (k := (cs.length : Int)) (by omega)
      obtain ⟨u1, u2, u3⟩ := tmod_u8 ho (k := 5) (by omega)
      rw [show ((cs.length : Int) == 0) = false by simpa using (show ¬ cs.length = 0 by omega), cond_false, clone_eq (n := N) (cs := l) (by omega) (by omega), t1, u1]
      simp only [Option.bind_some]
      obtain ⟨k, hk⟩ := Int.eq_ofNat_of_zero_le t2
      rw [hk] at t3 ⊢
      have hkl : k < l.length := by omega
      have hxk := hx l[k] (List.getElem_mem _)
      rw [inB_nat hkl, cond_true, idx_nat hkl]
      simp only [Option.bind_some]
      rw [show ((5 : Nat) == 0) = false from rfl, cond_false, cond_true, wr_ok (x := 1 + one % 5) (by omega) (by omega), wr_ok (x := l[k] + (1 + one % 5)) (by omega) (by omega), Int.toNat_natCast]
      have hq : ∀ q ∈ l, 0 ≤ q ∧ q ≤ 200 := fun q hq => by have := hx q hq; omega
      have hq2 : ∀ q ∈ l.set k (l[k] + (1 + one % 5)), 0 ≤ q ∧ q ≤ 200 := fun q hq => by
        rcases List.mem_or_eq_of_mem_set hq with h1 | h1
        · have := hx q h1; omega
        · omega
      have hmore : ∀ i : Nat, l[i]?.getD 0 ≤ (l.set k (l[k] + (1 + one % 5)))[i]?.getD 0 := fun i => by
        rw [List.getElem?_set]
        by_cases e : k = i
        · subst e
          rw [if_pos rfl, if_pos hkl, List.getElem?_eq_getElem hkl]
          show l[k] ≤ l[k] + (1 + one % 5)
          omega
        · rw [if_neg e]
          exact Int.le_refl _
      rcases purse_eq hv hs.1 hs.2 hll hq with ⟨e1, n1⟩ | ⟨p, e1, b1⟩
      · rcases purse_eq hv hs.1 hs.2 (ps := l.set k (l[k] + (1 + one % 5))) (by simpa using hll) hq2 with ⟨e2, n2⟩ | ⟨q, e2, b2⟩
        · rw [e1, e2]
          simp only [Option.bind_some, works_eq]
          rfl
        · rw [e1, e2]
          simp only [Option.bind_some, works_eq]
          rfl
      · rcases purse_eq hv hs.1 hs.2 (ps := l.set k (l[k] + (1 + one % 5))) (by simpa using hll) hq2 with ⟨e2, n2⟩ | ⟨q, e2, b2⟩
        · exact absurd (Pay.more hmore b1.1) (n2 p)
        · have hle := bst_le b1 b2 (fun p hp => Pay.more hmore hp)
          rw [e1, e2]
          simp only [Option.bind_some, works_eq, worth_pay hv hs.1 hs.2 b1.1.free, worth_pay hv hs.1 hs.2 b2.1.free, decide_eq_true hle]
          simp
theorem back_ok (xs : pksDen (pks [ShM, ShM, .int .u8, .int .u8])) (h : WfL [ShM, ShM, .int .u8, .int .u8] xs) : ∃ n, S14 n xs.1 xs.2.1 xs.2.2.1 xs.2.2.2.1 = some true := by
  refine ⟨N, ?_⟩
  rw [S14_D N rfl]
  unfold D14
  obtain ⟨cs, g1, hv, g3, g4⟩ := made_eq hN1 (m0 := xs.1) h.1 (many := 6) (most := 40) (by omega) (by omega) (by omega) (by omega)
  rw [g1]
  simp only [Option.bind_some]
  obtain ⟨p1, p2, p3, p4, p5, p6⟩ := h.2.1
  have hl := hv.len
  have hp := hv.pos
  obtain ⟨t1, t2, t3⟩ := tmod_u8 (u8_rng h.2.2.2.1) (k := 201) (by omega)
  have hloop := fun s hs => back_loop hv xs.2.2.1 s hs (u8_rng h.2.2.1) xs.2.1.1 xs.2.1.2.1 xs.2.1.2.2.1 xs.2.1.2.2.2.1 xs.2.1.2.2.2.2.1 xs.2.1.2.2.2.2.2 (fun x hx => by
    simp only [List.mem_cons, List.not_mem_nil, or_false] at hx
    rcases hx with rfl | rfl | rfl | rfl | rfl | rfl
    · exact u8_rng p1
    · exact u8_rng p2
    · exact u8_rng p3
    · exact u8_rng p4
    · exact u8_rng p5
    · exact u8_rng p6) N.1 0 [] (by omega) (by show cs.length - 0 < 10000; omega) rfl (by simp)
  rw [show ((201 : Nat) == 0) = false from rfl, cond_false, t1]
  obtain ⟨s, hs⟩ : ∃ s : Int, s = xs.2.2.2.1 % 201 := ⟨_, rfl⟩
  rw [← hs] at t2 t3 ⊢
  have hsm := smd_ok hv t2 (show s ≤ 200 by omega)
  rcases first_eq hN2 cs s with ⟨h1, _⟩ | ⟨_, p, e1, b1⟩
  · exact absurd hsm h1
  have hg := gr_payU hv t2
  have hgr : D22 N cs s = some ((gr cs s).1, 0) := by
    rw [grS_eq hN1]; unfold grS; rw [if_neg (by simpa using hsm)]
  obtain ⟨q, e2, b2⟩ : ∃ q, D41 N cs (List.replicate cs.length 200) s = some (q, 0) ∧ IsBst (Pay cs (List.replicate cs.length 200) s) q := by
    rcases purse_eq hv t2 (show s ≤ 200 by omega) (ps := List.replicate cs.length 200) (by simp) (fun q hq => by rw [List.eq_of_mem_replicate hq]; omega) with ⟨_, h9⟩ | h9
    · exact absurd ((pay_full hv.mnt.pos (m := 200) (by omega) (by simp) (fun q hq => by rw [List.eq_of_mem_replicate hq]; omega) p).2 b1.1) (h9 p)
    · exact h9
  have hqp : q = p := by
    have hb : IsBst (PayU cs s) q := ⟨b2.1.free, fun p' h' => b2.2 p' ((pay_full hv.mnt.pos (m := 200) (by omega) (by simp) (fun q hq => by rw [List.eq_of_mem_replicate hq]; omega) p').2 h')⟩
    exact IsBst.uniq (hb.1.length.trans b1.1.length.symm) hb b1
  subst hqp
  have hs2 : s ≤ 200 := by omega
  rw [e1]
  simp only [Option.bind_some, hgr, worth_pay hv t2 hs2 b1.1, worth_pay hv t2 hs2 hg, purse_self hv t2 hs2 b1.1, purse_self hv t2 hs2 hg, rep200 (show cs.length < 7 by omega), e2, same_eq hN1 _ _ (show q.length ≤ 100 by rw [b1.1.length]; omega), same_eq hN1 _ _ (show (gr cs s).1.length ≤ 100 by rw [hg.length]; omega)]
  simp only [bne_self_eq_false, beq_self_eq_true, Bool.not_true, decide_true, cond_true, cond_false, Option.bind_some, show (false == false) = true from rfl]
  exact hloop s ⟨t2, hs2⟩
end Go.Proofs.Ytjgmfdgpgdaclaa
