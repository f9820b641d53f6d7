/- The law: written by program -/
import Derived.Test.YtombednapelokaaViS
import Derived.Test.YtombednapelokaaProg
import Derived.KernelRfl
import Derived.WalkKit
import Derived.Test.YtombednapelokaaCD1
set_option linter.unusedVariables false
set_option linter.unusedSimpArgs false
set_option maxRecDepth 100000
namespace Go.Proofs.Ytombednapelokaa
open Go.Vi
/- headword/headwordlaw08.ReignSums -/
abbrev R7 := Bool
noncomputable def c7 : Code := bodyOf Try.f7
noncomputable def an7 : Ann := (.s .l (.s .l (.s .l (.s (.s .l (.j [1, 2, 7, 8, 139, 140, 141, 142, 154, 155, 156, 159, 160, 163, 164, 169, 170, 171, 172, 173, 174, 175, 178] .l .l)) (.s .l (.s (.s .l (.j [1, 2, 7, 10, 11, 12, 139, 140, 141, 142, 154, 155, 156, 159, 160, 163, 164, 169, 170, 171, 172, 173, 174, 175, 178] (.j [1, 2, 7, 8, 10, 11, 12, 41, 42, 43, 139, 140, 141, 142, 154, 155, 156, 159, 160, 163, 164, 169, 170, 171, 172, 173, 174, 175, 178] (.s .l (.s (.j [1, 2, 7, 8, 10, 11, 12, 41, 42, 43, 139, 140, 141, 142, 154, 155, 156, 159, 160, 163, 164, 169, 170, 171, 172, 173, 174, 175, 178] .l .l) (.s (.j [1, 2, 7, 8, 10, 11, 12, 41, 42, 43, 139, 140, 141, 142, 154, 155, 156, 159, 160, 163, 164, 169, 170, 171, 172, 173, 174, 175, 178] .l .l) .l))) .l) .l)) (.s .l (.s .l (.s .l (.s .l (.s .l (.j [] (.j [7, 10, 11, 12, 16, 17, 18, 19, 21, 23, 24, 154, 155, 156, 159, 160, 163, 164, 169, 170, 171, 172, 173, 174, 175, 178] (.s .l (.j [7, 10, 11, 12, 16, 17, 18, 19, 21, 23, 24, 154, 155, 156, 159, 160, 163, 164, 169, 170, 171, 172, 173, 174, 175, 178] .l (.s .l (.j [7, 10, 11, 12, 16, 17, 18, 19, 21, 23, 24, 154, 155, 156, 159, 160, 163, 164, 169, 170, 171, 172, 173, 174, 175, 178] .l .l)))) .l) (.s (.s .l (.j [7, 16, 17, 18, 24, 169, 170, 171, 172, 173, 174, 175, 178] .l .l)) .l)))))))))))))
def pk7 : List PK := [.c (.pair (.int .u8) (.pair (.pair (.int .u8) (.pair (.int .u8) (.pair (.int .u8) (.pair (.int .u8) (.pair (.int .u8) (.pair (.int .u8) (.pair (.int .u8) (.int .u8)))))))) (.pair (.int .u8) (.pair (.int .u8) (.pair (.int .u8) (.pair (.int .u8) (.pair (.int .u8) (.pair (.int .u8) (.pair (.int .u8) (.int .u8)))))))))), .c (.int .u8), .c (.int .u8)]
def rk7 : List RK := [.c .bool 6]
noncomputable def rt7 (st : St) : Option R7 := rtG rk7 st
noncomputable def E7 (n : Nat × Nat) : Env := { T := tab, phi := (consPhi 18 (fun _ => true) (P18 n) (consPhi 22 (fun _ => true) (P22 n) (consPhi 26 (fun _ => true) (P26 n) (consPhi 28 (fun _ => true) (P28 n) (consPhi 30 (fun _ => true) (P30 n) (consPhi 47 (fun _ => true) (P47 n) (consPhi 48 (fun _ => true) (P48 n) (consPhi 49 (fun _ => true) (P49 n) (consPhi 50 (fun _ => true) (P50 n) noPhi))))))))), eff := fun _ => false, fuel := n.1, hold := n.2 }
noncomputable def kq7_1 (n : Nat × Nat) : St → Option R7 := run (E7 n) (cB (cB (cB (cB c7)))) (Ann.snd (Ann.snd (Ann.snd (Ann.snd an7)))) rt7 (fun _ _ => none) rt7
noncomputable def kc7_2 (n : Nat × Nat) : St → Option R7 := fun s => normC [1, 2, 7, 8, 139, 140, 141, 142, 154, 155, 156, 159, 160, 163, 164, 169, 170, 171, 172, 173, 174, 175, 178] s (kq7_1 n)
noncomputable def kq7_3 (n : Nat × Nat) : St → Option R7 := run (E7 n) (cB (cB (cB (cB (cB (cB c7)))))) (Ann.snd (Ann.snd (Ann.snd (Ann.snd (Ann.snd (Ann.snd an7)))))) rt7 (fun _ _ => none) rt7
noncomputable def kc7_4 (n : Nat × Nat) : St → Option R7 := fun s => normC [1, 2, 7, 10, 11, 12, 139, 140, 141, 142, 154, 155, 156, 159, 160, 163, 164, 169, 170, 171, 172, 173, 174, 175, 178] s (kq7_3 n)
noncomputable def xb7_5 (n : Nat × Nat) : Nat → St → Option R7 := fun j s => bif Nat.beq j 0 then normC [1, 2, 7, 10, 11, 12, 139, 140, 141, 142, 154, 155, 156, 159, 160, 163, 164, 169, 170, 171, 172, 173, 174, 175, 178] s (kq7_3 n) else (fun _ _ => none) j s
noncomputable def F7_6 (n : Nat × Nat) : (St → Option R7) → St → Option R7 := fun K s => run (E7 n) (cA (cA (cB (cA (cB (cB (cB (cB (cB c7))))))))) (Ann.fst (Ann.fst (Ann.snd (Ann.fst (Ann.snd (Ann.snd (Ann.snd (Ann.snd (Ann.snd an7))))))))) (fun s => normC [1, 2, 7, 8, 10, 11, 12, 41, 42, 43, 139, 140, 141, 142, 154, 155, 156, 159, 160, 163, 164, 169, 170, 171, 172, 173, 174, 175, 178] s K) (xb7_5 n) rt7 s
noncomputable def kq7_7 (n : Nat × Nat) (m1 : Nat) : St → Option R7 := run (E7 n) (cB (cB (cA (cA (cB (cA (cB (cB (cB (cB (cB c7))))))))))) (Ann.snd (Ann.snd (Ann.fst (Ann.fst (Ann.snd (Ann.fst (Ann.snd (Ann.snd (Ann.snd (Ann.snd (Ann.snd an7))))))))))) (fun s => normC [1, 2, 7, 8, 10, 11, 12, 41, 42, 43, 139, 140, 141, 142, 154, 155, 156, 159, 160, 163, 164, 169, 170, 171, 172, 173, 174, 175, 178] s (loopN (F7_6 n) m1)) (xb7_5 n) rt7
noncomputable def kc7_8 (n : Nat × Nat) (m1 : Nat) : St → Option R7 := fun s => normC [1, 2, 7, 8, 10, 11, 12, 41, 42, 43, 139, 140, 141, 142, 154, 155, 156, 159, 160, 163, 164, 169, 170, 171, 172, 173, 174, 175, 178] s (kq7_7 n m1)
noncomputable def kq7_9 (n : Nat × Nat) (m1 : Nat) : St → Option R7 := run (E7 n) (cB (cB (cB (cA (cA (cB (cA (cB (cB (cB (cB (cB c7)))))))))))) (Ann.snd (Ann.snd (Ann.snd (Ann.fst (Ann.fst (Ann.snd (Ann.fst (Ann.snd (Ann.snd (Ann.snd (Ann.snd (Ann.snd an7)))))))))))) (fun s => normC [1, 2, 7, 8, 10, 11, 12, 41, 42, 43, 139, 140, 141, 142, 154, 155, 156, 159, 160, 163, 164, 169, 170, 171, 172, 173, 174, 175, 178] s (loopN (F7_6 n) m1)) (xb7_5 n) rt7
noncomputable def kc7_10 (n : Nat × Nat) (m1 : Nat) : St → Option R7 := fun s => normC [1, 2, 7, 8, 10, 11, 12, 41, 42, 43, 139, 140, 141, 142, 154, 155, 156, 159, 160, 163, 164, 169, 170, 171, 172, 173, 174, 175, 178] s (kq7_9 n m1)
noncomputable def xb7_11 (n : Nat × Nat) (m1 : Nat) : Nat → St → Option R7 := fun j s => bif Nat.beq j 1 then normC [1, 2, 7, 8, 10, 11, 12, 41, 42, 43, 139, 140, 141, 142, 154, 155, 156, 159, 160, 163, 164, 169, 170, 171, 172, 173, 174, 175, 178] s (kq7_9 n m1) else (xb7_5 n) j s
noncomputable def kq7_12 (n : Nat × Nat) : St → Option R7 := run (E7 n) (cB (cB (cB (cB (cB (cB (cB (cB (cB (cB (cB (cB c7)))))))))))) (Ann.snd (Ann.snd (Ann.snd (Ann.snd (Ann.snd (Ann.snd (Ann.snd (Ann.snd (Ann.snd (Ann.snd (Ann.snd (Ann.snd an7)))))))))))) rt7 (fun _ _ => none) rt7
noncomputable def kc7_13 (n : Nat × Nat) : St → Option R7 := fun s => normC [7, 10, 11, 12, 16, 17, 18, 19, 21, 23, 24, 154, 155, 156, 159, 160, 163, 164, 169, 170, 171, 172, 173, 174, 175, 178] s (loopN (fun _ => (kq7_12 n)) n.2)
noncomputable def xb7_14 (n : Nat × Nat) : Nat → St → Option R7 := fun j s => bif Nat.beq j 2 then normC [7, 10, 11, 12, 16, 17, 18, 19, 21, 23, 24, 154, 155, 156, 159, 160, 163, 164, 169, 170, 171, 172, 173, 174, 175, 178] s (loopN (fun _ => (kq7_12 n)) n.2) else (fun _ _ => none) j s
noncomputable def kc7_15 (n : Nat × Nat) : St → Option R7 := fun s => normC [7, 10, 11, 12, 16, 17, 18, 19, 21, 23, 24, 154, 155, 156, 159, 160, 163, 164, 169, 170, 171, 172, 173, 174, 175, 178] s (kc7_13 n)
noncomputable def kc7_16 (n : Nat × Nat) : St → Option R7 := fun s => normC [7, 10, 11, 12, 16, 17, 18, 19, 21, 23, 24, 154, 155, 156, 159, 160, 163, 164, 169, 170, 171, 172, 173, 174, 175, 178] s (kc7_15 n)
noncomputable def kq7_17 (n : Nat × Nat) : St → Option R7 := run (E7 n) (cB (cB (cB (cB (cB (cB (cB (cB (cB (cB (cB (cB (cB c7))))))))))))) (Ann.snd (Ann.snd (Ann.snd (Ann.snd (Ann.snd (Ann.snd (Ann.snd (Ann.snd (Ann.snd (Ann.snd (Ann.snd (Ann.snd (Ann.snd an7))))))))))))) rt7 (fun _ _ => none) rt7
noncomputable def kc7_18 (n : Nat × Nat) : St → Option R7 := fun s => normC [7, 16, 17, 18, 24, 169, 170, 171, 172, 173, 174, 175, 178] s (kq7_17 n)
noncomputable def L7_1 (n : Nat × Nat) (m : Nat) (one1 : Int) (two2 : Int) (years10 : Int) (near11 : Int) (den12 : Int) (v42 : Int) (v43 : Int) (l7 : List (Int × Int)) (v8 : List (Int × Int)) : Option R7 := loopN (F7_6 n) m { tm := [.undef, .c (.int .u8 one1), .c (.int .u8 two2), .undef, .undef, .undef, .undef, .own 7 none false, .own 8 none false, .undef, .c (.int .i64 years10), .c (.int .i64 near11), .c (.int .i64 den12), .undef, .undef, .undef, .undef, .undef, .undef, .undef, .undef, .undef, .undef, .undef, .undef, .undef, .undef, .undef, .undef, .undef, .undef, .undef, .undef, .undef, .undef, .undef, .undef, .undef, .undef, .undef, .undef, .own 7 none false, .c (.int .i64 v42), .c (.int .i64 v43), .undef, .undef, .undef, .undef, .undef, .undef, .undef, .undef, .undef, .undef, .undef, .undef, .undef, .undef, .undef, .undef, .undef, .undef, .undef, .undef, .undef, .undef, .undef, .undef, .undef, .undef, .undef, .undef, .undef, .undef, .undef, .undef, .undef, .undef, .undef, .undef, .undef, .undef, .undef, .undef, .undef, .undef, .undef, .undef, .undef, .undef, .undef, .undef, .undef, .undef, .undef, .undef, .undef, .undef, .undef, .undef, .undef, .undef, .undef, .undef, .undef, .undef, .undef, .undef, .undef, .undef, .undef, .undef, .undef, .undef, .undef, .undef, .undef, .undef, .undef, .undef, .undef, .undef, .undef, .undef, .undef, .undef, .undef, .undef, .undef, .undef, .undef, .undef, .undef, .undef, .undef, .undef, .undef, .undef, .undef, .undef, .undef, .undef, .undef, .undef, .undef, .undef, .undef, .undef, .undef, .undef, .undef, .undef, .undef, .undef, .undef, .undef, .undef, .undef, .undef, .undef, .undef, .undef, .undef, .undef, .undef, .undef, .undef, .undef, .undef, .undef, .undef, .undef, .undef, .undef, .undef, .undef, .undef, .undef, .undef, .undef], hp := (upd (upd emp 8 (.arr (.pair (.int .i64) (.int .i64)) v8 false)) 7 (.arr (.pair (.int .i64) (.int .i64)) l7 false)) }
noncomputable def L7_2 (n : Nat × Nat) (years10 : Int) (near11 : Int) (den12 : Int) (b16 : Int) (z17 : Int) (f19 : Int) (g21 : Int) (h23 : Int) (want24 : Int) (l7 : List (Int × Int)) (m18_0 : Int) (m18_1 : Int) : Option R7 := loopN (fun _ => (kq7_12 n)) n.2 { tm := [.undef, .undef, .undef, .undef, .undef, .undef, .undef, .own 7 none false, .undef, .undef, .c (.int .i64 years10), .c (.int .i64 near11), .c (.int .i64 den12), .undef, .undef, .undef, .c (.int .i64 b16), .c (.int .i64 z17), .ptr 18 0, .c (.int .i64 f19), .undef, .c (.int .i64 g21), .undef, .c (.int .i64 h23), .c (.int .i64 want24), .undef, .undef, .undef, .undef, .undef, .undef, .undef, .undef, .undef, .undef, .undef, .undef, .undef, .undef, .undef, .undef, .undef, .undef, .undef, .undef, .undef, .undef, .undef, .undef, .undef, .undef, .undef, .undef, .undef, .undef, .undef, .undef, .undef, .undef, .undef, .undef, .undef, .undef, .undef, .undef, .undef, .undef, .undef, .undef, .undef, .undef, .undef, .undef, .undef, .undef, .undef, .undef, .undef, .undef, .undef, .undef, .undef, .undef, .undef, .undef, .undef, .undef, .undef, .undef, .undef, .undef, .undef, .undef, .undef, .undef, .undef, .undef, .undef, .undef, .undef, .undef, .undef, .undef, .undef, .undef, .undef, .undef, .undef, .undef, .undef, .undef, .undef, .undef, .undef, .undef, .undef, .undef, .undef, .undef, .undef, .undef, .undef, .undef, .undef, .undef, .undef, .undef, .undef, .undef, .undef, .undef, .undef, .undef, .undef, .undef, .undef, .undef, .undef, .undef, .undef, .undef, .undef, .undef, .undef, .undef, .undef, .undef, .undef, .undef, .undef, .undef, .undef, .undef, .undef, .undef, .undef, .undef, .undef, .undef, .undef, .undef, .undef, .undef, .undef, .undef, .undef, .undef, .undef, .undef, .undef, .undef, .undef, .undef, .undef, .undef, .undef, .undef, .undef, .undef, .undef], hp := (upd (upd emp 18 (.box [.int .i64 m18_0, .int .i64 m18_1])) 7 (.arr (.pair (.int .i64) (.int .i64)) l7 false)) }
theorem L7_1_eq (n : Nat × Nat) (m1 : Nat) (one1 : Int) (two2 : Int) (years10 : Int) (near11 : Int) (den12 : Int) (v42 : Int) (v43 : Int) (l7 : List (Int × Int)) (v8 : List (Int × Int)) : L7_1 n (m1 + 1) one1 two2 years10 near11 den12 v42 v43 l7 v8 =
    (bif decide (v43 < v42) then (bif inB v43 l7.length then (idx l7 v43).bind fun x5' =>
        (bif inB v43 v8.length then (idx v8 v43).bind fun x6' =>
          (S49 n den12 x6'.2).bind fun r7' =>
          (bif inB v43 v8.length then (idx v8 v43).bind fun x8' =>
            (bif r7' == 0 then none
            else (bif inB v43 v8.length then (idx v8 v43).bind fun x9' =>
                (bif r7' == 0 then none
                else (bif r7' == 0 then none
                  else (bif inB v43 v8.length then (idx v8 v43).bind fun x10' =>
                      (S49 n (wr .i64 ((wr .i64 (near11 * (wr .i64 (Int.tdiv x8'.2 r7')))) + (wr .i64 ((wr .i64 (x5'.2 * x9'.1)) * (wr .i64 (Int.tdiv den12 r7')))))) (wr .i64 ((wr .i64 (Int.tdiv den12 r7')) * x10'.2))).bind fun r11' =>
                      (bif r11' == 0 then none
                      else (bif r11' == 0 then none
                        else L7_1 n m1 one1 two2 (wr .i64 (years10 + (wr .i64 (x5'.2 * x5'.1)))) (wr .i64 (Int.tdiv (wr .i64 ((wr .i64 (near11 * (wr .i64 (Int.tdiv x8'.2 r7')))) + (wr .i64 ((wr .i64 (x5'.2 * x9'.1)) * (wr .i64 (Int.tdiv den12 r7')))))) r11')) (wr .i64 (Int.tdiv (wr .i64 ((wr .i64 (Int.tdiv den12 r7')) * x10'.2)) r11')) v42 (wr .i64 (v43 + 1)) l7 v8))
                    else none)))
              else none))
          else none)
        else none)
      else none)
    else (bif (wr .i64 ((l7.length : Int) + 2)) == 0 then none
      else (bif (wr .i64 ((l7.length : Int) + 2)) == 0 then none
        else (S22 n l7 (wr .i64 ((Int.tmod (wr .i64 one1) (wr .i64 ((l7.length : Int) + 2))) - 1)) (Int.tmod (wr .i64 two2) (wr .i64 ((l7.length : Int) + 2)))).bind fun r12' =>
          (S26 n l7 (l7.length : Int)).bind fun r13' =>
          (S28 n l7 (-1)).bind fun r14' =>
          ((bif (decide (wr .i64 ((Int.tmod (wr .i64 one1) (wr .i64 ((l7.length : Int) + 2))) - 1) < 0) == false) then some (decide (Int.tmod (wr .i64 two2) (wr .i64 ((l7.length : Int) + 2)) > (l7.length : Int)))
            else some true)).bind fun b15' =>
          (bif b15' then L7_2 n years10 near11 den12 (wr .i64 ((Int.tmod (wr .i64 one1) (wr .i64 ((l7.length : Int) + 2))) - 1)) (Int.tmod (wr .i64 two2) (wr .i64 ((l7.length : Int) + 2))) r12'.2 r13'.2 r14'.2 2 l7 r12'.1.1 r12'.1.2
          else (bif decide (Int.tmod (wr .i64 two2) (wr .i64 ((l7.length : Int) + 2)) ≤ wr .i64 ((Int.tmod (wr .i64 one1) (wr .i64 ((l7.length : Int) + 2))) - 1)) then L7_2 n years10 near11 den12 (wr .i64 ((Int.tmod (wr .i64 one1) (wr .i64 ((l7.length : Int) + 2))) - 1)) (Int.tmod (wr .i64 two2) (wr .i64 ((l7.length : Int) + 2))) r12'.2 r13'.2 r14'.2 7 l7 r12'.1.1 r12'.1.2
            else L7_2 n years10 near11 den12 (wr .i64 ((Int.tmod (wr .i64 one1) (wr .i64 ((l7.length : Int) + 2))) - 1)) (Int.tmod (wr .i64 two2) (wr .i64 ((l7.length : Int) + 2))) r12'.2 r13'.2 r14'.2 0 l7 r12'.1.1 r12'.1.2))))) := by kernel_rfl
theorem L7_2_raw (n : Nat × Nat) (years10 : Int) (near11 : Int) (den12 : Int) (b16 : Int) (z17 : Int) (f19 : Int) (g21 : Int) (h23 : Int) (want24 : Int) (l7 : List (Int × Int)) (m18_0 : Int) (m18_1 : Int) : (kq7_12 n) { tm := [.undef, .undef, .undef, .undef, .undef, .undef, .undef, .own 7 none false, .undef, .undef, .c (.int .i64 years10), .c (.int .i64 near11), .c (.int .i64 den12), .undef, .undef, .undef, .c (.int .i64 b16), .c (.int .i64 z17), .ptr 18 0, .c (.int .i64 f19), .undef, .c (.int .i64 g21), .undef, .c (.int .i64 h23), .c (.int .i64 want24), .undef, .undef, .undef, .undef, .undef, .undef, .undef, .undef, .undef, .undef, .undef, .undef, .undef, .undef, .undef, .undef, .undef, .undef, .undef, .undef, .undef, .undef, .undef, .undef, .undef, .undef, .undef, .undef, .undef, .undef, .undef, .undef, .undef, .undef, .undef, .undef, .undef, .undef, .undef, .undef, .undef, .undef, .undef, .undef, .undef, .undef, .undef, .undef, .undef, .undef, .undef, .undef, .undef, .undef, .undef, .undef, .undef, .undef, .undef, .undef, .undef, .undef, .undef, .undef, .undef, .undef, .undef, .undef, .undef, .undef, .undef, .undef, .undef, .undef, .undef, .undef, .undef, .undef, .undef, .undef, .undef, .undef, .undef, .undef, .undef, .undef, .undef, .undef, .undef, .undef, .undef, .undef, .undef, .undef, .undef, .undef, .undef, .undef, .undef, .undef, .undef, .undef, .undef, .undef, .undef, .undef, .undef, .undef, .undef, .undef, .undef, .undef, .undef, .undef, .undef, .undef, .undef, .undef, .undef, .undef, .undef, .undef, .undef, .undef, .undef, .undef, .undef, .undef, .undef, .undef, .undef, .undef, .undef, .undef, .undef, .undef, .undef, .undef, .undef, .undef, .undef, .undef, .undef, .undef, .undef, .undef, .undef, .undef, .undef, .undef, .undef, .undef, .undef, .undef, .undef], hp := (upd (upd emp 18 (.box [.int .i64 m18_0, .int .i64 m18_1])) 7 (.arr (.pair (.int .i64) (.int .i64)) l7 false)) } =
    ((bif ((near11 != (wr .i64 (years10 * den12))) == false) then some (f19 != want24)
      else some true)).bind fun b16' =>
    ((bif (b16' == false) then some (g21 != 2)
      else some true)).bind fun b17' =>
    ((bif (b17' == false) then some (h23 != 2)
      else some true)).bind fun b18' =>
    (bif b18' then some false
    else ((bif ((want24 != 0) == false) then (bif bounds (some b16) (some z17) none l7.length then (S50 n ((l7.drop (0 + (Int.toNat b16))).take ((Int.toNat z17) - (Int.toNat b16)))).bind fun r19' =>
            some ((m18_0 == r19'.1) && ((m18_1 == r19'.2) && true))
          else none)
        else some true)).bind fun b20' =>
      ((bif (b20' == true) then (S18 n).bind fun r21' =>
          some r21'
        else some false)).bind fun b22' =>
      some b22') := by kernel_rfl
theorem L7_2_eq (n : Nat × Nat) (years10 : Int) (near11 : Int) (den12 : Int) (b16 : Int) (z17 : Int) (f19 : Int) (g21 : Int) (h23 : Int) (want24 : Int) (l7 : List (Int × Int)) (m18_0 : Int) (m18_1 : Int) (hn : n.2 = 1) : L7_2 n years10 near11 den12 b16 z17 f19 g21 h23 want24 l7 m18_0 m18_1 =
    ((bif ((near11 != (wr .i64 (years10 * den12))) == false) then some (f19 != want24)
      else some true)).bind fun b16' =>
    ((bif (b16' == false) then some (g21 != 2)
      else some true)).bind fun b17' =>
    ((bif (b17' == false) then some (h23 != 2)
      else some true)).bind fun b18' =>
    (bif b18' then some false
    else ((bif ((want24 != 0) == false) then (bif bounds (some b16) (some z17) none l7.length then (S50 n ((l7.drop (0 + (Int.toNat b16))).take ((Int.toNat z17) - (Int.toNat b16)))).bind fun r19' =>
            some ((m18_0 == r19'.1) && ((m18_1 == r19'.2) && true))
          else none)
        else some true)).bind fun b20' =>
      ((bif (b20' == true) then (S18 n).bind fun r21' =>
          some r21'
        else some false)).bind fun b22' =>
      some b22') := (held_eq hn _).trans (L7_2_raw n years10 near11 den12 b16 z17 f19 g21 h23 want24 l7 m18_0 m18_1)
noncomputable def S7 (n : Nat × Nat) (a0 : Int × (Int × Int × Int × Int × Int × Int × Int × Int) × Int × Int × Int × Int × Int × Int × Int × Int) (one1 : Int) (two2 : Int) : Option R7 := run (E7 n) c7 an7 rt7 (fun _ _ => none) rt7 { tm := [.agg [.int .u8 a0.1, .int .u8 a0.2.1.1, .int .u8 a0.2.1.2.1, .int .u8 a0.2.1.2.2.1, .int .u8 a0.2.1.2.2.2.1, .int .u8 a0.2.1.2.2.2.2.1, .int .u8 a0.2.1.2.2.2.2.2.1, .int .u8 a0.2.1.2.2.2.2.2.2.1, .int .u8 a0.2.1.2.2.2.2.2.2.2, .int .u8 a0.2.2.1, .int .u8 a0.2.2.2.1, .int .u8 a0.2.2.2.2.1, .int .u8 a0.2.2.2.2.2.1, .int .u8 a0.2.2.2.2.2.2.1, .int .u8 a0.2.2.2.2.2.2.2.1, .int .u8 a0.2.2.2.2.2.2.2.2.1, .int .u8 a0.2.2.2.2.2.2.2.2.2], .c (.int .u8 one1), .c (.int .u8 two2), .undef, .undef, .undef, .undef, .undef, .undef, .undef, .undef, .undef, .undef, .undef, .undef, .undef, .undef, .undef, .undef, .undef, .undef, .undef, .undef, .undef, .undef, .undef, .undef, .undef, .undef, .undef, .undef, .undef, .undef, .undef, .undef, .undef, .undef, .undef, .undef, .undef, .undef, .undef, .undef, .undef, .undef, .undef, .undef, .undef, .undef, .undef, .undef, .undef, .undef, .undef, .undef, .undef, .undef, .undef, .undef, .undef, .undef, .undef, .undef, .undef, .undef, .undef, .undef, .undef, .undef, .undef, .undef, .undef, .undef, .undef, .undef, .undef, .undef, .undef, .undef, .undef, .undef, .undef, .undef, .undef, .undef, .undef, .undef, .undef, .undef, .undef, .undef, .undef, .undef, .undef, .undef, .undef, .undef, .undef, .undef, .undef, .undef, .undef, .undef, .undef, .undef, .undef, .undef, .undef, .undef, .undef, .undef, .undef, .undef, .undef, .undef, .undef, .undef, .undef, .undef, .undef, .undef, .undef, .undef, .undef, .undef, .undef, .undef, .undef, .undef, .undef, .undef, .undef, .undef, .undef, .undef, .undef, .undef, .undef, .undef, .undef, .undef, .undef, .undef, .undef, .undef, .undef, .undef, .undef, .undef, .undef, .undef, .undef, .undef, .undef, .undef, .undef, .undef, .undef, .undef, .undef, .undef, .undef, .undef, .undef, .undef, .undef, .undef, .undef, .undef, .undef, .undef, .undef, .undef, .undef, .undef, .undef, .undef, .undef, .undef, .undef], hp := emp }
theorem S7_eq (n : Nat × Nat) (a0 : Int × (Int × Int × Int × Int × Int × Int × Int × Int) × Int × Int × Int × Int × Int × Int × Int × Int) (one1 : Int) (two2 : Int) : S7 n a0 one1 two2 =
    (S47 n a0 8 100).bind fun r1' =>
    (S30 n r1').bind fun r2' =>
    ((bif ((r2'.2 != 0) == false) then (S48 n r2'.1 (r1'.length : Int)).bind fun r3' =>
        some (!r3')
      else some true)).bind fun b4' =>
    (bif b4' then some false
    else L7_1 n n.1 one1 two2 0 0 1 (r1'.length : Int) 0 r1' r2'.1) := by kernel_rfl
theorem S7_run (n : Nat × Nat) (xs : pksDen pk7) : S7 n xs.1 xs.2.1 xs.2.2.1 = runG (E7 n) noScope c7 an7 (rtG rk7) (fun _ _ => none) (rtG rk7) (st0 pk7 xs Try.f7.ntmps) := by kernel_rfl
noncomputable def P7 (n : Nat × Nat) := phiOf pk7 rk7 (fun xs => S7 n xs.1 xs.2.1 xs.2.2.1)
theorem call7 : CallOK Try.prog 7 := callOK_of Try.func7 (by kernel_rfl) (by kernel_rfl)
theorem env7 (n : Nat × Nat) : EnvOK Try.prog (E7 n) := envOK0 (consPhi_ok (FC18 n) call18 (consPhi_ok (FC22 n) call22 (consPhi_ok (FC26 n) call26 (consPhi_ok (FC28 n) call28 (consPhi_ok (FC30 n) call30 (consPhi_ok (FC47 n) call47 (consPhi_ok (FC48 n) call48 (consPhi_ok (FC49 n) call49 (consPhi_ok (FC50 n) call50 noPhi_ok))))))))) rfl rfl
theorem par7 (n : Nat × Nat) : EnvPar (E7 n) := envPar0 (consPhi_par phiOf_Par1 (consPhi_par phiOf_Par1 (consPhi_par phiOf_Par1 (consPhi_par phiOf_Par1 (consPhi_par phiOf_Par1 (consPhi_par phiOf_Par1 (consPhi_par phiOf_Par1 (consPhi_par phiOf_Par1 (consPhi_par phiOf_Par1 noPhi_par))))))))) rfl
theorem FC7 (n : Nat × Nat) : FCs Try.prog 7 (P7 n) := phiOf_FCs fun xs r h vs hv => FC.of_runG tabOK eqsOK (env7 n) (par7 n) mixed (fun _ => noScope_ok) Try.func7 (c := c7) (an := an7) (pks := pk7) (rks := rk7) (by kernel_rfl) (by kernel_rfl) hv ((S7_run n xs).symm.trans h)
/-D 7 -/
noncomputable def DL7_2 (n : Nat × Nat) (years10 : Int) (near11 : Int) (den12 : Int) (b16 : Int) (z17 : Int) (f19 : Int) (g21 : Int) (h23 : Int) (want24 : Int) (l7 : List (Int × Int)) (m18_0 : Int) (m18_1 : Int) : Option R7 :=
    ((bif ((near11 != (wr .i64 (years10 * den12))) == false) then some (f19 != want24)
      else some true)).bind fun b16' =>
    ((bif (b16' == false) then some (g21 != 2)
      else some true)).bind fun b17' =>
    ((bif (b17' == false) then some (h23 != 2)
      else some true)).bind fun b18' =>
    (bif b18' then some false
    else ((bif ((want24 != 0) == false) then (bif bounds (some b16) (some z17) none l7.length then (D50 n ((l7.drop (0 + (Int.toNat b16))).take ((Int.toNat z17) - (Int.toNat b16)))).bind fun r19' =>
            some ((m18_0 == r19'.1) && ((m18_1 == r19'.2) && true))
          else none)
        else some true)).bind fun b20' =>
      ((bif (b20' == true) then (D18 n).bind fun r21' =>
          some r21'
        else some false)).bind fun b22' =>
      some b22')
theorem DL7_2_eq (n : Nat × Nat) (hn : n.2 = 1) : L7_2 n = DL7_2 n := by
  funext years10 near11 den12 b16 z17 f19 g21 h23 want24 l7 m18_0 m18_1; refine (L7_2_eq n years10 near11 den12 b16 z17 f19 g21 h23 want24 l7 m18_0 m18_1 hn).trans ?_
  unfold DL7_2
  first | (simp only [S18_D n hn, S22_D n hn, S26_D n hn, S28_D n hn, S30_D n hn, S47_D n hn, S48_D n hn, S49_D n hn, S50_D n hn]; done) | (simp only [S18_D n hn, S22_D n hn, S26_D n hn, S28_D n hn, S30_D n hn, S47_D n hn, S48_D n hn, S49_D n hn, S50_D n hn]; with_reducible rfl) | with_reducible rfl | rfl
noncomputable def DF7_1 (n : Nat × Nat) (f1 : Int → Int → Int → Int → Int → Int → Int → (List (Int × Int)) → (List (Int × Int)) → Option R7) (one1 : Int) (two2 : Int) (years10 : Int) (near11 : Int) (den12 : Int) (v42 : Int) (v43 : Int) (l7 : List (Int × Int)) (v8 : List (Int × Int)) : Option R7 :=
    (bif decide (v43 < v42) then (bif inB v43 l7.length then (idx l7 v43).bind fun x5' =>
        (bif inB v43 v8.length then (idx v8 v43).bind fun x6' =>
          (D49 n den12 x6'.2).bind fun r7' =>
          (bif inB v43 v8.length then (idx v8 v43).bind fun x8' =>
            (bif r7' == 0 then none
            else (bif inB v43 v8.length then (idx v8 v43).bind fun x9' =>
                (bif r7' == 0 then none
                else (bif r7' == 0 then none
                  else (bif inB v43 v8.length then (idx v8 v43).bind fun x10' =>
                      (D49 n (wr .i64 ((wr .i64 (near11 * (wr .i64 (Int.tdiv x8'.2 r7')))) + (wr .i64 ((wr .i64 (x5'.2 * x9'.1)) * (wr .i64 (Int.tdiv den12 r7')))))) (wr .i64 ((wr .i64 (Int.tdiv den12 r7')) * x10'.2))).bind fun r11' =>
                      (bif r11' == 0 then none
                      else (bif r11' == 0 then none
                        else f1 one1 two2 (wr .i64 (years10 + (wr .i64 (x5'.2 * x5'.1)))) (wr .i64 (Int.tdiv (wr .i64 ((wr .i64 (near11 * (wr .i64 (Int.tdiv x8'.2 r7')))) + (wr .i64 ((wr .i64 (x5'.2 * x9'.1)) * (wr .i64 (Int.tdiv den12 r7')))))) r11')) (wr .i64 (Int.tdiv (wr .i64 ((wr .i64 (Int.tdiv den12 r7')) * x10'.2)) r11')) v42 (wr .i64 (v43 + 1)) l7 v8))
                    else none)))
              else none))
          else none)
        else none)
      else none)
    else (bif (wr .i64 ((l7.length : Int) + 2)) == 0 then none
      else (bif (wr .i64 ((l7.length : Int) + 2)) == 0 then none
        else (D22 n l7 (wr .i64 ((Int.tmod (wr .i64 one1) (wr .i64 ((l7.length : Int) + 2))) - 1)) (Int.tmod (wr .i64 two2) (wr .i64 ((l7.length : Int) + 2)))).bind fun r12' =>
          (D26 n l7 (l7.length : Int)).bind fun r13' =>
          (D28 n l7 (-1)).bind fun r14' =>
          ((bif (decide (wr .i64 ((Int.tmod (wr .i64 one1) (wr .i64 ((l7.length : Int) + 2))) - 1) < 0) == false) then some (decide (Int.tmod (wr .i64 two2) (wr .i64 ((l7.length : Int) + 2)) > (l7.length : Int)))
            else some true)).bind fun b15' =>
          (bif b15' then DL7_2 n years10 near11 den12 (wr .i64 ((Int.tmod (wr .i64 one1) (wr .i64 ((l7.length : Int) + 2))) - 1)) (Int.tmod (wr .i64 two2) (wr .i64 ((l7.length : Int) + 2))) r12'.2 r13'.2 r14'.2 2 l7 r12'.1.1 r12'.1.2
          else (bif decide (Int.tmod (wr .i64 two2) (wr .i64 ((l7.length : Int) + 2)) ≤ wr .i64 ((Int.tmod (wr .i64 one1) (wr .i64 ((l7.length : Int) + 2))) - 1)) then DL7_2 n years10 near11 den12 (wr .i64 ((Int.tmod (wr .i64 one1) (wr .i64 ((l7.length : Int) + 2))) - 1)) (Int.tmod (wr .i64 two2) (wr .i64 ((l7.length : Int) + 2))) r12'.2 r13'.2 r14'.2 7 l7 r12'.1.1 r12'.1.2
            else DL7_2 n years10 near11 den12 (wr .i64 ((Int.tmod (wr .i64 one1) (wr .i64 ((l7.length : Int) + 2))) - 1)) (Int.tmod (wr .i64 two2) (wr .i64 ((l7.length : Int) + 2))) r12'.2 r13'.2 r14'.2 0 l7 r12'.1.1 r12'.1.2)))))
noncomputable def DL7_1 (n : Nat × Nat) (m : Nat) : Int → Int → Int → Int → Int → Int → Int → (List (Int × Int)) → (List (Int × Int)) → Option R7 := Nat.rec (motive := fun _ => Int → Int → Int → Int → Int → Int → Int → (List (Int × Int)) → (List (Int × Int)) → Option R7) (fun _ _ _ _ _ _ _ _ _ => none) (fun _ ih => DF7_1 n ih) m
theorem DL7_1_succ (n : Nat × Nat) (m : Nat) : DL7_1 n (m + 1) = DF7_1 n (DL7_1 n m) := rfl
theorem DL7_1_eq (n : Nat × Nat) (hn : n.2 = 1) : ∀ m, L7_1 n m = DL7_1 n m
  | 0 => by funext one1 two2 years10 near11 den12 v42 v43 l7 v8; kernel_rfl
  | m + 1 => by
    have ih := DL7_1_eq n hn m
    funext one1 two2 years10 near11 den12 v42 v43 l7 v8; refine (L7_1_eq n m one1 two2 years10 near11 den12 v42 v43 l7 v8).trans ?_
    rw [DL7_1_succ]
    unfold DF7_1
    first | (simp only [ih, DL7_2_eq n hn, S18_D n hn, S22_D n hn, S26_D n hn, S28_D n hn, S30_D n hn, S47_D n hn, S48_D n hn, S49_D n hn, S50_D n hn]; done) | (simp only [ih, DL7_2_eq n hn, S18_D n hn, S22_D n hn, S26_D n hn, S28_D n hn, S30_D n hn, S47_D n hn, S48_D n hn, S49_D n hn, S50_D n hn]; with_reducible rfl) | with_reducible rfl | rfl
noncomputable def D7 (n : Nat × Nat) (a0 : Int × (Int × Int × Int × Int × Int × Int × Int × Int) × Int × Int × Int × Int × Int × Int × Int × Int) (one1 : Int) (two2 : Int) : Option R7 :=
    (D47 n a0 8 100).bind fun r1' =>
    (D30 n r1').bind fun r2' =>
    ((bif ((r2'.2 != 0) == false) then (D48 n r2'.1 (r1'.length : Int)).bind fun r3' =>
        some (!r3')
      else some true)).bind fun b4' =>
    (bif b4' then some false
    else DL7_1 n n.1 one1 two2 0 0 1 (r1'.length : Int) 0 r1' r2'.1)
theorem S7_D (n : Nat × Nat) (hn : n.2 = 1) : S7 n = D7 n := by
  funext a0 one1 two2; refine (S7_eq n a0 one1 two2).trans ?_
  unfold D7
  first | (simp only [DL7_2_eq n hn, DL7_1_eq n hn, S18_D n hn, S22_D n hn, S26_D n hn, S28_D n hn, S30_D n hn, S47_D n hn, S48_D n hn, S49_D n hn, S50_D n hn]; done) | (simp only [DL7_2_eq n hn, DL7_1_eq n hn, S18_D n hn, S22_D n hn, S26_D n hn, S28_D n hn, S30_D n hn, S47_D n hn, S48_D n hn, S49_D n hn, S50_D n hn]; with_reducible rfl) | with_reducible rfl | rfl
noncomputable def PD7 (n : Nat × Nat) := phiOf pk7 rk7 (fun xs => D7 n xs.1 xs.2.1 xs.2.2.1)
theorem P7_D (n : Nat × Nat) (hn : n.2 = 1) : P7 n = PD7 n := by unfold P7 PD7; rw [S7_D n hn]
end Go.Proofs.Ytombednapelokaa
