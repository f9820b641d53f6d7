/- The law: written by program -/
import Derived.Test.YtombednapelokaaViS
import Derived.Test.YtombednapelokaaProg
import Derived.KernelRfl
import Derived.WalkKit
import Derived.Test.YtombednapelokaaCD1
set_option linter.unusedVariables false
set_option linter.unusedSimpArgs false
set_option maxRecDepth 100000
namespace Go.Proofs.Ytombednapelokaa
open Go.Vi
/- headword/headwordlaw08.ReignWrong -/
abbrev R12 := Bool
noncomputable def c12 : Code := bodyOf Try.f12
noncomputable def an12 : Ann := (.s .l (.s .l (.s .l (.s .l (.s (.s .l (.j [1, 5, 6, 106, 107, 110, 111, 112, 115, 116, 117, 118, 119, 122, 123, 124, 125, 126, 127, 130, 131, 132, 133, 134, 135, 138] (.j [1, 5, 6, 7, 24, 25, 46, 47, 48, 49, 56, 57, 58, 59, 60, 61, 62, 63, 64, 65, 66, 67, 68, 69, 70, 71, 72, 73, 74, 75, 76, 77, 106, 107, 110, 111, 112, 115, 116, 117, 118, 119, 122, 123, 124, 125, 126, 127, 130, 131, 132, 133, 134, 135, 138] (.s .l (.s (.j [1, 5, 6, 7, 24, 25, 46, 47, 48, 49, 56, 57, 58, 59, 60, 61, 62, 63, 64, 65, 66, 67, 68, 69, 70, 71, 72, 73, 74, 75, 76, 77, 106, 107, 110, 111, 112, 115, 116, 117, 118, 119, 122, 123, 124, 125, 126, 127, 130, 131, 132, 133, 134, 135, 138] .l .l) (.j [] (.j [1, 5, 6, 7, 24, 25, 46, 47, 48, 49, 56, 57, 58, 59, 60, 61, 62, 63, 64, 65, 66, 67, 68, 69, 70, 71, 72, 73, 74, 75, 76, 77, 106, 107, 110, 111, 112, 115, 116, 117, 118, 119, 122, 123, 124, 125, 126, 127, 130, 131, 132, 133, 134, 135, 138] (.s .l (.s .l (.s .l (.s (.s .l (.j [1, 5, 6, 7, 9, 11, 24, 25, 46, 47, 48, 49, 56, 57, 58, 59, 60, 61, 62, 63, 64, 65, 66, 67, 68, 69, 70, 71, 72, 73, 74, 75, 76, 77, 106, 107, 110, 111, 112, 115, 116, 117, 118, 119, 122, 123, 124, 125, 126, 127, 130, 131, 132, 133, 134, 135, 138] (.j [1, 5, 6, 7, 8, 9, 10, 11, 24, 25, 28, 29, 30, 46, 47, 48, 49, 56, 57, 58, 59, 60, 61, 62, 63, 64, 65, 66, 67, 68, 69, 70, 71, 72, 73, 74, 75, 76, 77, 106, 107, 110, 111, 112, 115, 116, 117, 118, 119, 122, 123, 124, 125, 126, 127, 130, 131, 132, 133, 134, 135, 138] (.s .l (.s (.j [1, 5, 6, 7, 8, 9, 10, 11, 24, 25, 28, 29, 30, 46, 47, 48, 49, 56, 57, 58, 59, 60, 61, 62, 63, 64, 65, 66, 67, 68, 69, 70, 71, 72, 73, 74, 75, 76, 77, 106, 107, 110, 111, 112, 115, 116, 117, 118, 119, 122, 123, 124, 125, 126, 127, 130, 131, 132, 133, 134, 135, 138] .l .l) (.j [] (.j [1, 5, 6, 7, 8, 9, 10, 11, 24, 25, 28, 29, 30, 46, 47, 48, 49, 56, 57, 58, 59, 60, 61, 62, 63, 64, 65, 66, 67, 68, 69, 70, 71, 72, 73, 74, 75, 76, 77, 106, 107, 110, 111, 112, 115, 116, 117, 118, 119, 122, 123, 124, 125, 126, 127, 130, 131, 132, 133, 134, 135, 138] (.s .l (.s (.s .l (.j [1, 5, 6, 7, 8, 9, 10, 11, 13, 24, 25, 28, 29, 30, 46, 47, 48, 49, 56, 57, 58, 59, 60, 61, 62, 63, 64, 65, 66, 67, 68, 69, 70, 71, 72, 73, 74, 75, 76, 77, 106, 107, 110, 111, 112, 115, 116, 117, 118, 119, 122, 123, 124, 125, 126, 127, 130, 131, 132, 133, 134, 135, 138] .l .l)) .l)) .l) .l))) .l) .l)) (.s .l (.j [1, 5, 6, 7, 24, 25, 46, 47, 48, 49, 56, 57, 58, 59, 60, 61, 62, 63, 64, 65, 66, 67, 68, 69, 70, 71, 72, 73, 74, 75, 76, 77, 106, 107, 110, 111, 112, 115, 116, 117, 118, 119, 122, 123, 124, 125, 126, 127, 130, 131, 132, 133, 134, 135, 138] .l .l)))))) .l) .l))) .l) .l)) .l)))))
def pk12 : List PK := [.c (.pair (.int .u8) (.pair (.pair (.int .u8) (.pair (.int .u8) (.pair (.int .u8) (.pair (.int .u8) (.pair (.int .u8) (.pair (.int .u8) (.pair (.int .u8) (.int .u8)))))))) (.pair (.int .u8) (.pair (.int .u8) (.pair (.int .u8) (.pair (.int .u8) (.pair (.int .u8) (.pair (.int .u8) (.pair (.int .u8) (.int .u8)))))))))), .c (.int .u8)]
def rk12 : List RK := [.c .bool 4]
noncomputable def rt12 (st : St) : Option R12 := rtG rk12 st
noncomputable def E12 (n : Nat × Nat) : Env := { T := tab, phi := (consPhi 18 (fun _ => true) (P18 n) (consPhi 20 (fun _ => true) (P20 n) (consPhi 44 (fun _ => true) (P44 n) (consPhi 46 (fun _ => true) (P46 n) (consPhi 47 (fun _ => true) (P47 n) (consPhi 60 (fun _ => true) (P60 n) (consPhi 61 (fun _ => true) (P61 n) (consPhi 64 (fun _ => true) (P64 n) noPhi)))))))), eff := fun _ => false, fuel := n.1, hold := n.2 }
noncomputable def kq12_1 (n : Nat × Nat) : St → Option R12 := run (E12 n) (cB (cB (cB (cB (cB c12))))) (Ann.snd (Ann.snd (Ann.snd (Ann.snd (Ann.snd an12))))) rt12 (fun _ _ => none) rt12
noncomputable def kc12_2 (n : Nat × Nat) : St → Option R12 := fun s => normC [1, 5, 6, 106, 107, 110, 111, 112, 115, 116, 117, 118, 119, 122, 123, 124, 125, 126, 127, 130, 131, 132, 133, 134, 135, 138] s (kq12_1 n)
noncomputable def xb12_3 (n : Nat × Nat) : Nat → St → Option R12 := fun j s => bif Nat.beq j 0 then normC [1, 5, 6, 106, 107, 110, 111, 112, 115, 116, 117, 118, 119, 122, 123, 124, 125, 126, 127, 130, 131, 132, 133, 134, 135, 138] s (kq12_1 n) else (fun _ _ => none) j s
noncomputable def F12_4 (n : Nat × Nat) : (St → Option R12) → St → Option R12 := fun K s => run (E12 n) (cA (cA (cB (cA (cB (cB (cB (cB c12)))))))) (Ann.fst (Ann.fst (Ann.snd (Ann.fst (Ann.snd (Ann.snd (Ann.snd (Ann.snd an12)))))))) (fun s => normC [1, 5, 6, 7, 24, 25, 46, 47, 48, 49, 56, 57, 58, 59, 60, 61, 62, 63, 64, 65, 66, 67, 68, 69, 70, 71, 72, 73, 74, 75, 76, 77, 106, 107, 110, 111, 112, 115, 116, 117, 118, 119, 122, 123, 124, 125, 126, 127, 130, 131, 132, 133, 134, 135, 138] s K) (xb12_3 n) rt12 s
noncomputable def kq12_5 (n : Nat × Nat) (m1 : Nat) : St → Option R12 := run (E12 n) (cB (cB (cA (cA (cB (cA (cB (cB (cB (cB c12)))))))))) (Ann.snd (Ann.snd (Ann.fst (Ann.fst (Ann.snd (Ann.fst (Ann.snd (Ann.snd (Ann.snd (Ann.snd an12)))))))))) (fun s => normC [1, 5, 6, 7, 24, 25, 46, 47, 48, 49, 56, 57, 58, 59, 60, 61, 62, 63, 64, 65, 66, 67, 68, 69, 70, 71, 72, 73, 74, 75, 76, 77, 106, 107, 110, 111, 112, 115, 116, 117, 118, 119, 122, 123, 124, 125, 126, 127, 130, 131, 132, 133, 134, 135, 138] s (loopN (F12_4 n) m1)) (xb12_3 n) rt12
noncomputable def kc12_6 (n : Nat × Nat) (m1 : Nat) : St → Option R12 := fun s => normC [1, 5, 6, 7, 24, 25, 46, 47, 48, 49, 56, 57, 58, 59, 60, 61, 62, 63, 64, 65, 66, 67, 68, 69, 70, 71, 72, 73, 74, 75, 76, 77, 106, 107, 110, 111, 112, 115, 116, 117, 118, 119, 122, 123, 124, 125, 126, 127, 130, 131, 132, 133, 134, 135, 138] s (kq12_5 n m1)
noncomputable def kq12_7 (n : Nat × Nat) (m1 : Nat) : St → Option R12 := run (E12 n) (cB (cB (cB (cA (cA (cB (cA (cB (cB (cB (cB c12))))))))))) (Ann.snd (Ann.snd (Ann.snd (Ann.fst (Ann.fst (Ann.snd (Ann.fst (Ann.snd (Ann.snd (Ann.snd (Ann.snd an12))))))))))) (fun s => normC [1, 5, 6, 7, 24, 25, 46, 47, 48, 49, 56, 57, 58, 59, 60, 61, 62, 63, 64, 65, 66, 67, 68, 69, 70, 71, 72, 73, 74, 75, 76, 77, 106, 107, 110, 111, 112, 115, 116, 117, 118, 119, 122, 123, 124, 125, 126, 127, 130, 131, 132, 133, 134, 135, 138] s (loopN (F12_4 n) m1)) (xb12_3 n) rt12
noncomputable def kc12_8 (n : Nat × Nat) (m1 : Nat) : St → Option R12 := fun s => normC [1, 5, 6, 7, 24, 25, 46, 47, 48, 49, 56, 57, 58, 59, 60, 61, 62, 63, 64, 65, 66, 67, 68, 69, 70, 71, 72, 73, 74, 75, 76, 77, 106, 107, 110, 111, 112, 115, 116, 117, 118, 119, 122, 123, 124, 125, 126, 127, 130, 131, 132, 133, 134, 135, 138] s (loopN (fun _ => (kq12_7 n m1)) n.2)
noncomputable def xb12_9 (n : Nat × Nat) (m1 : Nat) : Nat → St → Option R12 := fun j s => bif Nat.beq j 1 then normC [1, 5, 6, 7, 24, 25, 46, 47, 48, 49, 56, 57, 58, 59, 60, 61, 62, 63, 64, 65, 66, 67, 68, 69, 70, 71, 72, 73, 74, 75, 76, 77, 106, 107, 110, 111, 112, 115, 116, 117, 118, 119, 122, 123, 124, 125, 126, 127, 130, 131, 132, 133, 134, 135, 138] s (loopN (fun _ => (kq12_7 n m1)) n.2) else (xb12_3 n) j s
noncomputable def kq12_10 (n : Nat × Nat) (m1 : Nat) : St → Option R12 := run (E12 n) (cB (cB (cB (cB (cA (cA (cB (cB (cA (cA (cB (cA (cB (cB (cB (cB c12)))))))))))))))) (Ann.snd (Ann.snd (Ann.snd (Ann.snd (Ann.fst (Ann.fst (Ann.snd (Ann.snd (Ann.fst (Ann.fst (Ann.snd (Ann.fst (Ann.snd (Ann.snd (Ann.snd (Ann.snd an12)))))))))))))))) (kc12_8 n m1) (xb12_9 n m1) rt12
noncomputable def kc12_11 (n : Nat × Nat) (m1 : Nat) : St → Option R12 := fun s => normC [1, 5, 6, 7, 9, 11, 24, 25, 46, 47, 48, 49, 56, 57, 58, 59, 60, 61, 62, 63, 64, 65, 66, 67, 68, 69, 70, 71, 72, 73, 74, 75, 76, 77, 106, 107, 110, 111, 112, 115, 116, 117, 118, 119, 122, 123, 124, 125, 126, 127, 130, 131, 132, 133, 134, 135, 138] s (kq12_10 n m1)
noncomputable def xb12_12 (n : Nat × Nat) (m1 : Nat) : Nat → St → Option R12 := fun j s => bif Nat.beq j 2 then normC [1, 5, 6, 7, 9, 11, 24, 25, 46, 47, 48, 49, 56, 57, 58, 59, 60, 61, 62, 63, 64, 65, 66, 67, 68, 69, 70, 71, 72, 73, 74, 75, 76, 77, 106, 107, 110, 111, 112, 115, 116, 117, 118, 119, 122, 123, 124, 125, 126, 127, 130, 131, 132, 133, 134, 135, 138] s (kq12_10 n m1) else (xb12_9 n m1) j s
noncomputable def F12_13 (n : Nat × Nat) (m1 : Nat) : (St → Option R12) → St → Option R12 := fun K s => run (E12 n) (cA (cA (cB (cA (cB (cB (cB (cA (cA (cB (cB (cA (cA (cB (cA (cB (cB (cB (cB c12))))))))))))))))))) (Ann.fst (Ann.fst (Ann.snd (Ann.fst (Ann.snd (Ann.snd (Ann.snd (Ann.fst (Ann.fst (Ann.snd (Ann.snd (Ann.fst (Ann.fst (Ann.snd (Ann.fst (Ann.snd (Ann.snd (Ann.snd (Ann.snd an12))))))))))))))))))) (fun s => normC [1, 5, 6, 7, 8, 9, 10, 11, 24, 25, 28, 29, 30, 46, 47, 48, 49, 56, 57, 58, 59, 60, 61, 62, 63, 64, 65, 66, 67, 68, 69, 70, 71, 72, 73, 74, 75, 76, 77, 106, 107, 110, 111, 112, 115, 116, 117, 118, 119, 122, 123, 124, 125, 126, 127, 130, 131, 132, 133, 134, 135, 138] s K) (xb12_12 n m1) rt12 s
noncomputable def kq12_14 (n : Nat × Nat) (m1 m2 : Nat) : St → Option R12 := run (E12 n) (cB (cB (cA (cA (cB (cA (cB (cB (cB (cA (cA (cB (cB (cA (cA (cB (cA (cB (cB (cB (cB c12))))))))))))))))))))) (Ann.snd (Ann.snd (Ann.fst (Ann.fst (Ann.snd (Ann.fst (Ann.snd (Ann.snd (Ann.snd (Ann.fst (Ann.fst (Ann.snd (Ann.snd (Ann.fst (Ann.fst (Ann.snd (Ann.fst (Ann.snd (Ann.snd (Ann.snd (Ann.snd an12))))))))))))))))))))) (fun s => normC [1, 5, 6, 7, 8, 9, 10, 11, 24, 25, 28, 29, 30, 46, 47, 48, 49, 56, 57, 58, 59, 60, 61, 62, 63, 64, 65, 66, 67, 68, 69, 70, 71, 72, 73, 74, 75, 76, 77, 106, 107, 110, 111, 112, 115, 116, 117, 118, 119, 122, 123, 124, 125, 126, 127, 130, 131, 132, 133, 134, 135, 138] s (loopN (F12_13 n m1) m2)) (xb12_12 n m1) rt12
noncomputable def kc12_15 (n : Nat × Nat) (m1 m2 : Nat) : St → Option R12 := fun s => normC [1, 5, 6, 7, 8, 9, 10, 11, 24, 25, 28, 29, 30, 46, 47, 48, 49, 56, 57, 58, 59, 60, 61, 62, 63, 64, 65, 66, 67, 68, 69, 70, 71, 72, 73, 74, 75, 76, 77, 106, 107, 110, 111, 112, 115, 116, 117, 118, 119, 122, 123, 124, 125, 126, 127, 130, 131, 132, 133, 134, 135, 138] s (kq12_14 n m1 m2)
noncomputable def kq12_16 (n : Nat × Nat) (m1 m2 : Nat) : St → Option R12 := run (E12 n) (cB (cB (cB (cA (cA (cB (cA (cB (cB (cB (cA (cA (cB (cB (cA (cA (cB (cA (cB (cB (cB (cB c12)))))))))))))))))))))) (Ann.snd (Ann.snd (Ann.snd (Ann.fst (Ann.fst (Ann.snd (Ann.fst (Ann.snd (Ann.snd (Ann.snd (Ann.fst (Ann.fst (Ann.snd (Ann.snd (Ann.fst (Ann.fst (Ann.snd (Ann.fst (Ann.snd (Ann.snd (Ann.snd (Ann.snd an12)))))))))))))))))))))) (fun s => normC [1, 5, 6, 7, 8, 9, 10, 11, 24, 25, 28, 29, 30, 46, 47, 48, 49, 56, 57, 58, 59, 60, 61, 62, 63, 64, 65, 66, 67, 68, 69, 70, 71, 72, 73, 74, 75, 76, 77, 106, 107, 110, 111, 112, 115, 116, 117, 118, 119, 122, 123, 124, 125, 126, 127, 130, 131, 132, 133, 134, 135, 138] s (loopN (F12_13 n m1) m2)) (xb12_12 n m1) rt12
noncomputable def kc12_17 (n : Nat × Nat) (m1 m2 : Nat) : St → Option R12 := fun s => normC [1, 5, 6, 7, 8, 9, 10, 11, 24, 25, 28, 29, 30, 46, 47, 48, 49, 56, 57, 58, 59, 60, 61, 62, 63, 64, 65, 66, 67, 68, 69, 70, 71, 72, 73, 74, 75, 76, 77, 106, 107, 110, 111, 112, 115, 116, 117, 118, 119, 122, 123, 124, 125, 126, 127, 130, 131, 132, 133, 134, 135, 138] s (loopN (fun _ => (kq12_16 n m1 m2)) n.2)
noncomputable def xb12_18 (n : Nat × Nat) (m1 m2 : Nat) : Nat → St → Option R12 := fun j s => bif Nat.beq j 3 then normC [1, 5, 6, 7, 8, 9, 10, 11, 24, 25, 28, 29, 30, 46, 47, 48, 49, 56, 57, 58, 59, 60, 61, 62, 63, 64, 65, 66, 67, 68, 69, 70, 71, 72, 73, 74, 75, 76, 77, 106, 107, 110, 111, 112, 115, 116, 117, 118, 119, 122, 123, 124, 125, 126, 127, 130, 131, 132, 133, 134, 135, 138] s (loopN (fun _ => (kq12_16 n m1 m2)) n.2) else (xb12_12 n m1) j s
noncomputable def kq12_19 (n : Nat × Nat) (m1 m2 : Nat) : St → Option R12 := run (E12 n) (cB (cB (cA (cA (cB (cB (cA (cA (cB (cA (cB (cB (cB (cA (cA (cB (cB (cA (cA (cB (cA (cB (cB (cB (cB c12))))))))))))))))))))))))) (Ann.snd (Ann.snd (Ann.fst (Ann.fst (Ann.snd (Ann.snd (Ann.fst (Ann.fst (Ann.snd (Ann.fst (Ann.snd (Ann.snd (Ann.snd (Ann.fst (Ann.fst (Ann.snd (Ann.snd (Ann.fst (Ann.fst (Ann.snd (Ann.fst (Ann.snd (Ann.snd (Ann.snd (Ann.snd an12))))))))))))))))))))))))) (kc12_17 n m1 m2) (xb12_18 n m1 m2) rt12
noncomputable def kc12_20 (n : Nat × Nat) (m1 m2 : Nat) : St → Option R12 := fun s => normC [1, 5, 6, 7, 8, 9, 10, 11, 13, 24, 25, 28, 29, 30, 46, 47, 48, 49, 56, 57, 58, 59, 60, 61, 62, 63, 64, 65, 66, 67, 68, 69, 70, 71, 72, 73, 74, 75, 76, 77, 106, 107, 110, 111, 112, 115, 116, 117, 118, 119, 122, 123, 124, 125, 126, 127, 130, 131, 132, 133, 134, 135, 138] s (kq12_19 n m1 m2)
noncomputable def kc12_21 (n : Nat × Nat) (m1 : Nat) : St → Option R12 := fun s => normC [1, 5, 6, 7, 24, 25, 46, 47, 48, 49, 56, 57, 58, 59, 60, 61, 62, 63, 64, 65, 66, 67, 68, 69, 70, 71, 72, 73, 74, 75, 76, 77, 106, 107, 110, 111, 112, 115, 116, 117, 118, 119, 122, 123, 124, 125, 126, 127, 130, 131, 132, 133, 134, 135, 138] s (kc12_8 n m1)
noncomputable def L12_1 (n : Nat × Nat) (m : Nat) (year1 : Int) (found7 : Bool) (v24 : Int) (v25 : Int) (l5 : List (Int × Int)) (best6 : List Int) : Option R12 := loopN (F12_4 n) m { tm := [uu, .c (.int .u8 year1), uu, uu, uu, .own 5 none false, .own 6 none false, .c (.bool found7), uu, uu, uu, uu, uu, uu, uu, uu, uu, uu, uu, uu, uu, uu, uu, uu, .c (.int .i64 v24), .c (.int .i64 v25), uu, uu, uu, uu, uu, uu, uu, uu, uu, uu, uu, uu, uu, uu, uu, uu, uu, uu, uu, uu, uu, uu, uu, uu, uu, uu, uu, uu, uu, uu, uu, uu, uu, uu, uu, uu, uu, uu, uu, uu, uu, uu, uu, uu, uu, uu, uu, uu, uu, uu, uu, uu, uu, uu, uu, uu, uu, uu, uu, uu, uu, uu, uu, uu, uu, uu, uu, uu, uu, uu, uu, uu, uu, uu, uu, uu, uu, uu, uu, uu, uu, uu, uu, uu, uu, uu, uu, uu, uu, uu, uu, uu, uu, uu, uu, uu, uu, uu, uu, uu, uu, uu, uu, uu, uu, uu, uu, uu, uu, uu, uu, uu, uu, uu], hp := (upd (upd emp 6 (.arr (.int .i64) best6 true)) 5 (.arr (.pair (.int .i64) (.int .i64)) l5 false)) }
noncomputable def L12_2 (n : Nat × Nat) (m1 : Nat) (m : Nat) (year1 : Int) (found7 : Bool) (v8 : Int) (v10 : Int) (good11 : Bool) (v24 : Int) (v25 : Int) (v29 : Int) (v30 : Int) (l5 : List (Int × Int)) (best6 : List Int) (struck9 : List Int) : Option R12 := loopN (F12_13 n m1) m { tm := [uu, .c (.int .u8 year1), uu, uu, uu, .own 5 none false, .own 6 none false, .c (.bool found7), .c (.int .i64 v8), .own 9 none false, .c (.int .i64 v10), .c (.bool good11), uu, uu, uu, uu, uu, uu, uu, uu, uu, uu, uu, uu, .c (.int .i64 v24), .c (.int .i64 v25), uu, uu, .own 5 none false, .c (.int .i64 v29), .c (.int .i64 v30), uu, uu, uu, uu, uu, uu, uu, uu, uu, uu, uu, uu, uu, uu, uu, uu, uu, uu, uu, uu, uu, uu, uu, uu, uu, uu, uu, uu, uu, uu, uu, uu, uu, uu, uu, uu, uu, uu, uu, uu, uu, uu, uu, uu, uu, uu, uu, uu, uu, uu, uu, uu, uu, uu, uu, uu, uu, uu, uu, uu, uu, uu, uu, uu, uu, uu, uu, uu, uu, uu, uu, uu, uu, uu, uu, uu, uu, uu, uu, uu, uu, uu, uu, uu, uu, uu, uu, uu, uu, uu, uu, uu, uu, uu, uu, uu, uu, uu, uu, uu, uu, uu, uu, uu, uu, uu, uu, uu, uu], hp := (upd (upd (upd emp 9 (.arr (.int .i64) struck9 true)) 6 (.arr (.int .i64) best6 true)) 5 (.arr (.pair (.int .i64) (.int .i64)) l5 false)) }
noncomputable def L12_3 (n : Nat × Nat) (m1 m2 : Nat) (year1 : Int) (found7 : Bool) (v8 : Int) (v10 : Int) (good11 : Bool) (v24 : Int) (v25 : Int) (v29 : Int) (v30 : Int) (l5 : List (Int × Int)) (best6 : List Int) (struck9 : List Int) : Option R12 := loopN (fun _ => (kq12_16 n m1 m2)) n.2 { tm := [uu, .c (.int .u8 year1), uu, uu, uu, .own 5 none false, .own 6 none false, .c (.bool found7), .c (.int .i64 v8), .own 9 none false, .c (.int .i64 v10), .c (.bool good11), uu, uu, uu, uu, uu, uu, uu, uu, uu, uu, uu, uu, .c (.int .i64 v24), .c (.int .i64 v25), uu, uu, .own 5 none false, .c (.int .i64 v29), .c (.int .i64 v30), uu, uu, uu, uu, uu, uu, uu, uu, uu, uu, uu, uu, uu, uu, uu, uu, uu, uu, uu, uu, uu, uu, uu, uu, uu, uu, uu, uu, uu, uu, uu, uu, uu, uu, uu, uu, uu, uu, uu, uu, uu, uu, uu, uu, uu, uu, uu, uu, uu, uu, uu, uu, uu, uu, uu, uu, uu, uu, uu, uu, uu, uu, uu, uu, uu, uu, uu, uu, uu, uu, uu, uu, uu, uu, uu, uu, uu, uu, uu, uu, uu, uu, uu, uu, uu, uu, uu, uu, uu, uu, uu, uu, uu, uu, uu, uu, uu, uu, uu, uu, uu, uu, uu, uu, uu, uu, uu, uu, uu], hp := (upd (upd (upd emp 9 (.arr (.int .i64) struck9 true)) 6 (.arr (.int .i64) best6 true)) 5 (.arr (.pair (.int .i64) (.int .i64)) l5 false)) }
noncomputable def L12_4 (n : Nat × Nat) (m1 : Nat) (year1 : Int) (found7 : Bool) (v24 : Int) (v25 : Int) (l5 : List (Int × Int)) (best6 : List Int) : Option R12 := loopN (fun _ => (kq12_7 n m1)) n.2 { tm := [uu, .c (.int .u8 year1), uu, uu, uu, .own 5 none false, .own 6 none false, .c (.bool found7), uu, uu, uu, uu, uu, uu, uu, uu, uu, uu, uu, uu, uu, uu, uu, uu, .c (.int .i64 v24), .c (.int .i64 v25), uu, uu, uu, uu, uu, uu, uu, uu, uu, uu, uu, uu, uu, uu, uu, uu, uu, uu, uu, uu, uu, uu, uu, uu, uu, uu, uu, uu, uu, uu, uu, uu, uu, uu, uu, uu, uu, uu, uu, uu, uu, uu, uu, uu, uu, uu, uu, uu, uu, uu, uu, uu, uu, uu, uu, uu, uu, uu, uu, uu, uu, uu, uu, uu, uu, uu, uu, uu, uu, uu, uu, uu, uu, uu, uu, uu, uu, uu, uu, uu, uu, uu, uu, uu, uu, uu, uu, uu, uu, uu, uu, uu, uu, uu, uu, uu, uu, uu, uu, uu, uu, uu, uu, uu, uu, uu, uu, uu, uu, uu, uu, uu, uu, uu], hp := (upd (upd emp 6 (.arr (.int .i64) best6 true)) 5 (.arr (.pair (.int .i64) (.int .i64)) l5 false)) }
theorem L12_1_eq (n : Nat × Nat) (m1 : Nat) (year1 : Int) (found7 : Bool) (v24 : Int) (v25 : Int) (l5 : List (Int × Int)) (best6 : List Int) : L12_1 n (m1 + 1) year1 found7 v24 v25 l5 best6 =
    (bif decide (v25 < v24) then L12_2 n m1 n.1 year1 found7 v25 0 true v24 v25 (l5.length : Int) 0 l5 best6 []
    else (S44 n l5).bind fun r2' =>
      (S61 n l5).bind fun r3' =>
      (bif 21 == 0 then none
      else (S60 n [Int.tmod (wr .i64 year1) 21, 1]).bind fun r4' =>
        (bif decide (r3'.length + r4'.length ≤ lim) then (S44 n (r3' ++ r4')).bind fun r5' =>
          (S20 n l5).bind fun r6' =>
          ((bif ((r2'.2 == 0) == true) then some (r5'.2 == 0)
            else some false)).bind fun b7' =>
          ((bif (b7' == true) then (S46 n r2'.1 best6).bind fun r8' =>
              some r8'
            else some false)).bind fun b9' =>
          ((bif (b9' == true) then some (decide ((r5'.1.length : Int) ≥ (r2'.1.length : Int)))
            else some false)).bind fun b10' =>
          ((bif (b10' == true) then some (decide ((r5'.1.length : Int) ≤ wr .i64 ((r2'.1.length : Int) + 1)))
            else some false)).bind fun b11' =>
          ((bif (b11' == true) then some (((best6.length : Int) == 0) == (r6'.2 == 13))
            else some false)).bind fun b12' =>
          ((bif (b12' == true) then (S18 n).bind fun r13' =>
              some r13'
            else some false)).bind fun b14' =>
          some b14'
        else none))) := by kernel_rfl
theorem L12_2_eq (n : Nat × Nat) (m1 m2 : Nat) (year1 : Int) (found7 : Bool) (v8 : Int) (v10 : Int) (good11 : Bool) (v24 : Int) (v25 : Int) (v29 : Int) (v30 : Int) (l5 : List (Int × Int)) (best6 : List Int) (struck9 : List Int) : L12_2 n m1 (m2 + 1) year1 found7 v8 v10 good11 v24 v25 v29 v30 l5 best6 struck9 =
    (bif decide (v30 < v29) then (bif inB v30 l5.length then (idx l5 v30).bind fun x15' =>
        (bif decide (v30 < 0) then none
        else (bif ((wr .i64 (BitVec.ofInt (IntKind.bits .i64) (Int.fdiv v8 (2 ^ (min (Int.toNat v30) (IntKind.bits .i64)))) &&& BitVec.ofInt (IntKind.bits .i64) 1).toNat) == 1) then (bif decide (struck9.length + [v30].length ≤ lim) then L12_3 n m1 m2 year1 found7 v8 v10 good11 v24 v25 v29 v30 l5 best6 (struck9 ++ [v30])
            else none)
          else ((bif (good11 == true) then some (decide (x15'.1 ≥ v10))
              else some false)).bind fun b16' =>
            L12_3 n m1 m2 year1 found7 v8 x15'.1 b16' v24 v25 v29 v30 l5 best6 struck9))
      else none)
    else ((bif (good11 == true) then ((bif ((!found7) == false) then some (decide ((struck9.length : Int) < (best6.length : Int)))
            else some true)).bind fun b17' =>
          ((bif (b17' == false) then ((bif (((struck9.length : Int) == (best6.length : Int)) == true) then (S64 n struck9 best6).bind fun r18' =>
                  some (decide (r18' < 0))
                else some false)).bind fun b19' =>
              some b19'
            else some true)).bind fun b20' =>
          some b20'
        else some false)).bind fun b21' =>
      (bif b21' then L12_4 n m1 year1 true v24 v25 l5 struck9
      else L12_4 n m1 year1 found7 v24 v25 l5 best6)) := by kernel_rfl
theorem L12_3_raw (n : Nat × Nat) (m1 m2 : Nat) (year1 : Int) (found7 : Bool) (v8 : Int) (v10 : Int) (good11 : Bool) (v24 : Int) (v25 : Int) (v29 : Int) (v30 : Int) (l5 : List (Int × Int)) (best6 : List Int) (struck9 : List Int) : (kq12_16 n m1 m2) { tm := [uu, .c (.int .u8 year1), uu, uu, uu, .own 5 none false, .own 6 none false, .c (.bool found7), .c (.int .i64 v8), .own 9 none false, .c (.int .i64 v10), .c (.bool good11), uu, uu, uu, uu, uu, uu, uu, uu, uu, uu, uu, uu, .c (.int .i64 v24), .c (.int .i64 v25), uu, uu, .own 5 none false, .c (.int .i64 v29), .c (.int .i64 v30), uu, uu, uu, uu, uu, uu, uu, uu, uu, uu, uu, uu, uu, uu, uu, uu, uu, uu, uu, uu, uu, uu, uu, uu, uu, uu, uu, uu, uu, uu, uu, uu, uu, uu, uu, uu, uu, uu, uu, uu, uu, uu, uu, uu, uu, uu, uu, uu, uu, uu, uu, uu, uu, uu, uu, uu, uu, uu, uu, uu, uu, uu, uu, uu, uu, uu, uu, uu, uu, uu, uu, uu, uu, uu, uu, uu, uu, uu, uu, uu, uu, uu, uu, uu, uu, uu, uu, uu, uu, uu, uu, uu, uu, uu, uu, uu, uu, uu, uu, uu, uu, uu, uu, uu, uu, uu, uu, uu, uu], hp := (upd (upd (upd emp 9 (.arr (.int .i64) struck9 true)) 6 (.arr (.int .i64) best6 true)) 5 (.arr (.pair (.int .i64) (.int .i64)) l5 false)) } =
    L12_2 n m1 m2 year1 found7 v8 v10 good11 v24 v25 v29 (wr .i64 (v30 + 1)) l5 best6 struck9 := by kernel_rfl
theorem L12_4_raw (n : Nat × Nat) (m1 : Nat) (year1 : Int) (found7 : Bool) (v24 : Int) (v25 : Int) (l5 : List (Int × Int)) (best6 : List Int) : (kq12_7 n m1) { tm := [uu, .c (.int .u8 year1), uu, uu, uu, .own 5 none false, .own 6 none false, .c (.bool found7), uu, uu, uu, uu, uu, uu, uu, uu, uu, uu, uu, uu, uu, uu, uu, uu, .c (.int .i64 v24), .c (.int .i64 v25), uu, uu, uu, uu, uu, uu, uu, uu, uu, uu, uu, uu, uu, uu, uu, uu, uu, uu, uu, uu, uu, uu, uu, uu, uu, uu, uu, uu, uu, uu, uu, uu, uu, uu, uu, uu, uu, uu, uu, uu, uu, uu, uu, uu, uu, uu, uu, uu, uu, uu, uu, uu, uu, uu, uu, uu, uu, uu, uu, uu, uu, uu, uu, uu, uu, uu, uu, uu, uu, uu, uu, uu, uu, uu, uu, uu, uu, uu, uu, uu, uu, uu, uu, uu, uu, uu, uu, uu, uu, uu, uu, uu, uu, uu, uu, uu, uu, uu, uu, uu, uu, uu, uu, uu, uu, uu, uu, uu, uu, uu, uu, uu, uu, uu], hp := (upd (upd emp 6 (.arr (.int .i64) best6 true)) 5 (.arr (.pair (.int .i64) (.int .i64)) l5 false)) } =
    L12_1 n m1 year1 found7 v24 (wr .i64 (v25 + 1)) l5 best6 := by kernel_rfl
noncomputable def S12 (n : Nat × Nat) (a0 : Int × (Int × Int × Int × Int × Int × Int × Int × Int) × Int × Int × Int × Int × Int × Int × Int × Int) (year1 : Int) : Option R12 := run (E12 n) c12 an12 rt12 (fun _ _ => none) rt12 { tm := [.agg [.int .u8 a0.1, .int .u8 a0.2.1.1, .int .u8 a0.2.1.2.1, .int .u8 a0.2.1.2.2.1, .int .u8 a0.2.1.2.2.2.1, .int .u8 a0.2.1.2.2.2.2.1, .int .u8 a0.2.1.2.2.2.2.2.1, .int .u8 a0.2.1.2.2.2.2.2.2.1, .int .u8 a0.2.1.2.2.2.2.2.2.2, .int .u8 a0.2.2.1, .int .u8 a0.2.2.2.1, .int .u8 a0.2.2.2.2.1, .int .u8 a0.2.2.2.2.2.1, .int .u8 a0.2.2.2.2.2.2.1, .int .u8 a0.2.2.2.2.2.2.2.1, .int .u8 a0.2.2.2.2.2.2.2.2.1, .int .u8 a0.2.2.2.2.2.2.2.2.2], .c (.int .u8 year1), uu, uu, uu, uu, uu, uu, uu, uu, uu, uu, uu, uu, uu, uu, uu, uu, uu, uu, uu, uu, uu, uu, uu, uu, uu, uu, uu, uu, uu, uu, uu, uu, uu, uu, uu, uu, uu, uu, uu, uu, uu, uu, uu, uu, uu, uu, uu, uu, uu, uu, uu, uu, uu, uu, uu, uu, uu, uu, uu, uu, uu, uu, uu, uu, uu, uu, uu, uu, uu, uu, uu, uu, uu, uu, uu, uu, uu, uu, uu, uu, uu, uu, uu, uu, uu, uu, uu, uu, uu, uu, uu, uu, uu, uu, uu, uu, uu, uu, uu, uu, uu, uu, uu, uu, uu, uu, uu, uu, uu, uu, uu, uu, uu, uu, uu, uu, uu, uu, uu, uu, uu, uu, uu, uu, uu, uu, uu, uu, uu, uu, uu, uu, uu, uu, uu, uu, uu, uu], hp := emp }
theorem S12_eq (n : Nat × Nat) (a0 : Int × (Int × Int × Int × Int × Int × Int × Int × Int) × Int × Int × Int × Int × Int × Int × Int × Int) (year1 : Int) : S12 n a0 year1 =
    (S47 n a0 7 20).bind fun r1' =>
    (bif decide ((r1'.length : Int) < 0) then none
    else L12_1 n n.1 year1 false (wr .i64 (1 * 2 ^ (min (Int.toNat (r1'.length : Int)) (IntKind.bits .i64)))) 0 r1' []) := by kernel_rfl
theorem S12_run (n : Nat × Nat) (xs : pksDen pk12) : S12 n xs.1 xs.2.1 = runG (E12 n) noScope c12 an12 (rtG rk12) (fun _ _ => none) (rtG rk12) (st0 pk12 xs Try.f12.ntmps) := by kernel_rfl
noncomputable def P12 (n : Nat × Nat) := phiOf pk12 rk12 (fun xs => S12 n xs.1 xs.2.1)
theorem call12 : CallOK Try.prog 12 := callOK_of Try.func12 (by kernel_rfl) (by kernel_rfl)
theorem env12 (n : Nat × Nat) : EnvOK Try.prog (E12 n) := envOK0 (consPhi_ok (FC18 n) call18 (consPhi_ok (FC20 n) call20 (consPhi_ok (FC44 n) call44 (consPhi_ok (FC46 n) call46 (consPhi_ok (FC47 n) call47 (consPhi_ok (FC60 n) call60 (consPhi_ok (FC61 n) call61 (consPhi_ok (FC64 n) call64 noPhi_ok)))))))) rfl rfl
theorem par12 (n : Nat × Nat) : EnvPar (E12 n) := envPar0 (consPhi_par phiOf_Par1 (consPhi_par phiOf_Par1 (consPhi_par phiOf_Par1 (consPhi_par phiOf_Par1 (consPhi_par phiOf_Par1 (consPhi_par phiOf_Par1 (consPhi_par phiOf_Par1 (consPhi_par phiOf_Par1 noPhi_par)))))))) rfl
theorem FC12 (n : Nat × Nat) : FCs Try.prog 12 (P12 n) := phiOf_FCs fun xs r h vs hv => FC.of_runG tabOK eqsOK (env12 n) (par12 n) mixed (fun _ => noScope_ok) Try.func12 (c := c12) (an := an12) (pks := pk12) (rks := rk12) (by kernel_rfl) (by kernel_rfl) hv ((S12_run n xs).symm.trans h)
/-D 12 -/
noncomputable def DL12_3 (n : Nat × Nat) (f1 : Int → Bool → Int → Int → (List (Int × Int)) → List Int → Option R12) (f2 : Int → Bool → Int → Int → Bool → Int → Int → Int → Int → (List (Int × Int)) → List Int → List Int → Option R12) (year1 : Int) (found7 : Bool) (v8 : Int) (v10 : Int) (good11 : Bool) (v24 : Int) (v25 : Int) (v29 : Int) (v30 : Int) (l5 : List (Int × Int)) (best6 : List Int) (struck9 : List Int) : Option R12 :=
    f2 year1 found7 v8 v10 good11 v24 v25 v29 (wr .i64 (v30 + 1)) l5 best6 struck9
theorem DL12_3_eq (n : Nat × Nat) (hn : n.2 = 1) (m1 m2 : Nat) : L12_3 n m1 m2 = DL12_3 n (L12_1 n m1) (L12_2 n m1 m2) := by
  funext year1 found7 v8 v10 good11 v24 v25 v29 v30 l5 best6 struck9; refine ((held_eq hn _).trans (L12_3_raw n m1 m2 year1 found7 v8 v10 good11 v24 v25 v29 v30 l5 best6 struck9)).trans ?_
  unfold DL12_3
  first | (simp only [S18_D n hn, S20_D n hn, S44_D n hn, S46_D n hn, S47_D n hn, S60_D n hn, S61_D n hn, S64_D n hn]; done) | (simp only [S18_D n hn, S20_D n hn, S44_D n hn, S46_D n hn, S47_D n hn, S60_D n hn, S61_D n hn, S64_D n hn]; with_reducible rfl) | with_reducible rfl | rfl
noncomputable def DL12_4 (n : Nat × Nat) (f1 : Int → Bool → Int → Int → (List (Int × Int)) → List Int → Option R12) (year1 : Int) (found7 : Bool) (v24 : Int) (v25 : Int) (l5 : List (Int × Int)) (best6 : List Int) : Option R12 :=
    f1 year1 found7 v24 (wr .i64 (v25 + 1)) l5 best6
theorem DL12_4_eq (n : Nat × Nat) (hn : n.2 = 1) (m1 : Nat) : L12_4 n m1 = DL12_4 n (L12_1 n m1) := by
  funext year1 found7 v24 v25 l5 best6; refine ((held_eq hn _).trans (L12_4_raw n m1 year1 found7 v24 v25 l5 best6)).trans ?_
  unfold DL12_4
  first | (simp only [DL12_3_eq n hn, S18_D n hn, S20_D n hn, S44_D n hn, S46_D n hn, S47_D n hn, S60_D n hn, S61_D n hn, S64_D n hn]; done) | (simp only [DL12_3_eq n hn, S18_D n hn, S20_D n hn, S44_D n hn, S46_D n hn, S47_D n hn, S60_D n hn, S61_D n hn, S64_D n hn]; with_reducible rfl) | with_reducible rfl | rfl
noncomputable def DF12_2 (n : Nat × Nat) (f1 : Int → Bool → Int → Int → (List (Int × Int)) → List Int → Option R12) (f2 : Int → Bool → Int → Int → Bool → Int → Int → Int → Int → (List (Int × Int)) → List Int → List Int → Option R12) (year1 : Int) (found7 : Bool) (v8 : Int) (v10 : Int) (good11 : Bool) (v24 : Int) (v25 : Int) (v29 : Int) (v30 : Int) (l5 : List (Int × Int)) (best6 : List Int) (struck9 : List Int) : Option R12 :=
    (bif decide (v30 < v29) then (bif inB v30 l5.length then (idx l5 v30).bind fun x15' =>
        (bif decide (v30 < 0) then none
        else (bif ((wr .i64 (BitVec.ofInt (IntKind.bits .i64) (Int.fdiv v8 (2 ^ (min (Int.toNat v30) (IntKind.bits .i64)))) &&& BitVec.ofInt (IntKind.bits .i64) 1).toNat) == 1) then (bif decide (struck9.length + [v30].length ≤ lim) then DL12_3 n f1 f2 year1 found7 v8 v10 good11 v24 v25 v29 v30 l5 best6 (struck9 ++ [v30])
            else none)
          else ((bif (good11 == true) then some (decide (x15'.1 ≥ v10))
              else some false)).bind fun b16' =>
            DL12_3 n f1 f2 year1 found7 v8 x15'.1 b16' v24 v25 v29 v30 l5 best6 struck9))
      else none)
    else ((bif (good11 == true) then ((bif ((!found7) == false) then some (decide ((struck9.length : Int) < (best6.length : Int)))
            else some true)).bind fun b17' =>
          ((bif (b17' == false) then ((bif (((struck9.length : Int) == (best6.length : Int)) == true) then (D64 n struck9 best6).bind fun r18' =>
                  some (decide (r18' < 0))
                else some false)).bind fun b19' =>
              some b19'
            else some true)).bind fun b20' =>
          some b20'
        else some false)).bind fun b21' =>
      (bif b21' then DL12_4 n f1 year1 true v24 v25 l5 struck9
      else DL12_4 n f1 year1 found7 v24 v25 l5 best6))
noncomputable def DL12_2 (n : Nat × Nat) (f1 : Int → Bool → Int → Int → (List (Int × Int)) → List Int → Option R12) (m : Nat) : Int → Bool → Int → Int → Bool → Int → Int → Int → Int → (List (Int × Int)) → List Int → List Int → Option R12 := Nat.rec (motive := fun _ => Int → Bool → Int → Int → Bool → Int → Int → Int → Int → (List (Int × Int)) → List Int → List Int → Option R12) (fun _ _ _ _ _ _ _ _ _ _ _ _ => none) (fun _ ih => DF12_2 n f1 ih) m
theorem DL12_2_succ (n : Nat × Nat) (f1 : Int → Bool → Int → Int → (List (Int × Int)) → List Int → Option R12) (m : Nat) : DL12_2 n f1 (m + 1) = DF12_2 n f1 (DL12_2 n f1 m) := rfl
theorem DL12_2_eq (n : Nat × Nat) (hn : n.2 = 1) (m1 : Nat) : ∀ m, L12_2 n m1 m = DL12_2 n (L12_1 n m1) m
  | 0 => by funext year1 found7 v8 v10 good11 v24 v25 v29 v30 l5 best6 struck9; kernel_rfl
  | m + 1 => by
    have ih := DL12_2_eq n hn m1 m
    funext year1 found7 v8 v10 good11 v24 v25 v29 v30 l5 best6 struck9; refine (L12_2_eq n m1 m year1 found7 v8 v10 good11 v24 v25 v29 v30 l5 best6 struck9).trans ?_
    rw [DL12_2_succ]
    unfold DF12_2
    first | (simp only [ih, DL12_3_eq n hn, DL12_4_eq n hn, S18_D n hn, S20_D n hn, S44_D n hn, S46_D n hn, S47_D n hn, S60_D n hn, S61_D n hn, S64_D n hn]; done) | (simp only [ih, DL12_3_eq n hn, DL12_4_eq n hn, S18_D n hn, S20_D n hn, S44_D n hn, S46_D n hn, S47_D n hn, S60_D n hn, S61_D n hn, S64_D n hn]; with_reducible rfl) | with_reducible rfl | rfl
noncomputable def DF12_1 (n : Nat × Nat) (f1 : Int → Bool → Int → Int → (List (Int × Int)) → List Int → Option R12) (year1 : Int) (found7 : Bool) (v24 : Int) (v25 : Int) (l5 : List (Int × Int)) (best6 : List Int) : Option R12 :=
    (bif decide (v25 < v24) then DL12_2 n f1 n.1 year1 found7 v25 0 true v24 v25 (l5.length : Int) 0 l5 best6 []
    else (D44 n l5).bind fun r2' =>
      (D61 n l5).bind fun r3' =>
      (bif 21 == 0 then none
      else (D60 n [Int.tmod (wr .i64 year1) 21, 1]).bind fun r4' =>
        (bif decide (r3'.length + r4'.length ≤ lim) then (D44 n (r3' ++ r4')).bind fun r5' =>
          (D20 n l5).bind fun r6' =>
          ((bif ((r2'.2 == 0) == true) then some (r5'.2 == 0)
            else some false)).bind fun b7' =>
          ((bif (b7' == true) then (D46 n r2'.1 best6).bind fun r8' =>
              some r8'
            else some false)).bind fun b9' =>
          ((bif (b9' == true) then some (decide ((r5'.1.length : Int) ≥ (r2'.1.length : Int)))
            else some false)).bind fun b10' =>
          ((bif (b10' == true) then some (decide ((r5'.1.length : Int) ≤ wr .i64 ((r2'.1.length : Int) + 1)))
            else some false)).bind fun b11' =>
          ((bif (b11' == true) then some (((best6.length : Int) == 0) == (r6'.2 == 13))
            else some false)).bind fun b12' =>
          ((bif (b12' == true) then (D18 n).bind fun r13' =>
              some r13'
            else some false)).bind fun b14' =>
          some b14'
        else none)))
noncomputable def DL12_1 (n : Nat × Nat) (m : Nat) : Int → Bool → Int → Int → (List (Int × Int)) → List Int → Option R12 := Nat.rec (motive := fun _ => Int → Bool → Int → Int → (List (Int × Int)) → List Int → Option R12) (fun _ _ _ _ _ _ => none) (fun _ ih => DF12_1 n ih) m
theorem DL12_1_succ (n : Nat × Nat) (m : Nat) : DL12_1 n (m + 1) = DF12_1 n (DL12_1 n m) := rfl
theorem DL12_1_eq (n : Nat × Nat) (hn : n.2 = 1) : ∀ m, L12_1 n m = DL12_1 n m
  | 0 => by funext year1 found7 v24 v25 l5 best6; kernel_rfl
  | m + 1 => by
    have ih := DL12_1_eq n hn m
    funext year1 found7 v24 v25 l5 best6; refine (L12_1_eq n m year1 found7 v24 v25 l5 best6).trans ?_
    rw [DL12_1_succ]
    unfold DF12_1
    first | (simp only [ih, DL12_3_eq n hn, DL12_4_eq n hn, DL12_2_eq n hn, S18_D n hn, S20_D n hn, S44_D n hn, S46_D n hn, S47_D n hn, S60_D n hn, S61_D n hn, S64_D n hn]; done) | (simp only [ih, DL12_3_eq n hn, DL12_4_eq n hn, DL12_2_eq n hn, S18_D n hn, S20_D n hn, S44_D n hn, S46_D n hn, S47_D n hn, S60_D n hn, S61_D n hn, S64_D n hn]; with_reducible rfl) | with_reducible rfl | rfl
noncomputable def D12 (n : Nat × Nat) (a0 : Int × (Int × Int × Int × Int × Int × Int × Int × Int) × Int × Int × Int × Int × Int × Int × Int × Int) (year1 : Int) : Option R12 :=
    (D47 n a0 7 20).bind fun r1' =>
    (bif decide ((r1'.length : Int) < 0) then none
    else DL12_1 n n.1 year1 false (wr .i64 (1 * 2 ^ (min (Int.toNat (r1'.length : Int)) (IntKind.bits .i64)))) 0 r1' [])
theorem S12_D (n : Nat × Nat) (hn : n.2 = 1) : S12 n = D12 n := by
  funext a0 year1; refine (S12_eq n a0 year1).trans ?_
  unfold D12
  first | (simp only [DL12_3_eq n hn, DL12_4_eq n hn, DL12_2_eq n hn, DL12_1_eq n hn, S18_D n hn, S20_D n hn, S44_D n hn, S46_D n hn, S47_D n hn, S60_D n hn, S61_D n hn, S64_D n hn]; done) | (simp only [DL12_3_eq n hn, DL12_4_eq n hn, DL12_2_eq n hn, DL12_1_eq n hn, S18_D n hn, S20_D n hn, S44_D n hn, S46_D n hn, S47_D n hn, S60_D n hn, S61_D n hn, S64_D n hn]; with_reducible rfl) | with_reducible rfl | rfl
noncomputable def PD12 (n : Nat × Nat) := phiOf pk12 rk12 (fun xs => D12 n xs.1 xs.2.1)
theorem P12_D (n : Nat × Nat) (hn : n.2 = 1) : P12 n = PD12 n := by unfold P12 PD12; rw [S12_D n hn]
end Go.Proofs.Ytombednapelokaa
