/- The law: written by program -/
import Derived.Test.YtombednapelokaaViS
import Derived.Test.YtombednapelokaaProg
import Derived.KernelRfl
import Derived.WalkKit
import Derived.Test.YtombednapelokaaCD1
set_option linter.unusedVariables false
set_option linter.unusedSimpArgs false
set_option maxRecDepth 100000
namespace Go.Proofs.Ytombednapelokaa
open Go.Vi
/- headword/headwordlaw08.ReignShifted -/
abbrev R8 := Bool
noncomputable def c8 : Code := bodyOf Try.f8
noncomputable def an8 : Ann := (.s .l (.s .l (.s .l (.s .l (.s (.s .l (.j [5, 6, 7, 8, 117, 118, 121, 122, 125, 126, 129, 130, 133, 134, 137, 138, 141, 142, 143, 144, 145, 148, 149, 150, 151, 152, 155, 156, 157, 158, 161, 162, 163, 164, 165, 168, 169, 170, 171, 172, 197, 198, 199, 200, 201, 202, 205, 206, 207, 208, 209, 210, 213, 214, 215, 216, 217, 218, 219, 220, 221, 222, 223, 224, 225, 226, 227, 228, 229, 230, 231, 232, 233, 234, 235, 236, 243, 244, 245, 248, 249, 250, 253, 254, 255, 258, 259, 260, 263, 264, 265, 268, 269, 270, 273, 274, 275, 290] (.j [5, 6, 7, 8, 32, 33, 117, 118, 121, 122, 125, 126, 129, 130, 133, 134, 137, 138, 141, 142, 143, 144, 145, 148, 149, 150, 151, 152, 155, 156, 157, 158, 161, 162, 163, 164, 165, 168, 169, 170, 171, 172, 197, 198, 199, 200, 201, 202, 205, 206, 207, 208, 209, 210, 213, 214, 215, 216, 217, 218, 219, 220, 221, 222, 223, 224, 225, 226, 227, 228, 229, 230, 231, 232, 233, 234, 235, 236, 243, 244, 245, 248, 249, 250, 253, 254, 255, 258, 259, 260, 263, 264, 265, 268, 269, 270, 273, 274, 275, 290] (.s .l (.s (.j [5, 6, 7, 8, 32, 33, 117, 118, 121, 122, 125, 126, 129, 130, 133, 134, 137, 138, 141, 142, 143, 144, 145, 148, 149, 150, 151, 152, 155, 156, 157, 158, 161, 162, 163, 164, 165, 168, 169, 170, 171, 172, 197, 198, 199, 200, 201, 202, 205, 206, 207, 208, 209, 210, 213, 214, 215, 216, 217, 218, 219, 220, 221, 222, 223, 224, 225, 226, 227, 228, 229, 230, 231, 232, 233, 234, 235, 236, 243, 244, 245, 248, 249, 250, 253, 254, 255, 258, 259, 260, 263, 264, 265, 268, 269, 270, 273, 274, 275, 290] .l .l) (.s (.j [5, 6, 7, 8, 32, 33, 117, 118, 121, 122, 125, 126, 129, 130, 133, 134, 137, 138, 141, 142, 143, 144, 145, 148, 149, 150, 151, 152, 155, 156, 157, 158, 161, 162, 163, 164, 165, 168, 169, 170, 171, 172, 197, 198, 199, 200, 201, 202, 205, 206, 207, 208, 209, 210, 213, 214, 215, 216, 217, 218, 219, 220, 221, 222, 223, 224, 225, 226, 227, 228, 229, 230, 231, 232, 233, 234, 235, 236, 243, 244, 245, 248, 249, 250, 253, 254, 255, 258, 259, 260, 263, 264, 265, 268, 269, 270, 273, 274, 275, 290] .l .l) .l))) .l) .l)) (.s .l (.s .l (.s .l (.s .l (.s .l (.s .l (.s .l (.s (.s .l (.j [6, 10, 12, 16, 18, 20, 22, 197, 198, 199, 200, 201, 202, 205, 206, 207, 208, 209, 210, 213, 214, 215, 216, 217, 218, 219, 220, 221, 222, 223, 224, 225, 226, 227, 228, 229, 230, 231, 232, 233, 234, 235, 236, 243, 244, 245, 248, 249, 250, 253, 254, 255, 258, 259, 260, 263, 264, 265, 268, 269, 270, 273, 274, 275, 290] .l .l)) (.s (.s .l (.j [16, 18, 243, 244, 245, 248, 249, 250, 253, 254, 255, 258, 259, 260, 263, 264, 265, 268, 269, 270, 273, 274, 275, 290] (.j [6, 12, 16, 18, 20, 22, 174, 175, 176, 197, 198, 199, 200, 201, 202, 205, 206, 207, 208, 209, 210, 213, 214, 215, 216, 217, 218, 219, 220, 221, 222, 223, 224, 225, 226, 227, 228, 229, 230, 231, 232, 233, 234, 235, 236, 243, 244, 245, 248, 249, 250, 253, 254, 255, 258, 259, 260, 263, 264, 265, 268, 269, 270, 273, 274, 275, 290] (.s .l (.s (.j [6, 12, 16, 18, 20, 22, 174, 175, 176, 197, 198, 199, 200, 201, 202, 205, 206, 207, 208, 209, 210, 213, 214, 215, 216, 217, 218, 219, 220, 221, 222, 223, 224, 225, 226, 227, 228, 229, 230, 231, 232, 233, 234, 235, 236, 243, 244, 245, 248, 249, 250, 253, 254, 255, 258, 259, 260, 263, 264, 265, 268, 269, 270, 273, 274, 275, 290] .l .l) (.s (.j [6, 12, 16, 18, 20, 22, 174, 175, 176, 197, 198, 199, 200, 201, 202, 205, 206, 207, 208, 209, 210, 213, 214, 215, 216, 217, 218, 219, 220, 221, 222, 223, 224, 225, 226, 227, 228, 229, 230, 231, 232, 233, 234, 235, 236, 243, 244, 245, 248, 249, 250, 253, 254, 255, 258, 259, 260, 263, 264, 265, 268, 269, 270, 273, 274, 275, 290] (.s .l (.s .l (.j [6, 12, 16, 18, 20, 22, 174, 175, 176, 197, 198, 199, 200, 201, 202, 205, 206, 207, 208, 209, 210, 213, 214, 215, 216, 217, 218, 219, 220, 221, 222, 223, 224, 225, 226, 227, 228, 229, 230, 231, 232, 233, 234, 235, 236, 243, 244, 245, 248, 249, 250, 253, 254, 255, 258, 259, 260, 263, 264, 265, 268, 269, 270, 273, 274, 275, 290] .l .l))) .l) .l))) .l) .l)) (.s (.s .l (.j [16, 18, 290] .l .l)) .l)))))))))))))))
def pk8 : List PK := [.c (.pair (.int .u8) (.pair (.pair (.int .u8) (.pair (.int .u8) (.pair (.int .u8) (.pair (.int .u8) (.pair (.int .u8) (.pair (.int .u8) (.pair (.int .u8) (.int .u8)))))))) (.pair (.int .u8) (.pair (.int .u8) (.pair (.int .u8) (.pair (.int .u8) (.pair (.int .u8) (.pair (.int .u8) (.pair (.int .u8) (.int .u8)))))))))), .c (.int .u8)]
def rk8 : List RK := [.c .bool 4]
noncomputable def rt8 (st : St) : Option R8 := rtG rk8 st
noncomputable def E8 (n : Nat × Nat) : Env := { T := tab, phi := (consPhi 18 (fun _ => true) (P18 n) (consPhi 30 (fun _ => true) (P30 n) (consPhi 35 (fun _ => true) (P35 n) (consPhi 37 (fun _ => true) (P37 n) (consPhi 47 (fun _ => true) (P47 n) (consPhi 48 (fun _ => true) (P48 n) (consPhi 51 (fun _ => true) (P51 n) (consPhi 52 (fun _ => true) (P52 n) (consPhi 53 (fun _ => true) (P53 n) noPhi))))))))), eff := fun _ => false, fuel := n.1, hold := n.2 }
noncomputable def kq8_1 (n : Nat × Nat) : St → Option R8 := run (E8 n) (cB (cB (cB (cB (cB c8))))) (Ann.snd (Ann.snd (Ann.snd (Ann.snd (Ann.snd an8))))) rt8 (fun _ _ => none) rt8
noncomputable def kc8_2 (n : Nat × Nat) : St → Option R8 := fun s => normC [5, 6, 7, 8, 117, 118, 121, 122, 125, 126, 129, 130, 133, 134, 137, 138, 141, 142, 143, 144, 145, 148, 149, 150, 151, 152, 155, 156, 157, 158, 161, 162, 163, 164, 165, 168, 169, 170, 171, 172, 197, 198, 199, 200, 201, 202, 205, 206, 207, 208, 209, 210, 213, 214, 215, 216, 217, 218, 219, 220, 221, 222, 223, 224, 225, 226, 227, 228, 229, 230, 231, 232, 233, 234, 235, 236, 243, 244, 245, 248, 249, 250, 253, 254, 255, 258, 259, 260, 263, 264, 265, 268, 269, 270, 273, 274, 275, 290] s (kq8_1 n)
noncomputable def xb8_3 (n : Nat × Nat) : Nat → St → Option R8 := fun j s => bif Nat.beq j 0 then normC [5, 6, 7, 8, 117, 118, 121, 122, 125, 126, 129, 130, 133, 134, 137, 138, 141, 142, 143, 144, 145, 148, 149, 150, 151, 152, 155, 156, 157, 158, 161, 162, 163, 164, 165, 168, 169, 170, 171, 172, 197, 198, 199, 200, 201, 202, 205, 206, 207, 208, 209, 210, 213, 214, 215, 216, 217, 218, 219, 220, 221, 222, 223, 224, 225, 226, 227, 228, 229, 230, 231, 232, 233, 234, 235, 236, 243, 244, 245, 248, 249, 250, 253, 254, 255, 258, 259, 260, 263, 264, 265, 268, 269, 270, 273, 274, 275, 290] s (kq8_1 n) else (fun _ _ => none) j s
noncomputable def F8_4 (n : Nat × Nat) : (St → Option R8) → St → Option R8 := fun K s => run (E8 n) (cA (cA (cB (cA (cB (cB (cB (cB c8)))))))) (Ann.fst (Ann.fst (Ann.snd (Ann.fst (Ann.snd (Ann.snd (Ann.snd (Ann.snd an8)))))))) (fun s => normC [5, 6, 7, 8, 32, 33, 117, 118, 121, 122, 125, 126, 129, 130, 133, 134, 137, 138, 141, 142, 143, 144, 145, 148, 149, 150, 151, 152, 155, 156, 157, 158, 161, 162, 163, 164, 165, 168, 169, 170, 171, 172, 197, 198, 199, 200, 201, 202, 205, 206, 207, 208, 209, 210, 213, 214, 215, 216, 217, 218, 219, 220, 221, 222, 223, 224, 225, 226, 227, 228, 229, 230, 231, 232, 233, 234, 235, 236, 243, 244, 245, 248, 249, 250, 253, 254, 255, 258, 259, 260, 263, 264, 265, 268, 269, 270, 273, 274, 275, 290] s K) (xb8_3 n) rt8 s
noncomputable def kq8_5 (n : Nat × Nat) (m1 : Nat) : St → Option R8 := run (E8 n) (cB (cB (cA (cA (cB (cA (cB (cB (cB (cB c8)))))))))) (Ann.snd (Ann.snd (Ann.fst (Ann.fst (Ann.snd (Ann.fst (Ann.snd (Ann.snd (Ann.snd (Ann.snd an8)))))))))) (fun s => normC [5, 6, 7, 8, 32, 33, 117, 118, 121, 122, 125, 126, 129, 130, 133, 134, 137, 138, 141, 142, 143, 144, 145, 148, 149, 150, 151, 152, 155, 156, 157, 158, 161, 162, 163, 164, 165, 168, 169, 170, 171, 172, 197, 198, 199, 200, 201, 202, 205, 206, 207, 208, 209, 210, 213, 214, 215, 216, 217, 218, 219, 220, 221, 222, 223, 224, 225, 226, 227, 228, 229, 230, 231, 232, 233, 234, 235, 236, 243, 244, 245, 248, 249, 250, 253, 254, 255, 258, 259, 260, 263, 264, 265, 268, 269, 270, 273, 274, 275, 290] s (loopN (F8_4 n) m1)) (xb8_3 n) rt8
noncomputable def kc8_6 (n : Nat × Nat) (m1 : Nat) : St → Option R8 := fun s => normC [5, 6, 7, 8, 32, 33, 117, 118, 121, 122, 125, 126, 129, 130, 133, 134, 137, 138, 141, 142, 143, 144, 145, 148, 149, 150, 151, 152, 155, 156, 157, 158, 161, 162, 163, 164, 165, 168, 169, 170, 171, 172, 197, 198, 199, 200, 201, 202, 205, 206, 207, 208, 209, 210, 213, 214, 215, 216, 217, 218, 219, 220, 221, 222, 223, 224, 225, 226, 227, 228, 229, 230, 231, 232, 233, 234, 235, 236, 243, 244, 245, 248, 249, 250, 253, 254, 255, 258, 259, 260, 263, 264, 265, 268, 269, 270, 273, 274, 275, 290] s (kq8_5 n m1)
noncomputable def kq8_7 (n : Nat × Nat) (m1 : Nat) : St → Option R8 := run (E8 n) (cB (cB (cB (cA (cA (cB (cA (cB (cB (cB (cB c8))))))))))) (Ann.snd (Ann.snd (Ann.snd (Ann.fst (Ann.fst (Ann.snd (Ann.fst (Ann.snd (Ann.snd (Ann.snd (Ann.snd an8))))))))))) (fun s => normC [5, 6, 7, 8, 32, 33, 117, 118, 121, 122, 125, 126, 129, 130, 133, 134, 137, 138, 141, 142, 143, 144, 145, 148, 149, 150, 151, 152, 155, 156, 157, 158, 161, 162, 163, 164, 165, 168, 169, 170, 171, 172, 197, 198, 199, 200, 201, 202, 205, 206, 207, 208, 209, 210, 213, 214, 215, 216, 217, 218, 219, 220, 221, 222, 223, 224, 225, 226, 227, 228, 229, 230, 231, 232, 233, 234, 235, 236, 243, 244, 245, 248, 249, 250, 253, 254, 255, 258, 259, 260, 263, 264, 265, 268, 269, 270, 273, 274, 275, 290] s (loopN (F8_4 n) m1)) (xb8_3 n) rt8
noncomputable def kc8_8 (n : Nat × Nat) (m1 : Nat) : St → Option R8 := fun s => normC [5, 6, 7, 8, 32, 33, 117, 118, 121, 122, 125, 126, 129, 130, 133, 134, 137, 138, 141, 142, 143, 144, 145, 148, 149, 150, 151, 152, 155, 156, 157, 158, 161, 162, 163, 164, 165, 168, 169, 170, 171, 172, 197, 198, 199, 200, 201, 202, 205, 206, 207, 208, 209, 210, 213, 214, 215, 216, 217, 218, 219, 220, 221, 222, 223, 224, 225, 226, 227, 228, 229, 230, 231, 232, 233, 234, 235, 236, 243, 244, 245, 248, 249, 250, 253, 254, 255, 258, 259, 260, 263, 264, 265, 268, 269, 270, 273, 274, 275, 290] s (kq8_7 n m1)
noncomputable def xb8_9 (n : Nat × Nat) (m1 : Nat) : Nat → St → Option R8 := fun j s => bif Nat.beq j 1 then normC [5, 6, 7, 8, 32, 33, 117, 118, 121, 122, 125, 126, 129, 130, 133, 134, 137, 138, 141, 142, 143, 144, 145, 148, 149, 150, 151, 152, 155, 156, 157, 158, 161, 162, 163, 164, 165, 168, 169, 170, 171, 172, 197, 198, 199, 200, 201, 202, 205, 206, 207, 208, 209, 210, 213, 214, 215, 216, 217, 218, 219, 220, 221, 222, 223, 224, 225, 226, 227, 228, 229, 230, 231, 232, 233, 234, 235, 236, 243, 244, 245, 248, 249, 250, 253, 254, 255, 258, 259, 260, 263, 264, 265, 268, 269, 270, 273, 274, 275, 290] s (kq8_7 n m1) else (xb8_3 n) j s
noncomputable def kq8_10 (n : Nat × Nat) : St → Option R8 := run (E8 n) (cB (cB (cB (cB (cB (cB (cB (cB (cB (cB (cB (cB (cB c8))))))))))))) (Ann.snd (Ann.snd (Ann.snd (Ann.snd (Ann.snd (Ann.snd (Ann.snd (Ann.snd (Ann.snd (Ann.snd (Ann.snd (Ann.snd (Ann.snd an8))))))))))))) rt8 (fun _ _ => none) rt8
noncomputable def kc8_11 (n : Nat × Nat) : St → Option R8 := fun s => normC [6, 10, 12, 16, 18, 20, 22, 197, 198, 199, 200, 201, 202, 205, 206, 207, 208, 209, 210, 213, 214, 215, 216, 217, 218, 219, 220, 221, 222, 223, 224, 225, 226, 227, 228, 229, 230, 231, 232, 233, 234, 235, 236, 243, 244, 245, 248, 249, 250, 253, 254, 255, 258, 259, 260, 263, 264, 265, 268, 269, 270, 273, 274, 275, 290] s (kq8_10 n)
noncomputable def kq8_12 (n : Nat × Nat) : St → Option R8 := run (E8 n) (cB (cB (cB (cB (cB (cB (cB (cB (cB (cB (cB (cB (cB (cB c8)))))))))))))) (Ann.snd (Ann.snd (Ann.snd (Ann.snd (Ann.snd (Ann.snd (Ann.snd (Ann.snd (Ann.snd (Ann.snd (Ann.snd (Ann.snd (Ann.snd (Ann.snd an8)))))))))))))) rt8 (fun _ _ => none) rt8
noncomputable def kc8_13 (n : Nat × Nat) : St → Option R8 := fun s => normC [16, 18, 243, 244, 245, 248, 249, 250, 253, 254, 255, 258, 259, 260, 263, 264, 265, 268, 269, 270, 273, 274, 275, 290] s (kq8_12 n)
noncomputable def xb8_14 (n : Nat × Nat) : Nat → St → Option R8 := fun j s => bif Nat.beq j 2 then normC [16, 18, 243, 244, 245, 248, 249, 250, 253, 254, 255, 258, 259, 260, 263, 264, 265, 268, 269, 270, 273, 274, 275, 290] s (kq8_12 n) else (fun _ _ => none) j s
noncomputable def F8_15 (n : Nat × Nat) : (St → Option R8) → St → Option R8 := fun K s => run (E8 n) (cA (cA (cB (cA (cB (cB (cB (cB (cB (cB (cB (cB (cB (cB (cB (cB (cB c8))))))))))))))))) (Ann.fst (Ann.fst (Ann.snd (Ann.fst (Ann.snd (Ann.snd (Ann.snd (Ann.snd (Ann.snd (Ann.snd (Ann.snd (Ann.snd (Ann.snd (Ann.snd (Ann.snd (Ann.snd (Ann.snd an8))))))))))))))))) (fun s => normC [6, 12, 16, 18, 20, 22, 174, 175, 176, 197, 198, 199, 200, 201, 202, 205, 206, 207, 208, 209, 210, 213, 214, 215, 216, 217, 218, 219, 220, 221, 222, 223, 224, 225, 226, 227, 228, 229, 230, 231, 232, 233, 234, 235, 236, 243, 244, 245, 248, 249, 250, 253, 254, 255, 258, 259, 260, 263, 264, 265, 268, 269, 270, 273, 274, 275, 290] s K) (xb8_14 n) rt8 s
noncomputable def kq8_16 (n : Nat × Nat) (m1 : Nat) : St → Option R8 := run (E8 n) (cB (cB (cA (cA (cB (cA (cB (cB (cB (cB (cB (cB (cB (cB (cB (cB (cB (cB (cB c8))))))))))))))))))) (Ann.snd (Ann.snd (Ann.fst (Ann.fst (Ann.snd (Ann.fst (Ann.snd (Ann.snd (Ann.snd (Ann.snd (Ann.snd (Ann.snd (Ann.snd (Ann.snd (Ann.snd (Ann.snd (Ann.snd (Ann.snd (Ann.snd an8))))))))))))))))))) (fun s => normC [6, 12, 16, 18, 20, 22, 174, 175, 176, 197, 198, 199, 200, 201, 202, 205, 206, 207, 208, 209, 210, 213, 214, 215, 216, 217, 218, 219, 220, 221, 222, 223, 224, 225, 226, 227, 228, 229, 230, 231, 232, 233, 234, 235, 236, 243, 244, 245, 248, 249, 250, 253, 254, 255, 258, 259, 260, 263, 264, 265, 268, 269, 270, 273, 274, 275, 290] s (loopN (F8_15 n) m1)) (xb8_14 n) rt8
noncomputable def kc8_17 (n : Nat × Nat) (m1 : Nat) : St → Option R8 := fun s => normC [6, 12, 16, 18, 20, 22, 174, 175, 176, 197, 198, 199, 200, 201, 202, 205, 206, 207, 208, 209, 210, 213, 214, 215, 216, 217, 218, 219, 220, 221, 222, 223, 224, 225, 226, 227, 228, 229, 230, 231, 232, 233, 234, 235, 236, 243, 244, 245, 248, 249, 250, 253, 254, 255, 258, 259, 260, 263, 264, 265, 268, 269, 270, 273, 274, 275, 290] s (kq8_16 n m1)
noncomputable def kq8_18 (n : Nat × Nat) (m1 : Nat) : St → Option R8 := run (E8 n) (cB (cB (cB (cA (cA (cB (cA (cB (cB (cB (cB (cB (cB (cB (cB (cB (cB (cB (cB (cB c8)))))))))))))))))))) (Ann.snd (Ann.snd (Ann.snd (Ann.fst (Ann.fst (Ann.snd (Ann.fst (Ann.snd (Ann.snd (Ann.snd (Ann.snd (Ann.snd (Ann.snd (Ann.snd (Ann.snd (Ann.snd (Ann.snd (Ann.snd (Ann.snd (Ann.snd an8)))))))))))))))))))) (fun s => normC [6, 12, 16, 18, 20, 22, 174, 175, 176, 197, 198, 199, 200, 201, 202, 205, 206, 207, 208, 209, 210, 213, 214, 215, 216, 217, 218, 219, 220, 221, 222, 223, 224, 225, 226, 227, 228, 229, 230, 231, 232, 233, 234, 235, 236, 243, 244, 245, 248, 249, 250, 253, 254, 255, 258, 259, 260, 263, 264, 265, 268, 269, 270, 273, 274, 275, 290] s (loopN (F8_15 n) m1)) (xb8_14 n) rt8
noncomputable def kc8_19 (n : Nat × Nat) (m1 : Nat) : St → Option R8 := fun s => normC [6, 12, 16, 18, 20, 22, 174, 175, 176, 197, 198, 199, 200, 201, 202, 205, 206, 207, 208, 209, 210, 213, 214, 215, 216, 217, 218, 219, 220, 221, 222, 223, 224, 225, 226, 227, 228, 229, 230, 231, 232, 233, 234, 235, 236, 243, 244, 245, 248, 249, 250, 253, 254, 255, 258, 259, 260, 263, 264, 265, 268, 269, 270, 273, 274, 275, 290] s (kq8_18 n m1)
noncomputable def xb8_20 (n : Nat × Nat) (m1 : Nat) : Nat → St → Option R8 := fun j s => bif Nat.beq j 3 then normC [6, 12, 16, 18, 20, 22, 174, 175, 176, 197, 198, 199, 200, 201, 202, 205, 206, 207, 208, 209, 210, 213, 214, 215, 216, 217, 218, 219, 220, 221, 222, 223, 224, 225, 226, 227, 228, 229, 230, 231, 232, 233, 234, 235, 236, 243, 244, 245, 248, 249, 250, 253, 254, 255, 258, 259, 260, 263, 264, 265, 268, 269, 270, 273, 274, 275, 290] s (kq8_18 n m1) else (xb8_14 n) j s
noncomputable def kc8_21 (n : Nat × Nat) (m1 : Nat) : St → Option R8 := fun s => normC [6, 12, 16, 18, 20, 22, 174, 175, 176, 197, 198, 199, 200, 201, 202, 205, 206, 207, 208, 209, 210, 213, 214, 215, 216, 217, 218, 219, 220, 221, 222, 223, 224, 225, 226, 227, 228, 229, 230, 231, 232, 233, 234, 235, 236, 243, 244, 245, 248, 249, 250, 253, 254, 255, 258, 259, 260, 263, 264, 265, 268, 269, 270, 273, 274, 275, 290] s (kc8_19 n m1)
noncomputable def kq8_22 (n : Nat × Nat) : St → Option R8 := run (E8 n) (cB (cB (cB (cB (cB (cB (cB (cB (cB (cB (cB (cB (cB (cB (cB c8))))))))))))))) (Ann.snd (Ann.snd (Ann.snd (Ann.snd (Ann.snd (Ann.snd (Ann.snd (Ann.snd (Ann.snd (Ann.snd (Ann.snd (Ann.snd (Ann.snd (Ann.snd (Ann.snd an8))))))))))))))) rt8 (fun _ _ => none) rt8
noncomputable def kc8_23 (n : Nat × Nat) : St → Option R8 := fun s => normC [16, 18, 290] s (kq8_22 n)
noncomputable def L8_1 (n : Nat × Nat) (m : Nat) (v6 : Int) (v32 : Int) (v33 : Int) (l5 : List (Int × Int)) (later7 : List (Int × Int)) (twice8 : List (Int × Int)) : Option R8 := loopN (F8_4 n) m { tm := [uu, uu, uu, uu, uu, .own 5 none false, .c (.int .i64 v6), .own 7 none false, .own 8 none false, uu, uu, uu, uu, uu, uu, uu, uu, uu, uu, uu, uu, uu, uu, uu, uu, uu, uu, uu, uu, uu, uu, uu, .c (.int .i64 v32), .c (.int .i64 v33), uu, uu, uu, uu, uu, uu, uu, uu, uu, uu, uu, uu, uu, uu, uu, uu, uu, uu, uu, uu, uu, uu, uu, uu, uu, uu, uu, uu, uu, uu, uu, uu, uu, uu, uu, uu, uu, uu, uu, uu, uu, uu, uu, uu, uu, uu, uu, uu, uu, uu, uu, uu, uu, uu, uu, uu, uu, uu, uu, uu, uu, uu, uu, uu, uu, uu, uu, uu, uu, uu, uu, uu, uu, uu, uu, uu, uu, uu, uu, uu, uu, uu, uu, uu, uu, uu, uu, uu, uu, uu, uu, uu, uu, uu, uu, uu, uu, uu, uu, uu, uu, uu, uu, uu, uu, uu, uu, uu, uu, uu, uu, uu, uu, uu, uu, uu, uu, uu, uu, uu, uu, uu, uu, uu, uu, uu, uu, uu, uu, uu, uu, uu, uu, uu, uu, uu, uu, uu, uu, uu, uu, uu, uu, uu, uu, uu, uu, uu, uu, uu, uu, uu, uu, uu, uu, uu, uu, uu, uu, uu, uu, uu, uu, uu, uu, uu, uu, uu, uu, uu, uu, uu, uu, uu, uu, uu, uu, uu, uu, uu, uu, uu, uu, uu, uu, uu, uu, uu, uu, uu, uu, uu, uu, uu, uu, uu, uu, uu, uu, uu, uu, uu, uu, uu, uu, uu, uu, uu, uu, uu, uu, uu, uu, uu, uu, uu, uu, uu, uu, uu, uu, uu, uu, uu, uu, uu, uu, uu, uu, uu, uu, uu, uu, uu, uu, uu, uu, uu, uu, uu, uu, uu, uu, uu, uu, uu, uu, uu, uu, uu, uu, uu, uu, uu, uu, uu, uu, uu], hp := (upd (upd (upd emp 8 (.arr (.pair (.int .i64) (.int .i64)) twice8 true)) 7 (.arr (.pair (.int .i64) (.int .i64)) later7 true)) 5 (.arr (.pair (.int .i64) (.int .i64)) l5 false)) }
noncomputable def L8_2 (n : Nat × Nat) (m : Nat) (v6 : Int) (v175 : Int) (v176 : Int) (w12 : List (Int × Int)) (c16_0 : Int) (c16_1 : Int) (d18_0 : Int) (d18_1 : Int) (r20 : List (Int × Int)) (s22 : List (Int × Int)) (v174 : List (Int × Int)) : Option R8 := loopN (F8_15 n) m { tm := [uu, uu, uu, uu, uu, uu, .c (.int .i64 v6), uu, uu, uu, uu, uu, .own 12 none false, uu, uu, uu, .ptr 16 0, uu, .ptr 18 0, uu, .own 20 none false, uu, .own 22 none false, uu, uu, uu, uu, uu, uu, uu, uu, uu, uu, uu, uu, uu, uu, uu, uu, uu, uu, uu, uu, uu, uu, uu, uu, uu, uu, uu, uu, uu, uu, uu, uu, uu, uu, uu, uu, uu, uu, uu, uu, uu, uu, uu, uu, uu, uu, uu, uu, uu, uu, uu, uu, uu, uu, uu, uu, uu, uu, uu, uu, uu, uu, uu, uu, uu, uu, uu, uu, uu, uu, uu, uu, uu, uu, uu, uu, uu, uu, uu, uu, uu, uu, uu, uu, uu, uu, uu, uu, uu, uu, uu, uu, uu, uu, uu, uu, uu, uu, uu, uu, uu, uu, uu, uu, uu, uu, uu, uu, uu, uu, uu, uu, uu, uu, uu, uu, uu, uu, uu, uu, uu, uu, uu, uu, uu, uu, uu, uu, uu, uu, uu, uu, uu, uu, uu, uu, uu, uu, uu, uu, uu, uu, uu, uu, uu, uu, uu, uu, uu, uu, uu, .own 174 none false, .c (.int .i64 v175), .c (.int .i64 v176), uu, uu, uu, uu, uu, uu, uu, uu, uu, uu, uu, uu, uu, uu, uu, uu, uu, uu, uu, uu, uu, uu, uu, uu, uu, uu, uu, uu, uu, uu, uu, uu, uu, uu, uu, uu, uu, uu, uu, uu, uu, uu, uu, uu, uu, uu, uu, uu, uu, uu, uu, uu, uu, uu, uu, uu, uu, uu, uu, uu, uu, uu, uu, uu, uu, uu, uu, uu, uu, uu, uu, uu, uu, uu, uu, uu, uu, uu, uu, uu, uu, uu, uu, uu, uu, uu, uu, uu, uu, uu, uu, uu, uu, uu, uu, uu, uu, uu, uu, uu, uu, uu, uu, uu, uu, uu, uu, uu, uu, uu, uu, uu, uu, uu, uu], hp := (upd (upd (upd (upd (upd (upd emp 174 (.arr (.pair (.int .i64) (.int .i64)) v174 false)) 22 (.arr (.pair (.int .i64) (.int .i64)) s22 false)) 20 (.arr (.pair (.int .i64) (.int .i64)) r20 false)) 18 (.box [.int .i64 d18_0, .int .i64 d18_1])) 16 (.box [.int .i64 c16_0, .int .i64 c16_1])) 12 (.arr (.pair (.int .i64) (.int .i64)) w12 false)) }
theorem L8_1_eq (n : Nat × Nat) (m1 : Nat) (v6 : Int) (v32 : Int) (v33 : Int) (l5 : List (Int × Int)) (later7 : List (Int × Int)) (twice8 : List (Int × Int)) : L8_1 n (m1 + 1) v6 v32 v33 l5 later7 twice8 =
    (bif decide (v33 < v32) then (bif inB v33 l5.length then (idx l5 v33).bind fun x2' =>
        (bif 4 == 0 then none
        else (bif inB v33 l5.length then (idx l5 v33).bind fun x3' =>
            (bif inB v33 (l5.set (Int.toNat v33) (x3'.1, wr .i64 (1 + (Int.tmod x2'.2 4)))).length then (idx (l5.set (Int.toNat v33) (x3'.1, wr .i64 (1 + (Int.tmod x2'.2 4)))) v33).bind fun x4' =>
              (bif inB v33 (l5.set (Int.toNat v33) (x3'.1, wr .i64 (1 + (Int.tmod x2'.2 4)))).length then (idx (l5.set (Int.toNat v33) (x3'.1, wr .i64 (1 + (Int.tmod x2'.2 4)))) v33).bind fun x5' =>
                (bif decide (later7.length + [(wr .i64 (x4'.1 + v6), x5'.2)].length ≤ lim) then (bif inB v33 (l5.set (Int.toNat v33) (x3'.1, wr .i64 (1 + (Int.tmod x2'.2 4)))).length then (idx (l5.set (Int.toNat v33) (x3'.1, wr .i64 (1 + (Int.tmod x2'.2 4)))) v33).bind fun x6' =>
                    (bif inB v33 (l5.set (Int.toNat v33) (x3'.1, wr .i64 (1 + (Int.tmod x2'.2 4)))).length then (idx (l5.set (Int.toNat v33) (x3'.1, wr .i64 (1 + (Int.tmod x2'.2 4)))) v33).bind fun x7' =>
                      (bif decide (twice8.length + [(x6'.1, wr .i64 (2 * x7'.2))].length ≤ lim) then L8_1 n m1 v6 v32 (wr .i64 (v33 + 1)) (l5.set (Int.toNat v33) (x3'.1, wr .i64 (1 + (Int.tmod x2'.2 4)))) (later7 ++ [(wr .i64 (x4'.1 + v6), x5'.2)]) (twice8 ++ [(x6'.1, wr .i64 (2 * x7'.2))])
                      else none)
                    else none)
                  else none)
                else none)
              else none)
            else none)
          else none))
      else none)
    else (S30 n l5).bind fun r8' =>
      (S30 n later7).bind fun r9' =>
      (S30 n twice8).bind fun r10' =>
      (S35 n l5).bind fun r11' =>
      (S35 n twice8).bind fun r12' =>
      (S37 n l5).bind fun r13' =>
      (S37 n twice8).bind fun r14' =>
      ((bif ((r8'.2 != 0) == false) then some (r9'.2 != 0)
        else some true)).bind fun b15' =>
      ((bif (b15' == false) then some (r10'.2 != 0)
        else some true)).bind fun b16' =>
      ((bif (b16' == false) then some (r11'.2 != 0)
        else some true)).bind fun b17' =>
      ((bif (b17' == false) then some (r12'.2 != 0)
        else some true)).bind fun b18' =>
      ((bif (b18' == false) then some (r13'.2 != 0)
        else some true)).bind fun b19' =>
      ((bif (b19' == false) then some (r14'.2 != 0)
        else some true)).bind fun b20' =>
      ((bif (b20' == false) then (S48 n r8'.1 (l5.length : Int)).bind fun r21' =>
          some (!r21')
        else some true)).bind fun b22' =>
      ((bif (b22' == false) then some ((r9'.1.length : Int) != (l5.length : Int))
        else some true)).bind fun b23' =>
      ((bif (b23' == false) then (S51 n r10'.1 r8'.1).bind fun r24' =>
          some (!r24')
        else some true)).bind fun b25' =>
      ((bif (b25' == false) then some ((r13'.1.length : Int) != (l5.length : Int))
        else some true)).bind fun b26' =>
      ((bif (b26' == false) then some ((r14'.1.length : Int) != (l5.length : Int))
        else some true)).bind fun b27' =>
      (bif b27' then some false
      else L8_2 n n.1 v6 (r8'.1.length : Int) 0 r9'.1 r11'.1.1 r11'.1.2 r12'.1.1 r12'.1.2 r13'.1 r14'.1 r8'.1)) := by kernel_rfl
theorem L8_2_eq (n : Nat × Nat) (m1 : Nat) (v6 : Int) (v175 : Int) (v176 : Int) (w12 : List (Int × Int)) (c16_0 : Int) (c16_1 : Int) (d18_0 : Int) (d18_1 : Int) (r20 : List (Int × Int)) (s22 : List (Int × Int)) (v174 : List (Int × Int)) : L8_2 n (m1 + 1) v6 v175 v176 w12 c16_0 c16_1 d18_0 d18_1 r20 s22 v174 =
    (bif decide (v176 < v175) then (bif inB v176 v174.length then (idx v174 v176).bind fun x28' =>
        (bif inB v176 w12.length then (idx w12 v176).bind fun x29' =>
          (S52 n (wr .i64 (x28'.1 + (wr .i64 (v6 * x28'.2)))) x28'.2).bind fun r30' =>
          ((bif ((!((x29'.1 == r30'.1) && ((x29'.2 == r30'.2) && true))) == false) then (bif inB v176 r20.length then (idx r20 v176).bind fun x31' =>
                (S53 n x31' 0 7200).bind fun r32' =>
                some (!r32')
              else none)
            else some true)).bind fun b33' =>
          ((bif (b33' == false) then (bif inB v176 s22.length then (idx s22 v176).bind fun x34' =>
                (S53 n x34' 0 7200).bind fun r35' =>
                some (!r35')
              else none)
            else some true)).bind fun b36' =>
          ((bif (b36' == false) then (bif inB v176 s22.length then (idx s22 v176).bind fun x37' =>
                (bif inB v176 r20.length then (idx r20 v176).bind fun x38' =>
                  (bif inB v176 r20.length then (idx r20 v176).bind fun x39' =>
                    (bif inB v176 s22.length then (idx s22 v176).bind fun x40' =>
                      some ((wr .i64 (x37'.1 * x38'.2)) != (wr .i64 ((wr .i64 (2 * x39'.1)) * x40'.2)))
                    else none)
                  else none)
                else none)
              else none)
            else some true)).bind fun b41' =>
          (bif b41' then some false
          else L8_2 n m1 v6 v175 (wr .i64 (v176 + 1)) w12 c16_0 c16_1 d18_0 d18_1 r20 s22 v174)
        else none)
      else none)
    else ((bif (decide (c16_1 < 1) == false) then some (decide (d18_1 < 1))
        else some true)).bind fun b42' =>
      ((bif (b42' == false) then some (decide (c16_1 > 16777216))
        else some true)).bind fun b43' =>
      ((bif (b43' == false) then some (decide (d18_1 > 16777216))
        else some true)).bind fun b44' =>
      ((bif (b44' == false) then some (decide (c16_0 < 0))
        else some true)).bind fun b45' =>
      ((bif (b45' == false) then some (decide (d18_0 < 0))
        else some true)).bind fun b46' =>
      ((bif (b46' == false) then some (decide (c16_0 > 68719476736))
        else some true)).bind fun b47' =>
      ((bif (b47' == false) then some (decide (d18_0 > 68719476736))
        else some true)).bind fun b48' =>
      (bif b48' then some false
      else ((bif (((wr .i64 (d18_0 * c16_1)) == (wr .i64 ((wr .i64 (2 * c16_0)) * d18_1))) == true) then (S18 n).bind fun r49' =>
            some r49'
          else some false)).bind fun b50' =>
        some b50')) := by kernel_rfl
noncomputable def S8 (n : Nat × Nat) (a0 : Int × (Int × Int × Int × Int × Int × Int × Int × Int) × Int × Int × Int × Int × Int × Int × Int × Int) (v1 : Int) : Option R8 := run (E8 n) c8 an8 rt8 (fun _ _ => none) rt8 { tm := [.agg [.int .u8 a0.1, .int .u8 a0.2.1.1, .int .u8 a0.2.1.2.1, .int .u8 a0.2.1.2.2.1, .int .u8 a0.2.1.2.2.2.1, .int .u8 a0.2.1.2.2.2.2.1, .int .u8 a0.2.1.2.2.2.2.2.1, .int .u8 a0.2.1.2.2.2.2.2.2.1, .int .u8 a0.2.1.2.2.2.2.2.2.2, .int .u8 a0.2.2.1, .int .u8 a0.2.2.2.1, .int .u8 a0.2.2.2.2.1, .int .u8 a0.2.2.2.2.2.1, .int .u8 a0.2.2.2.2.2.2.1, .int .u8 a0.2.2.2.2.2.2.2.1, .int .u8 a0.2.2.2.2.2.2.2.2.1, .int .u8 a0.2.2.2.2.2.2.2.2.2], .c (.int .u8 v1), uu, uu, uu, uu, uu, uu, uu, uu, uu, uu, uu, uu, uu, uu, uu, uu, uu, uu, uu, uu, uu, uu, uu, uu, uu, uu, uu, uu, uu, uu, uu, uu, uu, uu, uu, uu, uu, uu, uu, uu, uu, uu, uu, uu, uu, uu, uu, uu, uu, uu, uu, uu, uu, uu, uu, uu, uu, uu, uu, uu, uu, uu, uu, uu, uu, uu, uu, uu, uu, uu, uu, uu, uu, uu, uu, uu, uu, uu, uu, uu, uu, uu, uu, uu, uu, uu, uu, uu, uu, uu, uu, uu, uu, uu, uu, uu, uu, uu, uu, uu, uu, uu, uu, uu, uu, uu, uu, uu, uu, uu, uu, uu, uu, uu, uu, uu, uu, uu, uu, uu, uu, uu, uu, uu, uu, uu, uu, uu, uu, uu, uu, uu, uu, uu, uu, uu, uu, uu, uu, uu, uu, uu, uu, uu, uu, uu, uu, uu, uu, uu, uu, uu, uu, uu, uu, uu, uu, uu, uu, uu, uu, uu, uu, uu, uu, uu, uu, uu, uu, uu, uu, uu, uu, uu, uu, uu, uu, uu, uu, uu, uu, uu, uu, uu, uu, uu, uu, uu, uu, uu, uu, uu, uu, uu, uu, uu, uu, uu, uu, uu, uu, uu, uu, uu, uu, uu, uu, uu, uu, uu, uu, uu, uu, uu, uu, uu, uu, uu, uu, uu, uu, uu, uu, uu, uu, uu, uu, uu, uu, uu, uu, uu, uu, uu, uu, uu, uu, uu, uu, uu, uu, uu, uu, uu, uu, uu, uu, uu, uu, uu, uu, uu, uu, uu, uu, uu, uu, uu, uu, uu, uu, uu, uu, uu, uu, uu, uu, uu, uu, uu, uu, uu, uu, uu, uu, uu, uu, uu, uu, uu, uu, uu, uu, uu, uu, uu, uu, uu, uu, uu], hp := emp }
theorem S8_eq (n : Nat × Nat) (a0 : Int × (Int × Int × Int × Int × Int × Int × Int × Int) × Int × Int × Int × Int × Int × Int × Int × Int) (v1 : Int) : S8 n a0 v1 =
    (S47 n a0 8 50).bind fun r1' =>
    (bif 51 == 0 then none
    else L8_1 n n.1 (Int.tmod (wr .i64 v1) 51) (r1'.length : Int) 0 r1' [] []) := by kernel_rfl
theorem S8_run (n : Nat × Nat) (xs : pksDen pk8) : S8 n xs.1 xs.2.1 = runG (E8 n) noScope c8 an8 (rtG rk8) (fun _ _ => none) (rtG rk8) (st0 pk8 xs Try.f8.ntmps) := by kernel_rfl
noncomputable def P8 (n : Nat × Nat) := phiOf pk8 rk8 (fun xs => S8 n xs.1 xs.2.1)
theorem call8 : CallOK Try.prog 8 := callOK_of Try.func8 (by kernel_rfl) (by kernel_rfl)
theorem env8 (n : Nat × Nat) : EnvOK Try.prog (E8 n) := envOK0 (consPhi_ok (FC18 n) call18 (consPhi_ok (FC30 n) call30 (consPhi_ok (FC35 n) call35 (consPhi_ok (FC37 n) call37 (consPhi_ok (FC47 n) call47 (consPhi_ok (FC48 n) call48 (consPhi_ok (FC51 n) call51 (consPhi_ok (FC52 n) call52 (consPhi_ok (FC53 n) call53 noPhi_ok))))))))) rfl rfl
theorem par8 (n : Nat × Nat) : EnvPar (E8 n) := envPar0 (consPhi_par phiOf_Par1 (consPhi_par phiOf_Par1 (consPhi_par phiOf_Par1 (consPhi_par phiOf_Par1 (consPhi_par phiOf_Par1 (consPhi_par phiOf_Par1 (consPhi_par phiOf_Par1 (consPhi_par phiOf_Par1 (consPhi_par phiOf_Par1 noPhi_par))))))))) rfl
theorem FC8 (n : Nat × Nat) : FCs Try.prog 8 (P8 n) := phiOf_FCs fun xs r h vs hv => FC.of_runG tabOK eqsOK (env8 n) (par8 n) mixed (fun _ => noScope_ok) Try.func8 (c := c8) (an := an8) (pks := pk8) (rks := rk8) (by kernel_rfl) (by kernel_rfl) hv ((S8_run n xs).symm.trans h)
/-D 8 -/
noncomputable def DF8_2 (n : Nat × Nat) (f1 : Int → Int → Int → (List (Int × Int)) → Int → Int → Int → Int → (List (Int × Int)) → (List (Int × Int)) → (List (Int × Int)) → Option R8) (v6 : Int) (v175 : Int) (v176 : Int) (w12 : List (Int × Int)) (c16_0 : Int) (c16_1 : Int) (d18_0 : Int) (d18_1 : Int) (r20 : List (Int × Int)) (s22 : List (Int × Int)) (v174 : List (Int × Int)) : Option R8 :=
    (bif decide (v176 < v175) then (bif inB v176 v174.length then (idx v174 v176).bind fun x28' =>
        (bif inB v176 w12.length then (idx w12 v176).bind fun x29' =>
          (D52 n (wr .i64 (x28'.1 + (wr .i64 (v6 * x28'.2)))) x28'.2).bind fun r30' =>
          ((bif ((!((x29'.1 == r30'.1) && ((x29'.2 == r30'.2) && true))) == false) then (bif inB v176 r20.length then (idx r20 v176).bind fun x31' =>
                (D53 n x31' 0 7200).bind fun r32' =>
                some (!r32')
              else none)
            else some true)).bind fun b33' =>
          ((bif (b33' == false) then (bif inB v176 s22.length then (idx s22 v176).bind fun x34' =>
                (D53 n x34' 0 7200).bind fun r35' =>
                some (!r35')
              else none)
            else some true)).bind fun b36' =>
          ((bif (b36' == false) then (bif inB v176 s22.length then (idx s22 v176).bind fun x37' =>
                (bif inB v176 r20.length then (idx r20 v176).bind fun x38' =>
                  (bif inB v176 r20.length then (idx r20 v176).bind fun x39' =>
                    (bif inB v176 s22.length then (idx s22 v176).bind fun x40' =>
                      some ((wr .i64 (x37'.1 * x38'.2)) != (wr .i64 ((wr .i64 (2 * x39'.1)) * x40'.2)))
                    else none)
                  else none)
                else none)
              else none)
            else some true)).bind fun b41' =>
          (bif b41' then some false
          else f1 v6 v175 (wr .i64 (v176 + 1)) w12 c16_0 c16_1 d18_0 d18_1 r20 s22 v174)
        else none)
      else none)
    else ((bif (decide (c16_1 < 1) == false) then some (decide (d18_1 < 1))
        else some true)).bind fun b42' =>
      ((bif (b42' == false) then some (decide (c16_1 > 16777216))
        else some true)).bind fun b43' =>
      ((bif (b43' == false) then some (decide (d18_1 > 16777216))
        else some true)).bind fun b44' =>
      ((bif (b44' == false) then some (decide (c16_0 < 0))
        else some true)).bind fun b45' =>
      ((bif (b45' == false) then some (decide (d18_0 < 0))
        else some true)).bind fun b46' =>
      ((bif (b46' == false) then some (decide (c16_0 > 68719476736))
        else some true)).bind fun b47' =>
      ((bif (b47' == false) then some (decide (d18_0 > 68719476736))
        else some true)).bind fun b48' =>
      (bif b48' then some false
      else ((bif (((wr .i64 (d18_0 * c16_1)) == (wr .i64 ((wr .i64 (2 * c16_0)) * d18_1))) == true) then (D18 n).bind fun r49' =>
            some r49'
          else some false)).bind fun b50' =>
        some b50'))
noncomputable def DL8_2 (n : Nat × Nat) (m : Nat) : Int → Int → Int → (List (Int × Int)) → Int → Int → Int → Int → (List (Int × Int)) → (List (Int × Int)) → (List (Int × Int)) → Option R8 := Nat.rec (motive := fun _ => Int → Int → Int → (List (Int × Int)) → Int → Int → Int → Int → (List (Int × Int)) → (List (Int × Int)) → (List (Int × Int)) → Option R8) (fun _ _ _ _ _ _ _ _ _ _ _ => none) (fun _ ih => DF8_2 n ih) m
theorem DL8_2_succ (n : Nat × Nat) (m : Nat) : DL8_2 n (m + 1) = DF8_2 n (DL8_2 n m) := rfl
theorem DL8_2_eq (n : Nat × Nat) (hn : n.2 = 1) : ∀ m, L8_2 n m = DL8_2 n m
  | 0 => by funext v6 v175 v176 w12 c16_0 c16_1 d18_0 d18_1 r20 s22 v174; kernel_rfl
  | m + 1 => by
    have ih := DL8_2_eq n hn m
    funext v6 v175 v176 w12 c16_0 c16_1 d18_0 d18_1 r20 s22 v174; refine (L8_2_eq n m v6 v175 v176 w12 c16_0 c16_1 d18_0 d18_1 r20 s22 v174).trans ?_
    rw [DL8_2_succ]
    unfold DF8_2
    first | (simp only [ih, S18_D n hn, S30_D n hn, S35_D n hn, S37_D n hn, S47_D n hn, S48_D n hn, S51_D n hn, S52_D n hn, S53_D n hn]; done) | (simp only [ih, S18_D n hn, S30_D n hn, S35_D n hn, S37_D n hn, S47_D n hn, S48_D n hn, S51_D n hn, S52_D n hn, S53_D n hn]; with_reducible rfl) | with_reducible rfl | rfl
noncomputable def DF8_1 (n : Nat × Nat) (f1 : Int → Int → Int → (List (Int × Int)) → (List (Int × Int)) → (List (Int × Int)) → Option R8) (v6 : Int) (v32 : Int) (v33 : Int) (l5 : List (Int × Int)) (later7 : List (Int × Int)) (twice8 : List (Int × Int)) : Option R8 :=
    (bif decide (v33 < v32) then (bif inB v33 l5.length then (idx l5 v33).bind fun x2' =>
        (bif 4 == 0 then none
        else (bif inB v33 l5.length then (idx l5 v33).bind fun x3' =>
            (bif inB v33 (l5.set (Int.toNat v33) (x3'.1, wr .i64 (1 + (Int.tmod x2'.2 4)))).length then (idx (l5.set (Int.toNat v33) (x3'.1, wr .i64 (1 + (Int.tmod x2'.2 4)))) v33).bind fun x4' =>
              (bif inB v33 (l5.set (Int.toNat v33) (x3'.1, wr .i64 (1 + (Int.tmod x2'.2 4)))).length then (idx (l5.set (Int.toNat v33) (x3'.1, wr .i64 (1 + (Int.tmod x2'.2 4)))) v33).bind fun x5' =>
                (bif decide (later7.length + [(wr .i64 (x4'.1 + v6), x5'.2)].length ≤ lim) then (bif inB v33 (l5.set (Int.toNat v33) (x3'.1, wr .i64 (1 + (Int.tmod x2'.2 4)))).length then (idx (l5.set (Int.toNat v33) (x3'.1, wr .i64 (1 + (Int.tmod x2'.2 4)))) v33).bind fun x6' =>
                    (bif inB v33 (l5.set (Int.toNat v33) (x3'.1, wr .i64 (1 + (Int.tmod x2'.2 4)))).length then (idx (l5.set (Int.toNat v33) (x3'.1, wr .i64 (1 + (Int.tmod x2'.2 4)))) v33).bind fun x7' =>
                      (bif decide (twice8.length + [(x6'.1, wr .i64 (2 * x7'.2))].length ≤ lim) then f1 v6 v32 (wr .i64 (v33 + 1)) (l5.set (Int.toNat v33) (x3'.1, wr .i64 (1 + (Int.tmod x2'.2 4)))) (later7 ++ [(wr .i64 (x4'.1 + v6), x5'.2)]) (twice8 ++ [(x6'.1, wr .i64 (2 * x7'.2))])
                      else none)
                    else none)
                  else none)
                else none)
              else none)
            else none)
          else none))
      else none)
    else (D30 n l5).bind fun r8' =>
      (D30 n later7).bind fun r9' =>
      (D30 n twice8).bind fun r10' =>
      (D35 n l5).bind fun r11' =>
      (D35 n twice8).bind fun r12' =>
      (D37 n l5).bind fun r13' =>
      (D37 n twice8).bind fun r14' =>
      ((bif ((r8'.2 != 0) == false) then some (r9'.2 != 0)
        else some true)).bind fun b15' =>
      ((bif (b15' == false) then some (r10'.2 != 0)
        else some true)).bind fun b16' =>
      ((bif (b16' == false) then some (r11'.2 != 0)
        else some true)).bind fun b17' =>
      ((bif (b17' == false) then some (r12'.2 != 0)
        else some true)).bind fun b18' =>
      ((bif (b18' == false) then some (r13'.2 != 0)
        else some true)).bind fun b19' =>
      ((bif (b19' == false) then some (r14'.2 != 0)
        else some true)).bind fun b20' =>
      ((bif (b20' == false) then (D48 n r8'.1 (l5.length : Int)).bind fun r21' =>
          some (!r21')
        else some true)).bind fun b22' =>
      ((bif (b22' == false) then some ((r9'.1.length : Int) != (l5.length : Int))
        else some true)).bind fun b23' =>
      ((bif (b23' == false) then (D51 n r10'.1 r8'.1).bind fun r24' =>
          some (!r24')
        else some true)).bind fun b25' =>
      ((bif (b25' == false) then some ((r13'.1.length : Int) != (l5.length : Int))
        else some true)).bind fun b26' =>
      ((bif (b26' == false) then some ((r14'.1.length : Int) != (l5.length : Int))
        else some true)).bind fun b27' =>
      (bif b27' then some false
      else DL8_2 n n.1 v6 (r8'.1.length : Int) 0 r9'.1 r11'.1.1 r11'.1.2 r12'.1.1 r12'.1.2 r13'.1 r14'.1 r8'.1))
noncomputable def DL8_1 (n : Nat × Nat) (m : Nat) : Int → Int → Int → (List (Int × Int)) → (List (Int × Int)) → (List (Int × Int)) → Option R8 := Nat.rec (motive := fun _ => Int → Int → Int → (List (Int × Int)) → (List (Int × Int)) → (List (Int × Int)) → Option R8) (fun _ _ _ _ _ _ => none) (fun _ ih => DF8_1 n ih) m
theorem DL8_1_succ (n : Nat × Nat) (m : Nat) : DL8_1 n (m + 1) = DF8_1 n (DL8_1 n m) := rfl
theorem DL8_1_eq (n : Nat × Nat) (hn : n.2 = 1) : ∀ m, L8_1 n m = DL8_1 n m
  | 0 => by funext v6 v32 v33 l5 later7 twice8; kernel_rfl
  | m + 1 => by
    have ih := DL8_1_eq n hn m
    funext v6 v32 v33 l5 later7 twice8; refine (L8_1_eq n m v6 v32 v33 l5 later7 twice8).trans ?_
    rw [DL8_1_succ]
    unfold DF8_1
    first | (simp only [ih, DL8_2_eq n hn, S18_D n hn, S30_D n hn, S35_D n hn, S37_D n hn, S47_D n hn, S48_D n hn, S51_D n hn, S52_D n hn, S53_D n hn]; done) | (simp only [ih, DL8_2_eq n hn, S18_D n hn, S30_D n hn, S35_D n hn, S37_D n hn, S47_D n hn, S48_D n hn, S51_D n hn, S52_D n hn, S53_D n hn]; with_reducible rfl) | with_reducible rfl | rfl
noncomputable def D8 (n : Nat × Nat) (a0 : Int × (Int × Int × Int × Int × Int × Int × Int × Int) × Int × Int × Int × Int × Int × Int × Int × Int) (v1 : Int) : Option R8 :=
    (D47 n a0 8 50).bind fun r1' =>
    (bif 51 == 0 then none
    else DL8_1 n n.1 (Int.tmod (wr .i64 v1) 51) (r1'.length : Int) 0 r1' [] [])
theorem S8_D (n : Nat × Nat) (hn : n.2 = 1) : S8 n = D8 n := by
  funext a0 v1; refine (S8_eq n a0 v1).trans ?_
  unfold D8
  first | (simp only [DL8_2_eq n hn, DL8_1_eq n hn, S18_D n hn, S30_D n hn, S35_D n hn, S37_D n hn, S47_D n hn, S48_D n hn, S51_D n hn, S52_D n hn, S53_D n hn]; done) | (simp only [DL8_2_eq n hn, DL8_1_eq n hn, S18_D n hn, S30_D n hn, S35_D n hn, S37_D n hn, S47_D n hn, S48_D n hn, S51_D n hn, S52_D n hn, S53_D n hn]; with_reducible rfl) | with_reducible rfl | rfl
noncomputable def PD8 (n : Nat × Nat) := phiOf pk8 rk8 (fun xs => D8 n xs.1 xs.2.1)
theorem P8_D (n : Nat × Nat) (hn : n.2 = 1) : P8 n = PD8 n := by unfold P8 PD8; rw [S8_D n hn]
end Go.Proofs.Ytombednapelokaa
