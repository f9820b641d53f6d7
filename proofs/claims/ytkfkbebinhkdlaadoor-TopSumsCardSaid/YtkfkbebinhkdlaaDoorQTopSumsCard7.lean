/- Texts of this claim, joined: G76 to D113. -/
import Derived.KernelRfl
import Derived.Test.YtkfkbebinhkdlaaDoorProg
import Derived.WalkKit
import Derived.Test.YtkfkbebinhkdlaaDoorQTopSumsCard6
set_option linter.unusedVariables false
set_option linter.unusedSimpArgs false
set_option maxRecDepth 100000
namespace Go.Proofs.YtkfkbebinhkdlaaDoor
open Go.Vi
abbrev R76 := ByteArray × Int
noncomputable def c76 : Code := bodyOf Tryd.f76
noncomputable def an76 : Ann := (.s .l (.s (.s .l (.s .l (.j [0, 1, 28, 29, 49, 50, 51, 52, 53, 54, 55, 56, 57, 58] .l .l))) (.s .l (.j [4, 5] (.j [0, 1, 7, 28, 29, 49, 50, 51, 52, 53, 54, 55, 56, 57, 58] (.j [0, 1, 7, 28, 29, 49, 50, 51, 52, 53, 54, 55, 56, 57, 58] (.s .l (.s .l (.s .l (.j [0, 1, 7, 28, 29, 49, 50, 51, 52, 53, 54, 55, 56, 57, 58] (.j [0, 1, 7, 8, 9, 10, 28, 29, 49, 50, 51, 52, 53, 54, 55, 56, 57, 58] (.s (.s .l (.j [0, 1, 7, 8, 9, 10, 28, 29, 49, 50, 51, 52, 53, 54, 55, 56, 57, 58] .l .l)) (.j [] (.j [0, 1, 7, 8, 9, 10, 28, 29, 49, 50, 51, 52, 53, 54, 55, 56, 57, 58] (.s .l (.j [0, 1, 7, 8, 9, 10, 28, 29, 49, 50, 51, 52, 53, 54, 55, 56, 57, 58] (.s .l (.j [0, 1, 7, 8, 9, 10, 28, 29, 49, 50, 51, 52, 53, 54, 55, 56, 57, 58] .l (.s .l (.j [0, 1, 7, 8, 9, 10, 28, 29, 49, 50, 51, 52, 53, 54, 55, 56, 57, 58] .l .l)))) .l)) .l) .l)) .l) .l)))) .l) .l) .l))))
def pk76 : List PK := [.c .str, .c (.int .i64)]
def rk76 : List RK := [.c .str 4, .c (.int .i64) 5]
noncomputable def rt76 (st : St) : Option R76 := rtG rk76 st
noncomputable def E76 (n : Nat × Nat) : Env := { T := tab, phi := (consPhi 105 (fun _ => true) (P105 n) (consPhi 106 (fun _ => true) (P106 n) (consPhi 107 (fun _ => true) (P107 n) noPhi))), eff := fun _ => false, fuel := n.1, hold := n.2 }
noncomputable def xb76_4 (n : Nat × Nat) : Nat → St → Option R76 := fun j s => bif Nat.beq j 0 then normC [4, 5] s rt76 else (fun _ _ => none) j s
noncomputable def F76_5 (n : Nat × Nat) : (St → Option R76) → St → Option R76 := fun K s => run (E76 n) (cA (cA (cB (cB (cB c76))))) (Ann.fst (Ann.fst (Ann.snd (Ann.snd (Ann.snd an76))))) (fun s => normC [0, 1, 7, 28, 29, 49, 50, 51, 52, 53, 54, 55, 56, 57, 58] s K) (xb76_4 n) rt76 s
noncomputable def kc76_6 (n : Nat × Nat) (m1 : Nat) : St → Option R76 := fun s => normC [0, 1, 7, 28, 29, 49, 50, 51, 52, 53, 54, 55, 56, 57, 58] s (fun s => normC [0, 1, 7, 28, 29, 49, 50, 51, 52, 53, 54, 55, 56, 57, 58] s (loopN (F76_5 n) m1))
noncomputable def xb76_7 (n : Nat × Nat) (m1 : Nat) : Nat → St → Option R76 := fun j s => bif Nat.beq j 1 then normC [0, 1, 7, 28, 29, 49, 50, 51, 52, 53, 54, 55, 56, 57, 58] s (fun s => normC [0, 1, 7, 28, 29, 49, 50, 51, 52, 53, 54, 55, 56, 57, 58] s (loopN (F76_5 n) m1)) else (xb76_4 n) j s
noncomputable def xb76_9 (n : Nat × Nat) (m1 : Nat) : Nat → St → Option R76 := fun j s => bif Nat.beq j 2 then normC [0, 1, 7, 28, 29, 49, 50, 51, 52, 53, 54, 55, 56, 57, 58] s (kc76_6 n m1) else (xb76_7 n m1) j s
noncomputable def F76_10 (n : Nat × Nat) (m1 : Nat) : (St → Option R76) → St → Option R76 := fun K s => run (E76 n) (cA (cA (cB (cB (cB (cA (cA (cA (cB (cB (cB c76))))))))))) (Ann.fst (Ann.fst (Ann.snd (Ann.snd (Ann.snd (Ann.fst (Ann.fst (Ann.fst (Ann.snd (Ann.snd (Ann.snd an76))))))))))) (fun s => normC [0, 1, 7, 8, 9, 10, 28, 29, 49, 50, 51, 52, 53, 54, 55, 56, 57, 58] s K) (xb76_9 n m1) rt76 s
noncomputable def kq76_13 (n : Nat × Nat) (m1 m2 : Nat) : St → Option R76 := run (E76 n) (cB (cB (cA (cA (cB (cB (cB (cA (cA (cA (cB (cB (cB c76))))))))))))) (Ann.snd (Ann.snd (Ann.fst (Ann.fst (Ann.snd (Ann.snd (Ann.snd (Ann.fst (Ann.fst (Ann.fst (Ann.snd (Ann.snd (Ann.snd an76))))))))))))) (fun s => normC [0, 1, 7, 8, 9, 10, 28, 29, 49, 50, 51, 52, 53, 54, 55, 56, 57, 58] s (loopN (F76_10 n m1) m2)) (xb76_9 n m1) rt76
noncomputable def L76_1 (n : Nat × Nat) (m : Nat) (word0 : ByteArray) (letters1 : Int) (out7 : List Int) : Option R76 := loopN (F76_5 n) m { tm := [.c (.str word0), .c (.int .i64 letters1), uu, uu, uu, uu, uu, .own 7 none false, uu, uu, uu, uu, uu, uu, uu, uu, uu, uu, uu, uu, uu, uu, uu, uu, uu, uu, uu, uu, uu, uu, uu, uu, uu, uu, uu, uu, uu, uu, uu, uu, uu, uu, uu, uu, uu, uu, uu, uu, uu, uu, uu, uu, uu, uu, uu, uu, uu, uu, uu, uu, uu, uu, uu, uu, uu, uu, uu, uu], hp := (upd emp 7 (.arr (.int .u8) out7 false)) }
noncomputable def L76_2 (n : Nat × Nat) (m1 : Nat) (m : Nat) (word0 : ByteArray) (letters1 : Int) (left8 : Int) (found9 : Bool) (c10 : Int) (out7 : List Int) : Option R76 := loopN (F76_10 n m1) m { tm := [.c (.str word0), .c (.int .i64 letters1), uu, uu, uu, uu, uu, .own 7 none false, .c (.int .i64 left8), .c (.bool found9), .c (.int .u8 c10), uu, uu, uu, uu, uu, uu, uu, uu, uu, uu, uu, uu, uu, uu, uu, uu, uu, uu, uu, uu, uu, uu, uu, uu, uu, uu, uu, uu, uu, uu, uu, uu, uu, uu, uu, uu, uu, uu, uu, uu, uu, uu, uu, uu, uu, uu, uu, uu, uu, uu, uu, uu, uu, uu, uu, uu, uu], hp := (upd emp 7 (.arr (.int .u8) out7 false)) }
noncomputable def L76_3 (n : Nat × Nat) (m1 m2 : Nat) (word0 : ByteArray) (letters1 : Int) (left8 : Int) (found9 : Bool) (c10 : Int) (out7 : List Int) : Option R76 := loopN (fun _ => (kq76_13 n m1 m2)) n.2 { tm := [.c (.str word0), .c (.int .i64 letters1), uu, uu, uu, uu, uu, .own 7 none false, .c (.int .i64 left8), .c (.bool found9), .c (.int .u8 c10), uu, uu, uu, uu, uu, uu, uu, uu, uu, uu, uu, uu, uu, uu, uu, uu, uu, uu, uu, uu, uu, uu, uu, uu, uu, uu, uu, uu, uu, uu, uu, uu, uu, uu, uu, uu, uu, uu, uu, uu, uu, uu, uu, uu, uu, uu, uu, uu, uu, uu, uu, uu, uu, uu, uu, uu, uu], hp := (upd emp 7 (.arr (.int .u8) out7 false)) }
theorem L76_1_eq (n : Nat × Nat) (m1 : Nat) (word0 : ByteArray) (letters1 : Int) (out7 : List Int) : L76_1 n (m1 + 1) word0 letters1 out7 =
 (S106 n word0 letters1).bind fun r2' =>
    L76_2 n m1 n.1 word0 letters1 (r2'.length : Int) false 97 out7 := by kernel_rfl
theorem L76_2_eq (n : Nat × Nat) (m1 m2 : Nat) (word0 : ByteArray) (letters1 : Int) (left8 : Int) (found9 : Bool) (c10 : Int) (out7 : List Int) : L76_2 n m1 (m2 + 1) word0 letters1 left8 found9 c10 out7 =
 ((bif (decide (c10 < wr .u8 (wr .i64 (97 + letters1))) == true) then some (!found9)
 else some false)).bind fun b3' =>
 (bif b3' then (S107 n (strBytes word0) c10).bind fun r4' =>
 (bif decide (r4' < 0) then (bif decide (out7.length + [c10].length ≤ lim) then some (strNums (out7 ++ [c10]), 0)
 else none)
 else ((bif (decide (left8 > 0) == true) then (bif bounds (some (wr .i64 (r4' + 1))) none none word0.size then (S106 n (strCut (some (wr .i64 (r4' + 1))) none word0) letters1).bind fun r5' =>
 some ((r5'.length : Int) == (wr .i64 (left8 - 1)))
 else none)
 else some false)).bind fun b6' =>
 (bif b6' then (bif decide (out7.length + [c10].length ≤ lim) then (bif bounds (some (wr .i64 (r4' + 1))) none none word0.size then L76_3 n m1 m2 (strCut (some (wr .i64 (r4' + 1))) none word0) letters1 left8 true c10 (out7 ++ [c10])
 else none)
 else none)
 else L76_3 n m1 m2 word0 letters1 left8 found9 c10 out7))
 else L76_1 n m1 word0 letters1 out7) := by kernel_rfl
theorem L76_3_raw (n : Nat × Nat) (m1 m2 : Nat) (word0 : ByteArray) (letters1 : Int) (left8 : Int) (found9 : Bool) (c10 : Int) (out7 : List Int) : (kq76_13 n m1 m2) { tm := [.c (.str word0), .c (.int .i64 letters1), uu, uu, uu, uu, uu, .own 7 none false, .c (.int .i64 left8), .c (.bool found9), .c (.int .u8 c10), uu, uu, uu, uu, uu, uu, uu, uu, uu, uu, uu, uu, uu, uu, uu, uu, uu, uu, uu, uu, uu, uu, uu, uu, uu, uu, uu, uu, uu, uu, uu, uu, uu, uu, uu, uu, uu, uu, uu, uu, uu, uu, uu, uu, uu, uu, uu, uu, uu, uu, uu, uu, uu, uu, uu, uu, uu], hp := (upd emp 7 (.arr (.int .u8) out7 false)) } =
    L76_2 n m1 m2 word0 letters1 left8 found9 (wr .u8 (c10 + 1)) out7 := by kernel_rfl
noncomputable def S76 (n : Nat × Nat) (word0 : ByteArray) (letters1 : Int) : Option R76 := run (E76 n) c76 an76 rt76 (fun _ _ => none) rt76 { tm := [.c (.str word0), .c (.int .i64 letters1), uu, uu, uu, uu, uu, uu, uu, uu, uu, uu, uu, uu, uu, uu, uu, uu, uu, uu, uu, uu, uu, uu, uu, uu, uu, uu, uu, uu, uu, uu, uu, uu, uu, uu, uu, uu, uu, uu, uu, uu, uu, uu, uu, uu, uu, uu, uu, uu, uu, uu, uu, uu, uu, uu, uu, uu, uu, uu, uu, uu, uu, uu, uu, uu, uu, uu], hp := emp }
theorem S76_eq (n : Nat × Nat) (word0 : ByteArray) (letters1 : Int) : S76 n word0 letters1 =
 (S105 n word0 letters1).bind fun r1' =>
 (bif (r1' != 0) then some ((⟨#[]⟩ : ByteArray), r1')
 else L76_1 n n.1 word0 letters1 []) := by kernel_rfl
theorem S76_run (n : Nat × Nat) (xs : pksDen pk76) : S76 n xs.1 xs.2.1 = runG (E76 n) noScope c76 an76 (rtG rk76) (fun _ _ => none) (rtG rk76) (st0 pk76 xs Tryd.f76.ntmps) := by kernel_rfl
noncomputable def P76 (n : Nat × Nat) := phiOf pk76 rk76 (fun xs => S76 n xs.1 xs.2.1)
theorem call76 : CallOK Tryd.prog 76 := callOK_of Tryd.func76 (by kernel_rfl) (by kernel_rfl)
theorem env76 (n : Nat × Nat) : EnvOK Tryd.prog (E76 n) := envOK0 (consPhi_ok (FC105 n) call105 (consPhi_ok (FC106 n) call106 (consPhi_ok (FC107 n) call107 noPhi_ok))) rfl rfl
theorem par76 (n : Nat × Nat) : EnvPar (E76 n) := envPar0 (consPhi_par phiOf_Par1 (consPhi_par phiOf_Par1 (consPhi_par phiOf_Par1 noPhi_par))) rfl
theorem FC76 (n : Nat × Nat) : FCs Tryd.prog 76 (P76 n) := phiOf_FCs fun xs r h vs hv => FC.of_runG tabOK eqsOK (env76 n) (par76 n) mixed (fun _ p _ => noScope_ok p.1 p.2) Tryd.func76 (c := c76) (an := an76) (pks := pk76) (rks := rk76) (by kernel_rfl) (by kernel_rfl) hv ((S76_run n xs).symm.trans h)
abbrev R32 := Bool
noncomputable def c32 : Code := bodyOf Tryd.f32
noncomputable def an32 : Ann := (.s .l (.s (.s .l (.j [1] (.j [0, 1, 5, 11, 12] (.s (.s .l (.j [0, 1, 5, 11, 12] .l .l)) (.j [] (.j [0, 1, 5, 11, 12] (.s .l (.j [0, 1, 5, 11, 12] .l .l)) .l) .l)) .l) .l)) .l))
def pk32 : List PK := [.c .str, .c .str]
def rk32 : List RK := [.c .bool 4]
noncomputable def rt32 (st : St) : Option R32 := rtG rk32 st
noncomputable def E32 (n : Nat × Nat) : Env := { T := tab, phi := noPhi, eff := fun _ => false, fuel := n.1, hold := n.2 }
noncomputable def kq32_1 (n : Nat × Nat) : St → Option R32 := run (E32 n) (cB (cB c32)) (Ann.snd (Ann.snd an32)) rt32 (fun _ _ => none) rt32
noncomputable def xb32_3 (n : Nat × Nat) : Nat → St → Option R32 := fun j s => bif Nat.beq j 0 then normC [1] s (kq32_1 n) else (fun _ _ => none) j s
noncomputable def F32_4 (n : Nat × Nat) : (St → Option R32) → St → Option R32 := fun K s => run (E32 n) (cA (cA (cB (cA (cB c32))))) (Ann.fst (Ann.fst (Ann.snd (Ann.fst (Ann.snd an32))))) (fun s => normC [0, 1, 5, 11, 12] s K) (xb32_3 n) rt32 s
noncomputable def kq32_7 (n : Nat × Nat) (m1 : Nat) : St → Option R32 := run (E32 n) (cB (cB (cA (cA (cB (cA (cB c32))))))) (Ann.snd (Ann.snd (Ann.fst (Ann.fst (Ann.snd (Ann.fst (Ann.snd an32))))))) (fun s => normC [0, 1, 5, 11, 12] s (loopN (F32_4 n) m1)) (xb32_3 n) rt32
noncomputable def L32_1 (n : Nat × Nat) (m : Nat) (word0 : ByteArray) (part1 : ByteArray) (i5 : Int) : Option R32 := loopN (F32_4 n) m { tm := [.c (.str word0), .c (.str part1), uu, uu, uu, .c (.int .i64 i5), uu, uu, uu, uu, uu, uu, uu, uu, uu, uu, uu, uu, uu, uu, uu, uu, uu, uu, uu, uu], hp := emp }
noncomputable def L32_2 (n : Nat × Nat) (m1 : Nat) (word0 : ByteArray) (part1 : ByteArray) (i5 : Int) : Option R32 := loopN (fun _ => (kq32_7 n m1)) n.2 { tm := [.c (.str word0), .c (.str part1), uu, uu, uu, .c (.int .i64 i5), uu, uu, uu, uu, uu, uu, uu, uu, uu, uu, uu, uu, uu, uu, uu, uu, uu, uu, uu, uu], hp := emp }
theorem L32_1_eq (n : Nat × Nat) (m1 : Nat) (word0 : ByteArray) (part1 : ByteArray) (i5 : Int) : L32_1 n (m1 + 1) word0 part1 i5 =
 ((bif (decide (i5 < (word0.size : Int)) == true) then some (!strEq part1 (⟨#[]⟩ : ByteArray))
 else some false)).bind fun b1' =>
 (bif b1' then (idx (strBytes word0) i5).bind fun x2' =>
 (idx (strBytes part1) 0).bind fun x3' =>
 (bif (x2' == x3') then (bif bounds (some 1) none none part1.size then L32_2 n m1 word0 (strCut (some 1) none part1) i5
 else none)
 else L32_2 n m1 word0 part1 i5)
 else some (strEq part1 (⟨#[]⟩ : ByteArray))) := by kernel_rfl
theorem L32_2_raw (n : Nat × Nat) (m1 : Nat) (word0 : ByteArray) (part1 : ByteArray) (i5 : Int) : (kq32_7 n m1) { tm := [.c (.str word0), .c (.str part1), uu, uu, uu, .c (.int .i64 i5), uu, uu, uu, uu, uu, uu, uu, uu, uu, uu, uu, uu, uu, uu, uu, uu, uu, uu, uu, uu], hp := emp } =
    L32_1 n m1 word0 part1 (wr .i64 (i5 + 1)) := by kernel_rfl
noncomputable def S32 (n : Nat × Nat) (word0 : ByteArray) (part1 : ByteArray) : Option R32 := run (E32 n) c32 an32 rt32 (fun _ _ => none) rt32 { tm := [.c (.str word0), .c (.str part1), uu, uu, uu, uu, uu, uu, uu, uu, uu, uu, uu, uu, uu, uu, uu, uu, uu, uu, uu, uu, uu, uu, uu, uu], hp := emp }
theorem S32_eq (n : Nat × Nat) (word0 : ByteArray) (part1 : ByteArray) : S32 n word0 part1 =
    L32_1 n n.1 word0 part1 0 := by kernel_rfl
theorem S32_run (n : Nat × Nat) (xs : pksDen pk32) : S32 n xs.1 xs.2.1 = runG (E32 n) noScope c32 an32 (rtG rk32) (fun _ _ => none) (rtG rk32) (st0 pk32 xs Tryd.f32.ntmps) := by kernel_rfl
noncomputable def P32 (n : Nat × Nat) := phiOf pk32 rk32 (fun xs => S32 n xs.1 xs.2.1)
theorem call32 : CallOK Tryd.prog 32 := callOK_of Tryd.func32 (by kernel_rfl) (by kernel_rfl)
theorem env32 (n : Nat × Nat) : EnvOK Tryd.prog (E32 n) := envOK0 noPhi_ok rfl rfl
theorem par32 (n : Nat × Nat) : EnvPar (E32 n) := envPar0 noPhi_par rfl
theorem FC32 (n : Nat × Nat) : FCs Tryd.prog 32 (P32 n) := phiOf_FCs fun xs r h vs hv => FC.of_runG tabOK eqsOK (env32 n) (par32 n) mixed (fun _ p _ => noScope_ok p.1 p.2) Tryd.func32 (c := c32) (an := an32) (pks := pk32) (rks := rk32) (by kernel_rfl) (by kernel_rfl) hv ((S32_run n xs).symm.trans h)
abbrev R45 := Bool
noncomputable def c45 : Code := bodyOf Tryd.f45
noncomputable def an45 : Ann := .l
def pk45 : List PK := []
def rk45 : List RK := [.c .bool 0]
noncomputable def rt45 (st : St) : Option R45 := rtG rk45 st
noncomputable def E45 (n : Nat × Nat) : Env := { T := tab, phi := (consPhi 32 (fun _ => true) (P32 n) (consPhi 75 (fun _ => true) (P75 n) (consPhi 76 (fun _ => true) (P76 n) noPhi))), eff := fun _ => false, fuel := n.1, hold := n.2 }
noncomputable def S45 (n : Nat × Nat) : Option R45 := run (E45 n) c45 an45 rt45 (fun _ _ => none) rt45 { tm := [uu, uu, uu, uu, uu, uu, uu, uu, uu, uu, uu, uu, uu, uu, uu, uu, uu, uu, uu, uu, uu, uu, uu, uu, uu, uu, uu, uu, uu, uu], hp := emp }
theorem S45_eq (n : Nat × Nat) : S45 n =
 (S75 n (⟨#[97, 98, 99, 97]⟩ : ByteArray) (⟨#[97]⟩ : ByteArray)).bind fun r1' =>
 (S76 n (⟨#[97, 98, 98, 97]⟩ : ByteArray) 2).bind fun r2' =>
 ((bif ((r1'.2 == 0) == true) then some (r2'.2 == 0)
 else some false)).bind fun b3' =>
 ((bif (b3' == true) then some (r1'.1 == 2)
 else some false)).bind fun b4' =>
 ((bif (b4' == true) then some (strEq r2'.1 (⟨#[97, 97, 97]⟩ : ByteArray))
 else some false)).bind fun b5' =>
 ((bif (b5' == true) then (S32 n (⟨#[100, 97, 121, 45, 98, 111, 111, 107]⟩ : ByteArray) (⟨#[121, 98, 107]⟩ : ByteArray)).bind fun r6' =>
 some r6'
 else some false)).bind fun b7' =>
 some b7' := by kernel_rfl
theorem S45_run (n : Nat × Nat) (xs : pksDen pk45) : S45 n = runG (E45 n) noScope c45 an45 (rtG rk45) (fun _ _ => none) (rtG rk45) (st0 pk45 xs Tryd.f45.ntmps) := by kernel_rfl
noncomputable def P45 (n : Nat × Nat) := phiOf pk45 rk45 (fun xs => S45 n)
theorem call45 : CallOK Tryd.prog 45 := callOK_of Tryd.func45 (by kernel_rfl) (by kernel_rfl)
theorem env45 (n : Nat × Nat) : EnvOK Tryd.prog (E45 n) := envOK0 (consPhi_ok (FC32 n) call32 (consPhi_ok (FC75 n) call75 (consPhi_ok (FC76 n) call76 noPhi_ok))) rfl rfl
theorem par45 (n : Nat × Nat) : EnvPar (E45 n) := envPar0 (consPhi_par phiOf_Par1 (consPhi_par phiOf_Par1 (consPhi_par phiOf_Par1 noPhi_par))) rfl
theorem FC45 (n : Nat × Nat) : FCs Tryd.prog 45 (P45 n) := phiOf_FCs fun xs r h vs hv => FC.of_runG tabOK eqsOK (env45 n) (par45 n) mixed (fun _ p _ => noScope_ok p.1 p.2) Tryd.func45 (c := c45) (an := an45) (pks := pk45) (rks := rk45) (by kernel_rfl) (by kernel_rfl) hv ((S45_run n xs).symm.trans h)
abbrev R16 := Bool
noncomputable def c16 : Code := bodyOf Tryd.f16
noncomputable def an16 : Ann := .l
def pk16 : List PK := []
def rk16 : List RK := [.c .bool 0]
noncomputable def rt16 (st : St) : Option R16 := rtG rk16 st
noncomputable def E16 (n : Nat × Nat) : Env := { T := tabL, phi := (consPhi 14 (fun _ => true) (P14 n) (consPhi 44 (fun _ => true) (P44 n) (consPhi 45 (fun _ => true) (P45 n) noPhi))), eff := fun g => Nat.beq g 44, fuel := n.1, hold := n.2 }
noncomputable def S16 (n : Nat × Nat) : Option R16 := run (E16 n) c16 an16 rt16 (fun _ _ => none) rt16 { tm := [uu, uu, uu, uu, uu, uu, uu, uu, uu, uu, uu, uu, uu, uu, uu, uu, uu, uu, uu, uu, uu, uu], hp := emp }
theorem S16_eq (n : Nat × Nat) : S16 n =
 (S44 n (3, [(0, 1), (1, 2)])).bind fun r1' =>
 ((bif ((r1'.2 == 0) == true) then (S14 n r1'.1 [0, 2]).bind fun r2' =>
 some r2'
 else some false)).bind fun b3' =>
 ((bif (b3' == true) then (S45 n).bind fun r4' =>
 some r4'
 else some false)).bind fun b5' =>
 some b5' := by kernel_rfl
theorem S16_run (n : Nat × Nat) (xs : pksDen pk16) : S16 n = runG (E16 n) noScope c16 an16 (rtG rk16) (fun _ _ => none) (rtG rk16) (st0 pk16 xs Tryd.f16.ntmps) := by kernel_rfl
noncomputable def P16 (n : Nat × Nat) := phiOf pk16 rk16 (fun xs => S16 n)
theorem call16 : CallOK Tryd.prog 16 := callOK_of Tryd.func16 (by kernel_rfl) (by kernel_rfl)
theorem env16 (n : Nat × Nat) : EnvOK Tryd.prog (E16 n) := envOK0 (consPhi_ok (FC14 n) call14 (consPhi_ok (FC44 n) call44 (consPhi_ok (FC45 n) call45 noPhi_ok))) rfl rfl
theorem par16 (n : Nat × Nat) : EnvPar (E16 n) := envPar0 (consPhi_par phiOf_Par1 (consPhi_par phiOf_Par1 (consPhi_par phiOf_Par1 noPhi_par))) rfl
theorem FC16 (n : Nat × Nat) : FCs Tryd.prog 16 (P16 n) := phiOf_FCs fun xs r h vs hv => FC.of_runG tabLOK eqsLOK (env16 n) (par16 n) mixed (fun _ p _ => noScope_ok p.1 p.2) Tryd.func16 (c := c16) (an := an16) (pks := pk16) (rks := rk16) (by kernel_rfl) (by kernel_rfl) hv ((S16_run n xs).symm.trans h)
abbrev R83 := Bool
noncomputable def c83 : Code := bodyOf Tryd.f83
noncomputable def an83 : Ann := .l
def pk83 : List PK := []
def rk83 : List RK := [.c .bool 0]
noncomputable def rt83 (st : St) : Option R83 := rtG rk83 st
noncomputable def E83 (n : Nat × Nat) : Env := { T := tabL, phi := (consPhi 14 (fun _ => true) (P14 n) (consPhi 16 (fun _ => true) (P16 n) (consPhi 113 (fun _ => true) (P113 n) noPhi))), eff := fun _ => false, fuel := n.1, hold := n.2 }
noncomputable def S83 (n : Nat × Nat) : Option R83 := run (E83 n) c83 an83 rt83 (fun _ _ => none) rt83 { tm := [uu, uu, uu, uu, uu, uu, uu, uu, uu, uu, uu, uu, uu, uu, uu, uu, uu, uu, uu, uu, uu, uu, uu], hp := emp }
theorem S83_eq (n : Nat × Nat) : S83 n =
 (S113 n (3, [(0, 1), (0, 2), (1, 2)])).bind fun r1' =>
 ((bif ((r1'.2 == 0) == true) then (S14 n r1'.1 [0, 1]).bind fun r2' =>
 some r2'
 else some false)).bind fun b3' =>
 ((bif (b3' == true) then (S16 n).bind fun r4' =>
 some r4'
 else some false)).bind fun b5' =>
 some b5' := by kernel_rfl
theorem S83_run (n : Nat × Nat) (xs : pksDen pk83) : S83 n = runG (E83 n) noScope c83 an83 (rtG rk83) (fun _ _ => none) (rtG rk83) (st0 pk83 xs Tryd.f83.ntmps) := by kernel_rfl
noncomputable def P83 (n : Nat × Nat) := phiOf pk83 rk83 (fun xs => S83 n)
theorem call83 : CallOK Tryd.prog 83 := callOK_of Tryd.func83 (by kernel_rfl) (by kernel_rfl)
theorem env83 (n : Nat × Nat) : EnvOK Tryd.prog (E83 n) := envOK0 (consPhi_ok (FC14 n) call14 (consPhi_ok (FC16 n) call16 (consPhi_ok (FC113 n) call113 noPhi_ok))) rfl rfl
theorem par83 (n : Nat × Nat) : EnvPar (E83 n) := envPar0 (consPhi_par phiOf_Par1 (consPhi_par phiOf_Par1 (consPhi_par phiOf_Par1 noPhi_par))) rfl
theorem FC83 (n : Nat × Nat) : FCs Tryd.prog 83 (P83 n) := phiOf_FCs fun xs r h vs hv => FC.of_runG tabLOK eqsLOK (env83 n) (par83 n) mixed (fun _ p _ => noScope_ok p.1 p.2) Tryd.func83 (c := c83) (an := an83) (pks := pk83) (rks := rk83) (by kernel_rfl) (by kernel_rfl) hv ((S83_run n xs).symm.trans h)
abbrev R51 := Bool
noncomputable def c51 : Code := bodyOf Tryd.f51
noncomputable def an51 : Ann := .l
def pk51 : List PK := []
def rk51 : List RK := [.c .bool 0]
noncomputable def rt51 (st : St) : Option R51 := rtG rk51 st
noncomputable def E51 (n : Nat × Nat) : Env := { T := tabL, phi := (consPhi 17 (fun _ => true) (P17 n) (consPhi 83 (fun _ => true) (P83 n) noPhi)), eff := fun _ => false, fuel := n.1, hold := n.2 }
noncomputable def S51 (n : Nat × Nat) : Option R51 := run (E51 n) c51 an51 rt51 (fun _ _ => none) rt51 { tm := [uu, uu, uu, uu, uu, uu, uu, uu, uu, uu, uu, uu, uu, uu, uu, uu, uu, uu, uu], hp := emp }
theorem S51_eq (n : Nat × Nat) : S51 n =
 (S17 n (2, [0, 1, 2, 0, 1])).bind fun r1' =>
 ((bif ((r1'.2 == 0) == true) then some (r1'.1 == 4)
 else some false)).bind fun b2' =>
 ((bif (b2' == true) then (S83 n).bind fun r3' =>
 some r3'
 else some false)).bind fun b4' =>
 some b4' := by kernel_rfl
theorem S51_run (n : Nat × Nat) (xs : pksDen pk51) : S51 n = runG (E51 n) noScope c51 an51 (rtG rk51) (fun _ _ => none) (rtG rk51) (st0 pk51 xs Tryd.f51.ntmps) := by kernel_rfl
noncomputable def P51 (n : Nat × Nat) := phiOf pk51 rk51 (fun xs => S51 n)
theorem call51 : CallOK Tryd.prog 51 := callOK_of Tryd.func51 (by kernel_rfl) (by kernel_rfl)
theorem env51 (n : Nat × Nat) : EnvOK Tryd.prog (E51 n) := envOK0 (consPhi_ok (FC17 n) call17 (consPhi_ok (FC83 n) call83 noPhi_ok)) rfl rfl
theorem par51 (n : Nat × Nat) : EnvPar (E51 n) := envPar0 (consPhi_par phiOf_Par1 (consPhi_par phiOf_Par1 noPhi_par)) rfl
theorem FC51 (n : Nat × Nat) : FCs Tryd.prog 51 (P51 n) := phiOf_FCs fun xs r h vs hv => FC.of_runG tabLOK eqsLOK (env51 n) (par51 n) mixed (fun _ p _ => noScope_ok p.1 p.2) Tryd.func51 (c := c51) (an := an51) (pks := pk51) (rks := rk51) (by kernel_rfl) (by kernel_rfl) hv ((S51_run n xs).symm.trans h)
abbrev R20 := Bool
noncomputable def c20 : Code := bodyOf Tryd.f20
noncomputable def an20 : Ann := .l
def pk20 : List PK := []
def rk20 : List RK := [.c .bool 0]
noncomputable def rt20 (st : St) : Option R20 := rtG rk20 st
noncomputable def E20 (n : Nat × Nat) : Env := { T := tab, phi := (consPhi 14 (fun _ => true) (P14 n) (consPhi 50 (fun _ => true) (P50 n) (consPhi 51 (fun _ => true) (P51 n) noPhi))), eff := fun _ => false, fuel := n.1, hold := n.2 }
noncomputable def S20 (n : Nat × Nat) : Option R20 := run (E20 n) c20 an20 rt20 (fun _ _ => none) rt20 { tm := [uu, uu, uu, uu, uu, uu, uu, uu, uu, uu, uu, uu, uu, uu, uu, uu, uu, uu, uu, uu, uu, uu], hp := emp }
theorem S20_eq (n : Nat × Nat) : S20 n =
 (S50 n [(3, 1), (1, 1), (2, 1)]).bind fun r1' =>
 ((bif ((r1'.2 == 0) == true) then (S14 n r1'.1 [0]).bind fun r2' =>
 some r2'
 else some false)).bind fun b3' =>
 ((bif (b3' == true) then (S51 n).bind fun r4' =>
 some r4'
 else some false)).bind fun b5' =>
 some b5' := by kernel_rfl
theorem S20_run (n : Nat × Nat) (xs : pksDen pk20) : S20 n = runG (E20 n) noScope c20 an20 (rtG rk20) (fun _ _ => none) (rtG rk20) (st0 pk20 xs Tryd.f20.ntmps) := by kernel_rfl
noncomputable def P20 (n : Nat × Nat) := phiOf pk20 rk20 (fun xs => S20 n)
theorem call20 : CallOK Tryd.prog 20 := callOK_of Tryd.func20 (by kernel_rfl) (by kernel_rfl)
theorem env20 (n : Nat × Nat) : EnvOK Tryd.prog (E20 n) := envOK0 (consPhi_ok (FC14 n) call14 (consPhi_ok (FC50 n) call50 (consPhi_ok (FC51 n) call51 noPhi_ok))) rfl rfl
theorem par20 (n : Nat × Nat) : EnvPar (E20 n) := envPar0 (consPhi_par phiOf_Par1 (consPhi_par phiOf_Par1 (consPhi_par phiOf_Par1 noPhi_par))) rfl
theorem FC20 (n : Nat × Nat) : FCs Tryd.prog 20 (P20 n) := phiOf_FCs fun xs r h vs hv => FC.of_runG tabOK eqsOK (env20 n) (par20 n) mixed (fun _ p _ => noScope_ok p.1 p.2) Tryd.func20 (c := c20) (an := an20) (pks := pk20) (rks := rk20) (by kernel_rfl) (by kernel_rfl) hv ((S20_run n xs).symm.trans h)
abbrev R54 := Int
noncomputable def c54 : Code := bodyOf Tryd.f54
noncomputable def an54 : Ann := (.s .l (.s (.j [1, 30, 31, 32, 33, 34, 35, 48, 49, 50, 53, 54, 55, 58, 59, 60, 61, 62] (.s .l (.j [1, 30, 31, 32, 33, 34, 35, 48, 49, 50, 53, 54, 55, 58, 59, 60, 61, 62] .l (.s .l (.j [1, 30, 31, 32, 33, 34, 35, 48, 49, 50, 53, 54, 55, 58, 59, 60, 61, 62] .l .l)))) .l) (.s (.s .l (.j [1, 48, 49, 50, 53, 54, 55, 58, 59, 60, 61, 62] (.j [1, 16, 17, 18, 30, 31, 32, 33, 34, 35, 48, 49, 50, 53, 54, 55, 58, 59, 60, 61, 62] (.s .l (.s (.j [1, 16, 17, 18, 30, 31, 32, 33, 34, 35, 48, 49, 50, 53, 54, 55, 58, 59, 60, 61, 62] .l .l) (.s (.j [1, 16, 17, 18, 30, 31, 32, 33, 34, 35, 48, 49, 50, 53, 54, 55, 58, 59, 60, 61, 62] (.s .l (.j [1, 16, 17, 18, 30, 31, 32, 33, 34, 35, 48, 49, 50, 53, 54, 55, 58, 59, 60, 61, 62] (.s .l (.j [1, 16, 17, 18, 30, 31, 32, 33, 34, 35, 48, 49, 50, 53, 54, 55, 58, 59, 60, 61, 62] .l (.s .l (.j [1, 16, 17, 18, 30, 31, 32, 33, 34, 35, 48, 49, 50, 53, 54, 55, 58, 59, 60, 61, 62] .l .l)))) .l)) .l) .l))) .l) .l)) (.s (.s .l (.j [] .l .l)) .l))))
def pk54 : List PK := [.c (.pair (.sl (.pair (.int .i64) (.int .i64))) (.pair (.int .i64) (.int .i64)))]
def rk54 : List RK := [.c (.int .i64) 2]
noncomputable def rt54 (st : St) : Option R54 := rtG rk54 st
noncomputable def E54 (n : Nat × Nat) : Env := { T := tab, phi := noPhi, eff := fun _ => false, fuel := n.1, hold := n.2 }
noncomputable def kq54_6 (n : Nat × Nat) : St → Option R54 := run (E54 n) (cB (cB (cB c54))) (Ann.snd (Ann.snd (Ann.snd an54))) rt54 (fun _ _ => none) rt54
noncomputable def xb54_8 (n : Nat × Nat) : Nat → St → Option R54 := fun j s => bif Nat.beq j 1 then normC [1, 48, 49, 50, 53, 54, 55, 58, 59, 60, 61, 62] s (kq54_6 n) else (fun _ _ => none) j s
noncomputable def F54_9 (n : Nat × Nat) : (St → Option R54) → St → Option R54 := fun K s => run (E54 n) (cA (cA (cB (cA (cB (cB c54)))))) (Ann.fst (Ann.fst (Ann.snd (Ann.fst (Ann.snd (Ann.snd an54)))))) (fun s => normC [1, 16, 17, 18, 30, 31, 32, 33, 34, 35, 48, 49, 50, 53, 54, 55, 58, 59, 60, 61, 62] s K) (xb54_8 n) rt54 s
noncomputable def L54_1 (n : Nat × Nat) (m : Nat) (v16 : List (Int × Int)) (v17 : Int) (v18 : Int) (b1_0 : List (Int × Int)) (b1_1 : Int) (b1_2 : Int) : Option R54 := loopN (F54_9 n) m { tm := [uu, .ptr 1 0, uu, uu, uu, uu, uu, uu, uu, uu, uu, uu, uu, uu, uu, uu, .c (.sl (.pair (.int .i64) (.int .i64)) v16 false), .c (.int .i64 v17), .c (.int .i64 v18), uu, uu, uu, uu, uu, uu, uu, uu, uu, uu, uu, uu, uu, uu, uu, uu, uu, uu, uu, uu, uu, uu, uu, uu, uu, uu, uu, uu, uu, uu, uu, uu, uu, uu, uu, uu, uu, uu, uu, uu, uu, uu, uu, uu, uu], hp := (upd emp 1 (.box [.sl (.pair (.int .i64) (.int .i64)) b1_0 false, .int .i64 b1_1, .int .i64 b1_2])) }
theorem L54_1_eq (n : Nat × Nat) (m1 : Nat) (v16 : List (Int × Int)) (v17 : Int) (v18 : Int) (b1_0 : List (Int × Int)) (b1_1 : Int) (b1_2 : Int) : L54_1 n (m1 + 1) v16 v17 v18 b1_0 b1_1 b1_2 =
 (bif decide (v18 < v17) then (idx v16 v18).bind fun x1' =>
 ((bif (decide ((if x1'.2 < x1'.1 then x1'.2 else x1'.1) < 1) == false) then some (decide ((if x1'.2 > x1'.1 then x1'.2 else x1'.1) > 30))
 else some true)).bind fun b2' =>
 (bif b2' then some 1
 else (bif decide (x1'.1 > x1'.2) then some 7
 else L54_1 n m1 v16 v17 (wr .i64 (v18 + 1)) b1_0 b1_1 b1_2))
 else ((bif (decide (b1_1 < 1) == false) then some (decide (b1_1 > 100))
 else some true)).bind fun b3' =>
 ((bif (b3' == false) then some (decide (b1_2 < 0))
 else some true)).bind fun b4' =>
 ((bif (b4' == false) then some (decide (b1_2 > b1_1))
 else some true)).bind fun b5' =>
 (bif b5' then some 1
 else some 0)) := by kernel_rfl
noncomputable def S54 (n : Nat × Nat) (b0 : (List (Int × Int)) × Int × Int) : Option R54 := run (E54 n) c54 an54 rt54 (fun _ _ => none) rt54 { tm := [.agg [.sl (.pair (.int .i64) (.int .i64)) b0.1 false, .int .i64 b0.2.1, .int .i64 b0.2.2], uu, uu, uu, uu, uu, uu, uu, uu, uu, uu, uu, uu, uu, uu, uu, uu, uu, uu, uu, uu, uu, uu, uu, uu, uu, uu, uu, uu, uu, uu, uu, uu, uu, uu, uu, uu, uu, uu, uu, uu, uu, uu, uu, uu, uu, uu, uu, uu, uu, uu, uu, uu, uu, uu, uu, uu, uu, uu, uu, uu, uu, uu, uu], hp := emp }
theorem S54_eq (n : Nat × Nat) (b0 : (List (Int × Int)) × Int × Int) : S54 n b0 =
 (bif ((b0.1.length : Int) == 0) then some 4
 else (bif decide ((b0.1.length : Int) > 12) then some 3
 else L54_1 n n.1 b0.1 (b0.1.length : Int) 0 b0.1 b0.2.1 b0.2.2)) := by kernel_rfl
theorem S54_run (n : Nat × Nat) (xs : pksDen pk54) : S54 n xs.1 = runG (E54 n) noScope c54 an54 (rtG rk54) (fun _ _ => none) (rtG rk54) (st0 pk54 xs Tryd.f54.ntmps) := by kernel_rfl
noncomputable def P54 (n : Nat × Nat) := phiOf pk54 rk54 (fun xs => S54 n xs.1)
theorem call54 : CallOK Tryd.prog 54 := callOK_of Tryd.func54 (by kernel_rfl) (by kernel_rfl)
theorem env54 (n : Nat × Nat) : EnvOK Tryd.prog (E54 n) := envOK0 noPhi_ok rfl rfl
theorem par54 (n : Nat × Nat) : EnvPar (E54 n) := envPar0 noPhi_par rfl
theorem FC54 (n : Nat × Nat) : FCs Tryd.prog 54 (P54 n) := phiOf_FCs fun xs r h vs hv => FC.of_runG tabOK eqsOK (env54 n) (par54 n) mixed (fun _ p _ => noScope_ok p.1 p.2) Tryd.func54 (c := c54) (an := an54) (pks := pk54) (rks := rk54) (by kernel_rfl) (by kernel_rfl) hv ((S54_run n xs).symm.trans h)
/- (headword/volume.Article).most -/
abbrev R56 := Int
noncomputable def c56 : Code := bodyOf Tryd.f56
noncomputable def an56 : Ann := .l
def pk56 : List PK := [.c (.pair (.int .i64) (.int .i64))]
def rk56 : List RK := [.c (.int .i64) 2]
noncomputable def rt56 (st : St) : Option R56 := rtG rk56 st
noncomputable def E56 (n : Nat × Nat) : Env := { T := tab, phi := noPhi, eff := fun _ => false, fuel := n.1, hold := n.2 }
noncomputable def S56 (n : Nat × Nat) (a0 : Int × Int) : Option R56 := run (E56 n) c56 an56 rt56 (fun _ _ => none) rt56 { tm := [.agg [.int .i64 a0.1, .int .i64 a0.2], uu, uu, uu, uu], hp := emp }
theorem S56_eq (n : Nat × Nat) (a0 : Int × Int) : S56 n a0 =
 some a0.2 := by kernel_rfl
theorem S56_run (n : Nat × Nat) (xs : pksDen pk56) : S56 n xs.1 = runG (E56 n) noScope c56 an56 (rtG rk56) (fun _ _ => none) (rtG rk56) (st0 pk56 xs Tryd.f56.ntmps) := by kernel_rfl
noncomputable def P56 (n : Nat × Nat) := phiOf pk56 rk56 (fun xs => S56 n xs.1)
theorem call56 : CallOK Tryd.prog 56 := callOK_of Tryd.func56 (by kernel_rfl) (by kernel_rfl)
theorem env56 (n : Nat × Nat) : EnvOK Tryd.prog (E56 n) := envOK0 noPhi_ok rfl rfl
theorem par56 (n : Nat × Nat) : EnvPar (E56 n) := envPar0 noPhi_par rfl
theorem FC56 (n : Nat × Nat) : FCs Tryd.prog 56 (P56 n) := phiOf_FCs fun xs r h vs hv => FC.of_runG tabOK eqsOK (env56 n) (par56 n) mixed (fun _ p _ => noScope_ok p.1 p.2) Tryd.func56 (c := c56) (an := an56) (pks := pk56) (rks := rk56) (by kernel_rfl) (by kernel_rfl) hv ((S56_run n xs).symm.trans h)
/- (headword/volume.Book).counted -/
abbrev R55c56 := List Int
noncomputable def c55c56 : Code := bodyOf Tryd.f55
noncomputable def an55c56 : Ann := (.s .l (.s .l (.s (.s .l (.j [5] (.j [1, 5, 10, 11, 12] (.s .l (.s (.j [1, 5, 10, 11, 12] .l .l) (.s (.j [1, 5, 10, 11, 12] .l .l) .l))) .l) .l)) .l)))
def pk55c56 : List PK := [.c (.pair (.sl (.pair (.int .i64) (.int .i64))) (.pair (.int .i64) (.int .i64))), .f 56 []]
def rk55c56 : List RK := [.own (.int .i64) 4]
noncomputable def rt55c56 (st : St) : Option R55c56 := rtG rk55c56 st
noncomputable def E55c56 (n : Nat × Nat) : Env := { T := tab, phi := (consPhi 56 (fun _ => true) (P56 n) noPhi), eff := fun _ => false, fuel := n.1, hold := n.2, pcl := [23] }
noncomputable def kq55c56_1 (n : Nat × Nat) : St → Option R55c56 := run (E55c56 n) (cB (cB (cB c55c56))) (Ann.snd (Ann.snd (Ann.snd an55c56))) rt55c56 (fun _ _ => none) rt55c56
noncomputable def xb55c56_3 (n : Nat × Nat) : Nat → St → Option R55c56 := fun j s => bif Nat.beq j 0 then normC [5] s (kq55c56_1 n) else (fun _ _ => none) j s
noncomputable def F55c56_4 (n : Nat × Nat) : (St → Option R55c56) → St → Option R55c56 := fun K s => run (E55c56 n) (cA (cA (cB (cA (cB (cB c55c56)))))) (Ann.fst (Ann.fst (Ann.snd (Ann.fst (Ann.snd (Ann.snd an55c56)))))) (fun s => normC [1, 5, 10, 11, 12] s K) (xb55c56_3 n) rt55c56 s
noncomputable def L55c56_1 (n : Nat × Nat) (m : Nat) (v10 : List (Int × Int)) (v11 : Int) (v12 : Int) (out5 : List Int) : Option R55c56 := loopN (F55c56_4 n) m { tm := [uu, .fn 56 [], uu, uu, uu, .own 5 none false, uu, uu, uu, uu, .c (.sl (.pair (.int .i64) (.int .i64)) v10 false), .c (.int .i64 v11), .c (.int .i64 v12), uu, uu, uu, uu, uu, uu, uu, uu, uu, uu, uu, uu, uu, uu, uu, uu, uu, uu], hp := (upd emp 5 (.arr (.int .i64) out5 false)) }
theorem L55c56_1_eq (n : Nat × Nat) (m1 : Nat) (v10 : List (Int × Int)) (v11 : Int) (v12 : Int) (out5 : List Int) : L55c56_1 n (m1 + 1) v10 v11 v12 out5 =
 (bif decide (v12 < v11) then (idx v10 v12).bind fun x1' =>
 (bif inB (wr .i64 ((out5.length : Int) - 1)) out5.length then (idx out5 (wr .i64 ((out5.length : Int) - 1))).bind fun x2' =>
 (S56 n x1').bind fun r3' =>
 (bif decide (out5.length + [wr .i64 (x2' + r3')].length ≤ lim) then L55c56_1 n m1 v10 v11 (wr .i64 (v12 + 1)) (out5 ++ [wr .i64 (x2' + r3')])
 else none)
 else none)
 else some out5) := by kernel_rfl
noncomputable def S55c56 (n : Nat × Nat) (b0 : (List (Int × Int)) × Int × Int) : Option R55c56 := run (E55c56 n) c55c56 an55c56 rt55c56 (fun _ _ => none) rt55c56 { tm := [.agg [.sl (.pair (.int .i64) (.int .i64)) b0.1 false, .int .i64 b0.2.1, .int .i64 b0.2.2], .fn 56 [], uu, uu, uu, uu, uu, uu, uu, uu, uu, uu, uu, uu, uu, uu, uu, uu, uu, uu, uu, uu, uu, uu, uu, uu, uu, uu, uu, uu, uu], hp := emp }
theorem S55c56_eq (n : Nat × Nat) (b0 : (List (Int × Int)) × Int × Int) : S55c56 n b0 =
    L55c56_1 n n.1 b0.1 (b0.1.length : Int) 0 [0] := by kernel_rfl
theorem S55c56_run (n : Nat × Nat) (xs : pksDen pk55c56) : S55c56 n xs.1 = runG (E55c56 n) noScope c55c56 an55c56 (rtG rk55c56) (fun _ _ => none) (rtG rk55c56) (st0 pk55c56 xs Tryd.f55.ntmps) := by kernel_rfl
noncomputable def P55c56 (n : Nat × Nat) := phiOf pk55c56 rk55c56 (fun xs => S55c56 n xs.1)
theorem call55 : CallOK Tryd.prog 55 := callOK_of Tryd.func55 (by kernel_rfl) (by kernel_rfl)
theorem env55c56 (n : Nat × Nat) : EnvOK Tryd.prog (E55c56 n) := envOK0 (consPhi_ok (FC56 n) call56 noPhi_ok) rfl rfl
theorem par55c56 (n : Nat × Nat) : EnvPar (E55c56 n) := envPar0 (consPhi_par phiOf_Par1 noPhi_par) rfl
theorem FC55c56 (n : Nat × Nat) : FCs Tryd.prog 55 (P55c56 n) := phiOf_FCs fun xs r h vs hv => FC.of_runG tabOK eqsOK (env55c56 n) (par55c56 n) mixed (fun _ p _ => noScope_ok p.1 p.2) Tryd.func55 (c := c55c56) (an := an55c56) (pks := pk55c56) (rks := rk55c56) (by kernel_rfl) (by kernel_rfl) hv ((S55c56_run n xs).symm.trans h)
/- (headword/volume.lines).between -/
abbrev R86 := Int
noncomputable def c86 : Code := bodyOf Tryd.f86
noncomputable def an86 : Ann := .l
def pk86 : List PK := [.c (.sl (.int .i64)), .c (.int .i64), .c (.int .i64)]
def rk86 : List RK := [.c (.int .i64) 6]
noncomputable def rt86 (st : St) : Option R86 := rtG rk86 st
noncomputable def E86 (n : Nat × Nat) : Env := { T := tab, phi := noPhi, eff := fun _ => false, fuel := n.1, hold := n.2 }
noncomputable def S86 (n : Nat × Nat) (l0 : List Int) (begin1 : Int) (v2 : Int) : Option R86 := run (E86 n) c86 an86 rt86 (fun _ _ => none) rt86 { tm := [.c (.sl (.int .i64) l0 false), .c (.int .i64 begin1), .c (.int .i64 v2), uu, uu, uu, uu, uu, uu, uu, uu, uu, uu, uu, uu, uu], hp := emp }
theorem S86_eq (n : Nat × Nat) (l0 : List Int) (begin1 : Int) (v2 : Int) : S86 n l0 begin1 v2 =
 (idx l0 v2).bind fun x1' =>
 (idx l0 begin1).bind fun x2' =>
 some (wr .i64 (x1' - x2')) := by kernel_rfl
theorem S86_run (n : Nat × Nat) (xs : pksDen pk86) : S86 n xs.1 xs.2.1 xs.2.2.1 = runG (E86 n) noScope c86 an86 (rtG rk86) (fun _ _ => none) (rtG rk86) (st0 pk86 xs Tryd.f86.ntmps) := by kernel_rfl
noncomputable def P86 (n : Nat × Nat) := phiOf pk86 rk86 (fun xs => S86 n xs.1 xs.2.1 xs.2.2.1)
theorem call86 : CallOK Tryd.prog 86 := callOK_of Tryd.func86 (by kernel_rfl) (by kernel_rfl)
theorem env86 (n : Nat × Nat) : EnvOK Tryd.prog (E86 n) := envOK0 noPhi_ok rfl rfl
theorem par86 (n : Nat × Nat) : EnvPar (E86 n) := envPar0 noPhi_par rfl
theorem FC86 (n : Nat × Nat) : FCs Tryd.prog 86 (P86 n) := phiOf_FCs fun xs r h vs hv => FC.of_runG tabOK eqsOK (env86 n) (par86 n) mixed (fun _ p _ => noScope_ok p.1 p.2) Tryd.func86 (c := c86) (an := an86) (pks := pk86) (rks := rk86) (by kernel_rfl) (by kernel_rfl) hv ((S86_run n xs).symm.trans h)
/- (headword/volume.lines).filled -/
abbrev R57 := List Int
noncomputable def c57 : Code := bodyOf Tryd.f57
noncomputable def an57 : Ann := (.s .l (.s .l (.s .l (.s (.s .l (.j [0, 5] (.j [0, 1, 5, 6, 7] (.s (.s .l (.j [0, 1, 5, 6, 7] .l .l)) (.j [] (.j [0, 1, 5, 6, 7] (.s (.s .l (.j [0, 1, 5, 6, 7] .l .l)) (.s .l (.j [0, 1, 5, 6, 7] .l .l))) .l) .l)) .l) .l)) .l))))
def pk57 : List PK := [.c (.sl (.int .i64)), .c (.int .i64)]
def rk57 : List RK := [.ownN (.int .i64) 4]
noncomputable def rt57 (st : St) : Option R57 := rtG rk57 st
noncomputable def E57 (n : Nat × Nat) : Env := { T := tabN, phi := (consPhi 86 (fun _ => true) (P86 n) noPhi), eff := fun _ => false, fuel := n.1, hold := n.2 }
noncomputable def kq57_1 (n : Nat × Nat) : St → Option R57 := run (E57 n) (cB (cB (cB (cB c57)))) (Ann.snd (Ann.snd (Ann.snd (Ann.snd an57)))) rt57 (fun _ _ => none) rt57
noncomputable def xb57_3 (n : Nat × Nat) : Nat → St → Option R57 := fun j s => bif Nat.beq j 0 then normC [0, 5] s (kq57_1 n) else (fun _ _ => none) j s
noncomputable def F57_4 (n : Nat × Nat) : (St → Option R57) → St → Option R57 := fun K s => run (E57 n) (cA (cA (cB (cA (cB (cB (cB c57))))))) (Ann.fst (Ann.fst (Ann.snd (Ann.fst (Ann.snd (Ann.snd (Ann.snd an57))))))) (fun s => normC [0, 1, 5, 6, 7] s K) (xb57_3 n) rt57 s
noncomputable def kq57_7 (n : Nat × Nat) (m1 : Nat) : St → Option R57 := run (E57 n) (cB (cB (cA (cA (cB (cA (cB (cB (cB c57))))))))) (Ann.snd (Ann.snd (Ann.fst (Ann.fst (Ann.snd (Ann.fst (Ann.snd (Ann.snd (Ann.snd an57))))))))) (fun s => normC [0, 1, 5, 6, 7] s (loopN (F57_4 n) m1)) (xb57_3 n) rt57
noncomputable def L57_1 (n : Nat × Nat) (m : Nat) (l0 : List Int) (room1 : Int) (begin6 : Int) (v7 : Int) (out5 : List Int) : Option R57 := loopN (F57_4 n) m { tm := [.c (.sl (.int .i64) l0 false), .c (.int .i64 room1), uu, uu, uu, .own 5 none false, .c (.int .i64 begin6), .c (.int .i64 v7), uu, uu, uu, uu, uu, uu, uu, uu, uu, uu, uu, uu, uu, uu, uu, uu, uu, uu, uu, uu, uu, uu, uu, uu, uu, uu, uu, uu, uu, uu, uu], hp := (upd emp 5 (.arr (.int .i64) out5 true)) }
noncomputable def L57_2 (n : Nat × Nat) (m1 : Nat) (l0 : List Int) (room1 : Int) (begin6 : Int) (v7 : Int) (out5 : List Int) : Option R57 := loopN (fun _ => (kq57_7 n m1)) n.2 { tm := [.c (.sl (.int .i64) l0 false), .c (.int .i64 room1), uu, uu, uu, .own 5 none false, .c (.int .i64 begin6), .c (.int .i64 v7), uu, uu, uu, uu, uu, uu, uu, uu, uu, uu, uu, uu, uu, uu, uu, uu, uu, uu, uu, uu, uu, uu, uu, uu, uu, uu, uu, uu, uu, uu, uu], hp := (upd emp 5 (.arr (.int .i64) out5 true)) }
theorem L57_1_eq (n : Nat × Nat) (m1 : Nat) (l0 : List Int) (room1 : Int) (begin6 : Int) (v7 : Int) (out5 : List Int) : L57_1 n (m1 + 1) l0 room1 begin6 v7 out5 =
 (bif decide (v7 < (l0.length : Int)) then (S86 n l0 (wr .i64 (v7 - 1)) v7).bind fun r1' =>
 (bif decide (r1' > room1) then some []
 else (S86 n l0 begin6 v7).bind fun r2' =>
 (bif decide (r2' > room1) then (bif decide (out5.length + [wr .i64 (v7 - 1)].length ≤ lim) then L57_2 n m1 l0 room1 (wr .i64 (v7 - 1)) v7 (out5 ++ [wr .i64 (v7 - 1)])
 else none)
 else L57_2 n m1 l0 room1 begin6 v7 out5))
 else (bif decide (out5.length + [wr .i64 ((l0.length : Int) - 1)].length ≤ lim) then some (out5 ++ [wr .i64 ((l0.length : Int) - 1)])
 else none)) := by kernel_rfl
theorem L57_2_raw (n : Nat × Nat) (m1 : Nat) (l0 : List Int) (room1 : Int) (begin6 : Int) (v7 : Int) (out5 : List Int) : (kq57_7 n m1) { tm := [.c (.sl (.int .i64) l0 false), .c (.int .i64 room1), uu, uu, uu, .own 5 none false, .c (.int .i64 begin6), .c (.int .i64 v7), uu, uu, uu, uu, uu, uu, uu, uu, uu, uu, uu, uu, uu, uu, uu, uu, uu, uu, uu, uu, uu, uu, uu, uu, uu, uu, uu, uu, uu, uu, uu], hp := (upd emp 5 (.arr (.int .i64) out5 true)) } =
    L57_1 n m1 l0 room1 begin6 (wr .i64 (v7 + 1)) out5 := by kernel_rfl
noncomputable def S57 (n : Nat × Nat) (l0 : List Int) (room1 : Int) : Option R57 := run (E57 n) c57 an57 rt57 (fun _ _ => none) rt57 { tm := [.c (.sl (.int .i64) l0 false), .c (.int .i64 room1), uu, uu, uu, uu, uu, uu, uu, uu, uu, uu, uu, uu, uu, uu, uu, uu, uu, uu, uu, uu, uu, uu, uu, uu, uu, uu, uu, uu, uu, uu, uu, uu, uu, uu, uu, uu, uu], hp := emp }
theorem S57_eq (n : Nat × Nat) (l0 : List Int) (room1 : Int) : S57 n l0 room1 =
    L57_1 n n.1 l0 room1 0 1 [] := by kernel_rfl
theorem S57_run (n : Nat × Nat) (xs : pksDen pk57) : S57 n xs.1 xs.2.1 = runG (E57 n) noScope c57 an57 (rtG rk57) (fun _ _ => none) (rtG rk57) (st0 pk57 xs Tryd.f57.ntmps) := by kernel_rfl
noncomputable def P57 (n : Nat × Nat) := phiOf pk57 rk57 (fun xs => S57 n xs.1 xs.2.1)
theorem call57 : CallOK Tryd.prog 57 := callOK_of Tryd.func57 (by kernel_rfl) (by kernel_rfl)
theorem env57 (n : Nat × Nat) : EnvOK Tryd.prog (E57 n) := envOK0 (consPhi_ok (FC86 n) call86 noPhi_ok) rfl rfl
theorem par57 (n : Nat × Nat) : EnvPar (E57 n) := envPar0 (consPhi_par phiOf_Par1 noPhi_par) rfl
theorem FC57 (n : Nat × Nat) : FCs Tryd.prog 57 (P57 n) := phiOf_FCs fun xs r h vs hv => FC.of_runG tabNOK eqsNOK (env57 n) (par57 n) mixed (fun _ p _ => noScope_ok p.1 p.2) Tryd.func57 (c := c57) (an := an57) (pks := pk57) (rks := rk57) (by kernel_rfl) (by kernel_rfl) hv ((S57_run n xs).symm.trans h)
abbrev R24 := Int × Int
noncomputable def c24 : Code := bodyOf Tryd.f24
noncomputable def an24 : Ann := (.s .l (.s .l (.s (.j [1, 2, 49, 50, 51, 52] (.s .l (.j [1, 2, 49, 50, 51, 52] .l (.s .l (.j [1, 2, 49, 50, 51, 52] .l .l)))) .l) (.s .l (.s .l (.s (.j [8] (.j [1, 7, 8, 9, 49, 50, 51, 52] (.s (.s .l (.j [1, 7, 8, 9, 49, 50, 51, 52] .l .l)) (.j [1, 7, 8, 9, 49, 50, 51, 52] (.s .l (.s .l (.s .l (.j [1, 7, 8, 9, 49, 50, 51, 52] .l .l)))) .l)) .l) .l) .l))))))
def pk24 : List PK := [.c (.pair (.sl (.pair (.int .i64) (.int .i64))) (.pair (.int .i64) (.int .i64))), .c (.int .i64)]
def rk24 : List RK := [.c (.int .i64) 4, .c (.int .i64) 5]
noncomputable def rt24 (st : St) : Option R24 := rtG rk24 st
noncomputable def E24 (n : Nat × Nat) : Env := { T := tab, phi := (consPhi 54 (fun _ => true) (P54 n) (consPhi 55 (isFns [none, some 56]) (P55c56 n) (consPhi 57 (fun _ => true) (P57 n) noPhi))), eff := fun _ => false, fuel := n.1, hold := n.2 }
noncomputable def kq24_6 (n : Nat × Nat) : St → Option R24 := run (E24 n) (cB (cB (cB (cB (cB (cB c24)))))) (Ann.snd (Ann.snd (Ann.snd (Ann.snd (Ann.snd (Ann.snd an24)))))) rt24 (fun _ _ => none) rt24
noncomputable def xb24_8 (n : Nat × Nat) : Nat → St → Option R24 := fun j s => bif Nat.beq j 1 then normC [8] s (kq24_6 n) else (fun _ _ => none) j s
noncomputable def F24_9 (n : Nat × Nat) : (St → Option R24) → St → Option R24 := fun K s => run (E24 n) (cA (cA (cA (cB (cB (cB (cB (cB c24)))))))) (Ann.fst (Ann.fst (Ann.fst (Ann.snd (Ann.snd (Ann.snd (Ann.snd (Ann.snd an24)))))))) (fun s => normC [1, 7, 8, 9, 49, 50, 51, 52] s K) (xb24_8 n) rt24 s
noncomputable def L24_1 (n : Nat × Nat) (m : Nat) (volumes1 : Int) (low8 : Int) (high9 : Int) (l7 : List Int) : Option R24 := loopN (F24_9 n) m { tm := [uu, .c (.int .i64 volumes1), uu, uu, uu, uu, uu, .own 7 none false, .c (.int .i64 low8), .c (.int .i64 high9), uu, uu, uu, uu, uu, uu, uu, uu, uu, uu, uu, uu, uu, uu, uu, uu, uu, uu, uu, uu, uu, uu, uu, uu, uu, uu, uu, uu, uu, uu, uu, uu, uu, uu, uu, uu, uu, uu, uu, uu, uu, uu, uu, uu, uu, uu, uu, uu], hp := (upd emp 7 (.arr (.int .i64) l7 false)) }
theorem L24_1_eq (n : Nat × Nat) (m1 : Nat) (volumes1 : Int) (low8 : Int) (high9 : Int) (l7 : List Int) : L24_1 n (m1 + 1) volumes1 low8 high9 l7 =
 (bif decide (low8 < high9) then (bif 2 == 0 then none
 else (S57 n l7 (wr .i64 (Int.tdiv (wr .i64 (low8 + high9)) 2))).bind fun r5' =>
 ((bif ((!r5'.isEmpty) == true) then some (decide ((r5'.length : Int) ≤ volumes1))
 else some false)).bind fun b6' =>
 (bif b6' then L24_1 n m1 volumes1 low8 (wr .i64 (Int.tdiv (wr .i64 (low8 + high9)) 2)) l7
 else L24_1 n m1 volumes1 (wr .i64 ((wr .i64 (Int.tdiv (wr .i64 (low8 + high9)) 2)) + 1)) high9 l7))
 else some (low8, 0)) := by kernel_rfl
noncomputable def S24 (n : Nat × Nat) (b0 : (List (Int × Int)) × Int × Int) (volumes1 : Int) : Option R24 := run (E24 n) c24 an24 rt24 (fun _ _ => none) rt24 { tm := [.agg [.sl (.pair (.int .i64) (.int .i64)) b0.1 false, .int .i64 b0.2.1, .int .i64 b0.2.2], .c (.int .i64 volumes1), uu, uu, uu, uu, uu, uu, uu, uu, uu, uu, uu, uu, uu, uu, uu, uu, uu, uu, uu, uu, uu, uu, uu, uu, uu, uu, uu, uu, uu, uu, uu, uu, uu, uu, uu, uu, uu, uu, uu, uu, uu, uu, uu, uu, uu, uu, uu, uu, uu, uu, uu, uu, uu, uu, uu, uu], hp := emp }
theorem S24_eq (n : Nat × Nat) (b0 : (List (Int × Int)) × Int × Int) (volumes1 : Int) : S24 n b0 volumes1 =
 (S54 n b0).bind fun r1' =>
 (bif (r1' != 0) then some (0, r1')
 else ((bif (decide (volumes1 < 1) == false) then some (decide (volumes1 > (b0.1.length : Int)))
 else some true)).bind fun b2' =>
 (bif b2' then some (0, 1)
 else (S55c56 n b0).bind fun r3' =>
 (bif inB (wr .i64 ((r3'.length : Int) - 1)) r3'.length then (idx r3' (wr .i64 ((r3'.length : Int) - 1))).bind fun x4' =>
          L24_1 n n.1 volumes1 1 x4' r3'
 else none))) := by kernel_rfl
theorem S24_run (n : Nat × Nat) (xs : pksDen pk24) : S24 n xs.1 xs.2.1 = runG (E24 n) noScope c24 an24 (rtG rk24) (fun _ _ => none) (rtG rk24) (st0 pk24 xs Tryd.f24.ntmps) := by kernel_rfl
noncomputable def P24 (n : Nat × Nat) := phiOf pk24 rk24 (fun xs => S24 n xs.1 xs.2.1)
theorem call24 : CallOK Tryd.prog 24 := callOK_of Tryd.func24 (by kernel_rfl) (by kernel_rfl)
theorem env24 (n : Nat × Nat) : EnvOK Tryd.prog (E24 n) := envOK0 (consPhi_ok (FC54 n) call54 (consPhi_ok (FC55c56 n) call55 (consPhi_ok (FC57 n) call57 noPhi_ok))) rfl rfl
theorem par24 (n : Nat × Nat) : EnvPar (E24 n) := envPar0 (consPhi_par phiOf_Par1 (consPhi_par phiOf_Par1 (consPhi_par phiOf_Par1 noPhi_par))) rfl
theorem FC24 (n : Nat × Nat) : FCs Tryd.prog 24 (P24 n) := phiOf_FCs fun xs r h vs hv => FC.of_runG tabOK eqsOK (env24 n) (par24 n) mixed (fun _ p _ => noScope_ok p.1 p.2) Tryd.func24 (c := c24) (an := an24) (pks := pk24) (rks := rk24) (by kernel_rfl) (by kernel_rfl) hv ((S24_run n xs).symm.trans h)
abbrev R59 := Bool
noncomputable def c59 : Code := bodyOf Tryd.f59
noncomputable def an59 : Ann := .l
def pk59 : List PK := []
def rk59 : List RK := [.c .bool 0]
noncomputable def rt59 (st : St) : Option R59 := rtG rk59 st
noncomputable def E59 (n : Nat × Nat) : Env := { T := tabL, phi := (consPhi 20 (fun _ => true) (P20 n) (consPhi 24 (fun _ => true) (P24 n) noPhi)), eff := fun _ => false, fuel := n.1, hold := n.2 }
noncomputable def S59 (n : Nat × Nat) : Option R59 := run (E59 n) c59 an59 rt59 (fun _ _ => none) rt59 { tm := [uu, uu, uu, uu, uu, uu, uu, uu, uu, uu, uu, uu, uu, uu, uu, uu, uu, uu, uu, uu, uu], hp := emp }
theorem S59_eq (n : Nat × Nat) : S59 n =
 (S24 n ([(1, 3), (1, 4), (1, 2)], 7, 0) 2).bind fun r1' =>
 ((bif ((r1'.2 == 0) == true) then some (r1'.1 == 6)
 else some false)).bind fun b2' =>
 ((bif (b2' == true) then (S20 n).bind fun r3' =>
 some r3'
 else some false)).bind fun b4' =>
 some b4' := by kernel_rfl
theorem S59_run (n : Nat × Nat) (xs : pksDen pk59) : S59 n = runG (E59 n) noScope c59 an59 (rtG rk59) (fun _ _ => none) (rtG rk59) (st0 pk59 xs Tryd.f59.ntmps) := by kernel_rfl
noncomputable def P59 (n : Nat × Nat) := phiOf pk59 rk59 (fun xs => S59 n)
theorem call59 : CallOK Tryd.prog 59 := callOK_of Tryd.func59 (by kernel_rfl) (by kernel_rfl)
theorem env59 (n : Nat × Nat) : EnvOK Tryd.prog (E59 n) := envOK0 (consPhi_ok (FC20 n) call20 (consPhi_ok (FC24 n) call24 noPhi_ok)) rfl rfl
theorem par59 (n : Nat × Nat) : EnvPar (E59 n) := envPar0 (consPhi_par phiOf_Par1 (consPhi_par phiOf_Par1 noPhi_par)) rfl
theorem FC59 (n : Nat × Nat) : FCs Tryd.prog 59 (P59 n) := phiOf_FCs fun xs r h vs hv => FC.of_runG tabLOK eqsLOK (env59 n) (par59 n) mixed (fun _ p _ => noScope_ok p.1 p.2) Tryd.func59 (c := c59) (an := an59) (pks := pk59) (rks := rk59) (by kernel_rfl) (by kernel_rfl) hv ((S59_run n xs).symm.trans h)
abbrev R25 := Bool
noncomputable def c25 : Code := bodyOf Tryd.f25
noncomputable def an25 : Ann := .l
def pk25 : List PK := []
def rk25 : List RK := [.c .bool 0]
noncomputable def rt25 (st : St) : Option R25 := rtG rk25 st
noncomputable def E25 (n : Nat × Nat) : Env := { T := tab, phi := (consPhi 14 (fun _ => true) (P14 n) (consPhi 58 (fun _ => true) (P58 n) (consPhi 59 (fun _ => true) (P59 n) noPhi))), eff := fun _ => false, fuel := n.1, hold := n.2 }
noncomputable def S25 (n : Nat × Nat) : Option R25 := run (E25 n) c25 an25 rt25 (fun _ _ => none) rt25 { tm := [uu, uu, uu, uu, uu, uu, uu, uu, uu, uu, uu, uu, uu, uu, uu, uu, uu, uu, uu, uu], hp := emp }
theorem S25_eq (n : Nat × Nat) : S25 n =
 (S58 n [1, 3, 4] 6).bind fun r1' =>
 ((bif ((r1'.2 == 0) == true) then (S14 n r1'.1 [0, 2, 0]).bind fun r2' =>
 some r2'
 else some false)).bind fun b3' =>
 ((bif (b3' == true) then (S59 n).bind fun r4' =>
 some r4'
 else some false)).bind fun b5' =>
 some b5' := by kernel_rfl
theorem S25_run (n : Nat × Nat) (xs : pksDen pk25) : S25 n = runG (E25 n) noScope c25 an25 (rtG rk25) (fun _ _ => none) (rtG rk25) (st0 pk25 xs Tryd.f25.ntmps) := by kernel_rfl
noncomputable def P25 (n : Nat × Nat) := phiOf pk25 rk25 (fun xs => S25 n)
theorem call25 : CallOK Tryd.prog 25 := callOK_of Tryd.func25 (by kernel_rfl) (by kernel_rfl)
theorem env25 (n : Nat × Nat) : EnvOK Tryd.prog (E25 n) := envOK0 (consPhi_ok (FC14 n) call14 (consPhi_ok (FC58 n) call58 (consPhi_ok (FC59 n) call59 noPhi_ok))) rfl rfl
theorem par25 (n : Nat × Nat) : EnvPar (E25 n) := envPar0 (consPhi_par phiOf_Par1 (consPhi_par phiOf_Par1 (consPhi_par phiOf_Par1 noPhi_par))) rfl
theorem FC25 (n : Nat × Nat) : FCs Tryd.prog 25 (P25 n) := phiOf_FCs fun xs r h vs hv => FC.of_runG tabOK eqsOK (env25 n) (par25 n) mixed (fun _ p _ => noScope_ok p.1 p.2) Tryd.func25 (c := c25) (an := an25) (pks := pk25) (rks := rk25) (by kernel_rfl) (by kernel_rfl) hv ((S25_run n xs).symm.trans h)
/- (headword/see.web).set -/
abbrev R43 := Int × Int
noncomputable def c43 : Code := bodyOf Tryd.f43
noncomputable def an43 : Ann := (.s .l (.s .l (.s (.s .l (.j [6] (.j [2, 6, 7, 10, 11, 12, 20, 21, 22, 23] (.s .l (.s (.j [2, 6, 7, 10, 11, 12, 20, 21, 22, 23] .l .l) (.s (.j [2, 6, 7, 10, 11, 12, 20, 21, 22, 23] (.s .l (.s (.j [2, 6, 9, 10, 11, 12, 20, 21, 22, 23] (.s .l (.j [2, 6, 9, 10, 11, 12, 20, 21, 22, 23] .l (.s .l (.j [2, 6, 9, 10, 11, 12, 20, 21, 22, 23] .l .l)))) .l) .l)) .l) .l))) .l) .l)) .l)))
def pk43 : List PK := [.c (.pair (.int .i64) (.pair (.int .u64) (.pair (.int .u64) (.pair (.int .u64) (.pair (.int .u64) (.pair (.int .u64) (.pair (.int .u64) (.int .u64)))))))), .c (.sl (.int .i64))]
def rk43 : List RK := [.c (.int .u64) 4, .c (.int .i64) 5]
noncomputable def rt43 (st : St) : Option R43 := rtG rk43 st
noncomputable def E43 (n : Nat × Nat) : Env := { T := tab, phi := noPhi, eff := fun _ => false, fuel := n.1, hold := n.2 }
noncomputable def kq43_1 (n : Nat × Nat) : St → Option R43 := run (E43 n) (cB (cB (cB c43))) (Ann.snd (Ann.snd (Ann.snd an43))) rt43 (fun _ _ => none) rt43
noncomputable def xb43_3 (n : Nat × Nat) : Nat → St → Option R43 := fun j s => bif Nat.beq j 0 then normC [6] s (kq43_1 n) else (fun _ _ => none) j s
noncomputable def F43_4 (n : Nat × Nat) : (St → Option R43) → St → Option R43 := fun K s => run (E43 n) (cA (cA (cB (cA (cB (cB c43)))))) (Ann.fst (Ann.fst (Ann.snd (Ann.fst (Ann.snd (Ann.snd an43)))))) (fun s => normC [2, 6, 7, 10, 11, 12, 20, 21, 22, 23] s K) (xb43_3 n) rt43 s
noncomputable def L43_1 (n : Nat × Nat) (m : Nat) (out6 : Int) (v7 : Int) (v10 : List Int) (v11 : Int) (v12 : Int) (w2_0 : Int) (w2_1 : Int) (w2_2 : Int) (w2_3 : Int) (w2_4 : Int) (w2_5 : Int) (w2_6 : Int) (w2_7 : Int) : Option R43 := loopN (F43_4 n) m { tm := [uu, uu, .ptr 2 0, uu, uu, uu, .c (.int .u64 out6), .c (.int .i64 v7), uu, uu, .c (.sl (.int .i64) v10 false), .c (.int .i64 v11), .c (.int .i64 v12), uu, uu, uu, uu, uu, uu, uu, uu, uu, uu, uu, uu, uu, uu, uu, uu, uu, uu, uu, uu, uu, uu, uu], hp := (upd emp 2 (.box [.int .i64 w2_0, .int .u64 w2_1, .int .u64 w2_2, .int .u64 w2_3, .int .u64 w2_4, .int .u64 w2_5, .int .u64 w2_6, .int .u64 w2_7])) }
theorem L43_1_eq (n : Nat × Nat) (m1 : Nat) (out6 : Int) (v7 : Int) (v10 : List Int) (v11 : Int) (v12 : Int) (w2_0 : Int) (w2_1 : Int) (w2_2 : Int) (w2_3 : Int) (w2_4 : Int) (w2_5 : Int) (w2_6 : Int) (w2_7 : Int) : L43_1 n (m1 + 1) out6 v7 v10 v11 v12 w2_0 w2_1 w2_2 w2_3 w2_4 w2_5 w2_6 w2_7 =
 (bif decide (v12 < v11) then (idx v10 v12).bind fun x1' =>
 ((bif (decide (x1' < 0) == false) then some (decide (x1' ≥ w2_0))
 else some true)).bind fun b2' =>
 (bif b2' then some (0, 2)
 else (bif decide (x1' ≤ v7) then some (0, 7)
 else (bif decide (x1' < 0) then none
 else L43_1 n m1 (wr .u64 (BitVec.ofInt (IntKind.bits .u64) out6 ||| BitVec.ofInt (IntKind.bits .u64) (wr .u64 (1 * 2 ^ (min (Int.toNat x1') (IntKind.bits .u64))))).toNat) x1' v10 v11 (wr .i64 (v12 + 1)) w2_0 w2_1 w2_2 w2_3 w2_4 w2_5 w2_6 w2_7)))
 else some (out6, 0)) := by kernel_rfl
noncomputable def S43 (n : Nat × Nat) (w0 : Int × Int × Int × Int × Int × Int × Int × Int) (l1 : List Int) : Option R43 := run (E43 n) c43 an43 rt43 (fun _ _ => none) rt43 { tm := [.agg [.int .i64 w0.1, .int .u64 w0.2.1, .int .u64 w0.2.2.1, .int .u64 w0.2.2.2.1, .int .u64 w0.2.2.2.2.1, .int .u64 w0.2.2.2.2.2.1, .int .u64 w0.2.2.2.2.2.2.1, .int .u64 w0.2.2.2.2.2.2.2], .c (.sl (.int .i64) l1 false), uu, uu, uu, uu, uu, uu, uu, uu, uu, uu, uu, uu, uu, uu, uu, uu, uu, uu, uu, uu, uu, uu, uu, uu, uu, uu, uu, uu, uu, uu, uu, uu, uu, uu], hp := emp }
theorem S43_eq (n : Nat × Nat) (w0 : Int × Int × Int × Int × Int × Int × Int × Int) (l1 : List Int) : S43 n w0 l1 =
    L43_1 n n.1 0 (-1) l1 (l1.length : Int) 0 w0.1 w0.2.1 w0.2.2.1 w0.2.2.2.1 w0.2.2.2.2.1 w0.2.2.2.2.2.1 w0.2.2.2.2.2.2.1 w0.2.2.2.2.2.2.2 := by kernel_rfl
theorem S43_run (n : Nat × Nat) (xs : pksDen pk43) : S43 n xs.1 xs.2.1 = runG (E43 n) noScope c43 an43 (rtG rk43) (fun _ _ => none) (rtG rk43) (st0 pk43 xs Tryd.f43.ntmps) := by kernel_rfl
noncomputable def P43 (n : Nat × Nat) := phiOf pk43 rk43 (fun xs => S43 n xs.1 xs.2.1)
theorem call43 : CallOK Tryd.prog 43 := callOK_of Tryd.func43 (by kernel_rfl) (by kernel_rfl)
theorem env43 (n : Nat × Nat) : EnvOK Tryd.prog (E43 n) := envOK0 noPhi_ok rfl rfl
theorem par43 (n : Nat × Nat) : EnvPar (E43 n) := envPar0 noPhi_par rfl
theorem FC43 (n : Nat × Nat) : FCs Tryd.prog 43 (P43 n) := phiOf_FCs fun xs r h vs hv => FC.of_runG tabOK eqsOK (env43 n) (par43 n) mixed (fun _ p _ => noScope_ok p.1 p.2) Tryd.func43 (c := c43) (an := an43) (pks := pk43) (rks := rk43) (by kernel_rfl) (by kernel_rfl) hv ((S43_run n xs).symm.trans h)
abbrev R15 := List Int × Int
noncomputable def c15 : Code := bodyOf Tryd.f15
noncomputable def an15 : Ann := (.s .l (.s .l (.q [(8, 0, 2)] (.s (.j [1, 2, 8, 45, 46, 47, 48] (.s .l (.j [1, 2, 8, 45, 46, 47, 48] .l (.s .l (.j [1, 2, 8, 45, 46, 47, 48] .l .l)))) .l) (.s .l (.s (.j [2, 8, 10] (.s .l (.j [2, 8, 10] .l (.s .l (.j [2, 8, 10] .l .l)))) .l) (.s .l (.s (.j [2, 8, 11] (.j [2, 8, 11] (.s (.s .l (.j [2, 8, 11] .l .l)) (.j [2, 8, 11] (.s .l (.s .l (.s (.s .l (.j [2, 8, 11, 12, 13] (.j [2, 8, 11, 12, 13, 72, 73, 74] (.s .l (.s (.j [2, 8, 11, 12, 13, 72, 73, 74] .l .l) (.j [] (.j [2, 8, 11, 12, 13, 72, 73, 74] (.s .l (.s .l (.j [2, 8, 11, 12, 13, 72, 73, 74] .l .l))) .l) .l))) .l) .l)) (.s (.s .l (.j [2, 8, 11, 13] .l .l)) .l)))) .l)) .l) .l) (.s .l (.s (.s .l (.j [16] (.j [2, 8, 11, 16, 17] (.s (.s .l (.j [2, 8, 11, 16, 17] .l .l)) (.s (.j [2, 8, 11, 16, 17] .l .l) .l)) .l) .l)) .l))))))))))
def pk15 : List PK := [.c (.pair (.int .i64) (.sl (.pair (.int .i64) (.int .i64)))), .c (.sl (.int .i64)), .c (.int .i64)]
def rk15 : List RK := [.own (.int .i64) 6, .c (.int .i64) 7]
noncomputable def rt15 (st : St) : Option R15 := rtG rk15 st
noncomputable def E15 (n : Nat × Nat) : Env := { T := tab, phi := (consPhi 33 (fun _ => true) (P33 n) (consPhi 41 (fun _ => true) (P41 n) (consPhi 43 (fun _ => true) (P43 n) noPhi))), eff := fun _ => false, fuel := n.1, hold := n.2 }
noncomputable def kq15_11 (n : Nat × Nat) : St → Option R15 := run (E15 n) (cB (cB (cB (cB (cB (cB (cB c15))))))) (Ann.snd (Ann.snd (Ann.snd (Ann.snd (Ann.snd (Ann.unq (Ann.snd (Ann.snd an15)))))))) rt15 (fun _ _ => none) rt15
noncomputable def xb15_13 (n : Nat × Nat) : Nat → St → Option R15 := fun j s => bif Nat.beq j 2 then normC [2, 8, 11] s (kq15_11 n) else (fun _ _ => none) j s
noncomputable def F15_14 (n : Nat × Nat) : (St → Option R15) → St → Option R15 := fun K s => run (E15 n) (cA (cA (cA (cB (cB (cB (cB (cB (cB c15))))))))) (Ann.fst (Ann.fst (Ann.fst (Ann.snd (Ann.snd (Ann.snd (Ann.snd (Ann.unq (Ann.snd (Ann.snd an15)))))))))) (fun s => normC [2, 8, 11] s K) (xb15_13 n) rt15 s
noncomputable def kc15_17 (n : Nat × Nat) (m1 : Nat) : St → Option R15 := fun s => normC [2, 8, 11] s (fun s => normC [2, 8, 11] s (loopN (F15_14 n) m1))
noncomputable def xb15_18 (n : Nat × Nat) (m1 : Nat) : Nat → St → Option R15 := fun j s => bif Nat.beq j 3 then normC [2, 8, 11] s (fun s => normC [2, 8, 11] s (loopN (F15_14 n) m1)) else (xb15_13 n) j s
noncomputable def kq15_19 (n : Nat × Nat) (m1 : Nat) : St → Option R15 := run (E15 n) (cB (cB (cB (cA (cB (cA (cA (cA (cB (cB (cB (cB (cB (cB c15)))))))))))))) (Ann.snd (Ann.snd (Ann.snd (Ann.fst (Ann.snd (Ann.fst (Ann.fst (Ann.fst (Ann.snd (Ann.snd (Ann.snd (Ann.snd (Ann.unq (Ann.snd (Ann.snd an15))))))))))))))) (kc15_17 n m1) (xb15_18 n m1) rt15
noncomputable def xb15_21 (n : Nat × Nat) (m1 : Nat) : Nat → St → Option R15 := fun j s => bif Nat.beq j 4 then normC [2, 8, 11, 12, 13] s (kq15_19 n m1) else (xb15_18 n m1) j s
noncomputable def F15_22 (n : Nat × Nat) (m1 : Nat) : (St → Option R15) → St → Option R15 := fun K s => run (E15 n) (cA (cA (cB (cA (cB (cB (cA (cB (cA (cA (cA (cB (cB (cB (cB (cB (cB c15))))))))))))))))) (Ann.fst (Ann.fst (Ann.snd (Ann.fst (Ann.snd (Ann.snd (Ann.fst (Ann.snd (Ann.fst (Ann.fst (Ann.fst (Ann.snd (Ann.snd (Ann.snd (Ann.snd (Ann.unq (Ann.snd (Ann.snd an15)))))))))))))))))) (fun s => normC [2, 8, 11, 12, 13, 72, 73, 74] s K) (xb15_21 n m1) rt15 s
noncomputable def kq15_23 (n : Nat × Nat) : St → Option R15 := run (E15 n) (cB (cB (cB (cB (cB (cB (cB (cB (cB c15))))))))) (Ann.snd (Ann.snd (Ann.snd (Ann.snd (Ann.snd (Ann.snd (Ann.snd (Ann.unq (Ann.snd (Ann.snd an15)))))))))) rt15 (fun _ _ => none) rt15
noncomputable def xb15_25 (n : Nat × Nat) : Nat → St → Option R15 := fun j s => bif Nat.beq j 6 then normC [16] s (kq15_23 n) else (fun _ _ => none) j s
noncomputable def F15_26 (n : Nat × Nat) : (St → Option R15) → St → Option R15 := fun K s => run (E15 n) (cA (cA (cB (cA (cB (cB (cB (cB (cB (cB (cB (cB c15)))))))))))) (Ann.fst (Ann.fst (Ann.snd (Ann.fst (Ann.snd (Ann.snd (Ann.snd (Ann.snd (Ann.snd (Ann.snd (Ann.unq (Ann.snd (Ann.snd an15))))))))))))) (fun s => normC [2, 8, 11, 16, 17] s K) (xb15_25 n) rt15 s
noncomputable def kq15_29 (n : Nat × Nat) (m1 m2 : Nat) : St → Option R15 := run (E15 n) (cB (cB (cB (cA (cA (cB (cA (cB (cB (cA (cB (cA (cA (cA (cB (cB (cB (cB (cB (cB c15)))))))))))))))))))) (Ann.snd (Ann.snd (Ann.snd (Ann.fst (Ann.fst (Ann.snd (Ann.fst (Ann.snd (Ann.snd (Ann.fst (Ann.snd (Ann.fst (Ann.fst (Ann.fst (Ann.snd (Ann.snd (Ann.snd (Ann.snd (Ann.unq (Ann.snd (Ann.snd an15))))))))))))))))))))) (fun s => normC [2, 8, 11, 12, 13, 72, 73, 74] s (loopN (F15_22 n m1) m2)) (xb15_21 n m1) rt15
noncomputable def L15_1 (n : Nat × Nat) (m : Nat) (word2 : Int) (w8_0 : Int) (w8_1 : Int) (w8_2 : Int) (w8_3 : Int) (w8_4 : Int) (w8_5 : Int) (w8_6 : Int) (w8_7 : Int) (near11 : List Int) : Option R15 := loopN (F15_14 n) m { tm := [uu, uu, .c (.int .i64 word2), uu, uu, uu, uu, uu, .iptr [.int .i64 w8_0, .int .u64 w8_1, .int .u64 w8_2, .int .u64 w8_3, .int .u64 w8_4, .int .u64 w8_5, .int .u64 w8_6, .int .u64 w8_7], uu, uu, .own 11 none false, uu, uu, uu, uu, uu, uu, uu, uu, uu, uu, uu, uu, uu, uu, uu, uu, uu, uu, uu, uu, uu, uu, uu, uu, uu, uu, uu, uu, uu, uu, uu, uu, uu, uu, uu, uu, uu, uu, uu, uu, uu, uu, uu, uu, uu, uu, uu, uu, uu, uu, uu, uu, uu, uu, uu, uu, uu, uu, uu, uu, uu, uu, uu, uu, uu, uu, uu, uu, uu, uu, uu, uu, uu, uu, uu, uu, uu, uu, uu, uu, uu, uu, uu, uu, uu, uu, uu, uu, uu, uu, uu, uu, uu, uu, uu, uu, uu, uu, uu, uu, uu, uu, uu, uu, uu, uu, uu], hp := (upd emp 11 (.arr (.int .u64) near11 false)) }
noncomputable def L15_2 (n : Nat × Nat) (m1 : Nat) (m : Nat) (word2 : Int) (w8_0 : Int) (w8_1 : Int) (w8_2 : Int) (w8_3 : Int) (w8_4 : Int) (w8_5 : Int) (w8_6 : Int) (w8_7 : Int) (now12 : Int) (wide13 : Int) (v72 : List Int) (v73 : Int) (v74 : Int) (near11 : List Int) : Option R15 := loopN (F15_22 n m1) m { tm := [uu, uu, .c (.int .i64 word2), uu, uu, uu, uu, uu, .iptr [.int .i64 w8_0, .int .u64 w8_1, .int .u64 w8_2, .int .u64 w8_3, .int .u64 w8_4, .int .u64 w8_5, .int .u64 w8_6, .int .u64 w8_7], uu, uu, .own 11 none false, .c (.int .u64 now12), .c (.int .u64 wide13), uu, uu, uu, uu, uu, uu, uu, uu, uu, uu, uu, uu, uu, uu, uu, uu, uu, uu, uu, uu, uu, uu, uu, uu, uu, uu, uu, uu, uu, uu, uu, uu, uu, uu, uu, uu, uu, uu, uu, uu, uu, uu, uu, uu, uu, uu, uu, uu, uu, uu, uu, uu, uu, uu, uu, uu, uu, uu, .c (.sl (.int .u64) v72 false), .c (.int .i64 v73), .c (.int .i64 v74), uu, uu, uu, uu, uu, uu, uu, uu, uu, uu, uu, uu, uu, uu, uu, uu, uu, uu, uu, uu, uu, uu, uu, uu, uu, uu, uu, uu, uu, uu, uu, uu, uu, uu, uu, uu, uu, uu, uu, uu, uu, uu, uu, uu], hp := (upd emp 11 (.arr (.int .u64) near11 false)) }
noncomputable def L15_3 (n : Nat × Nat) (m : Nat) (word2 : Int) (w8_0 : Int) (w8_1 : Int) (w8_2 : Int) (w8_3 : Int) (w8_4 : Int) (w8_5 : Int) (w8_6 : Int) (w8_7 : Int) (i17 : Int) (near11 : List Int) (out16 : List Int) : Option R15 := loopN (F15_26 n) m { tm := [uu, uu, .c (.int .i64 word2), uu, uu, uu, uu, uu, .iptr [.int .i64 w8_0, .int .u64 w8_1, .int .u64 w8_2, .int .u64 w8_3, .int .u64 w8_4, .int .u64 w8_5, .int .u64 w8_6, .int .u64 w8_7], uu, uu, .own 11 none false, uu, uu, uu, uu, .own 16 none false, .c (.int .i64 i17), uu, uu, uu, uu, uu, uu, uu, uu, uu, uu, uu, uu, uu, uu, uu, uu, uu, uu, uu, uu, uu, uu, uu, uu, uu, uu, uu, uu, uu, uu, uu, uu, uu, uu, uu, uu, uu, uu, uu, uu, uu, uu, uu, uu, uu, uu, uu, uu, uu, uu, uu, uu, uu, uu, uu, uu, uu, uu, uu, uu, uu, uu, uu, uu, uu, uu, uu, uu, uu, uu, uu, uu, uu, uu, uu, uu, uu, uu, uu, uu, uu, uu, uu, uu, uu, uu, uu, uu, uu, uu, uu, uu, uu, uu, uu, uu, uu, uu, uu, uu, uu], hp := (upd (upd emp 16 (.arr (.int .i64) out16 false)) 11 (.arr (.int .u64) near11 false)) }
noncomputable def L15_4 (n : Nat × Nat) (m1 m2 : Nat) (word2 : Int) (w8_0 : Int) (w8_1 : Int) (w8_2 : Int) (w8_3 : Int) (w8_4 : Int) (w8_5 : Int) (w8_6 : Int) (w8_7 : Int) (now12 : Int) (wide13 : Int) (v72 : List Int) (v73 : Int) (v74 : Int) (near11 : List Int) : Option R15 := loopN (fun _ => (kq15_29 n m1 m2)) n.2 { tm := [uu, uu, .c (.int .i64 word2), uu, uu, uu, uu, uu, .iptr [.int .i64 w8_0, .int .u64 w8_1, .int .u64 w8_2, .int .u64 w8_3, .int .u64 w8_4, .int .u64 w8_5, .int .u64 w8_6, .int .u64 w8_7], uu, uu, .own 11 none false, .c (.int .u64 now12), .c (.int .u64 wide13), uu, uu, uu, uu, uu, uu, uu, uu, uu, uu, uu, uu, uu, uu, uu, uu, uu, uu, uu, uu, uu, uu, uu, uu, uu, uu, uu, uu, uu, uu, uu, uu, uu, uu, uu, uu, uu, uu, uu, uu, uu, uu, uu, uu, uu, uu, uu, uu, uu, uu, uu, uu, uu, uu, uu, uu, uu, uu, .c (.sl (.int .u64) v72 false), .c (.int .i64 v73), .c (.int .i64 v74), uu, uu, uu, uu, uu, uu, uu, uu, uu, uu, uu, uu, uu, uu, uu, uu, uu, uu, uu, uu, uu, uu, uu, uu, uu, uu, uu, uu, uu, uu, uu, uu, uu, uu, uu, uu, uu, uu, uu, uu, uu, uu, uu, uu], hp := (upd emp 11 (.arr (.int .u64) near11 false)) }
theorem L15_1_eq (n : Nat × Nat) (m1 : Nat) (word2 : Int) (w8_0 : Int) (w8_1 : Int) (w8_2 : Int) (w8_3 : Int) (w8_4 : Int) (w8_5 : Int) (w8_6 : Int) (w8_7 : Int) (near11 : List Int) : L15_1 n (m1 + 1) word2 w8_0 w8_1 w8_2 w8_3 w8_4 w8_5 w8_6 w8_7 near11 =
 (bif inB (wr .i64 ((near11.length : Int) - 1)) near11.length then (idx near11 (wr .i64 ((near11.length : Int) - 1))).bind fun x4' =>
 (bif decide (word2 < 0) then none
 else (bif ((wr .u64 (BitVec.ofInt (IntKind.bits .u64) (Int.fdiv x4' (2 ^ (min (Int.toNat word2) (IntKind.bits .u64)))) &&& BitVec.ofInt (IntKind.bits .u64) 1).toNat) == 0) then (bif inB (wr .i64 ((near11.length : Int) - 1)) near11.length then (idx near11 (wr .i64 ((near11.length : Int) - 1))).bind fun x5' =>
 (bif bounds none (some w8_0) none 7 then L15_2 n m1 n.1 word2 w8_0 w8_1 w8_2 w8_3 w8_4 w8_5 w8_6 w8_7 x5' x5' ([w8_1, w8_2, w8_3, w8_4, w8_5, w8_6, w8_7].take (Int.toNat w8_0)) (([w8_1, w8_2, w8_3, w8_4, w8_5, w8_6, w8_7].take (Int.toNat w8_0)).length : Int) 0 near11
 else none)
 else none)
 else L15_3 n n.1 word2 w8_0 w8_1 w8_2 w8_3 w8_4 w8_5 w8_6 w8_7 (wr .i64 ((near11.length : Int) - 2)) near11 [word2]))
 else none) := by kernel_rfl
theorem L15_2_eq (n : Nat × Nat) (m1 m2 : Nat) (word2 : Int) (w8_0 : Int) (w8_1 : Int) (w8_2 : Int) (w8_3 : Int) (w8_4 : Int) (w8_5 : Int) (w8_6 : Int) (w8_7 : Int) (now12 : Int) (wide13 : Int) (v72 : List Int) (v73 : Int) (v74 : Int) (near11 : List Int) : L15_2 n m1 (m2 + 1) word2 w8_0 w8_1 w8_2 w8_3 w8_4 w8_5 w8_6 w8_7 now12 wide13 v72 v73 v74 near11 =
 (bif decide (v74 < v73) then (idx v72 v74).bind fun x6' =>
 (bif ((wr .u64 (BitVec.ofInt (IntKind.bits .u64) x6' &&& BitVec.ofInt (IntKind.bits .u64) now12).toNat) != 0) then (bif decide (v74 < 0) then none
 else L15_4 n m1 m2 word2 w8_0 w8_1 w8_2 w8_3 w8_4 w8_5 w8_6 w8_7 now12 (wr .u64 (BitVec.ofInt (IntKind.bits .u64) wide13 ||| BitVec.ofInt (IntKind.bits .u64) (wr .u64 (1 * 2 ^ (min (Int.toNat v74) (IntKind.bits .u64))))).toNat) v72 v73 v74 near11)
 else L15_4 n m1 m2 word2 w8_0 w8_1 w8_2 w8_3 w8_4 w8_5 w8_6 w8_7 now12 wide13 v72 v73 v74 near11)
 else (bif (wide13 == now12) then some ([], 12)
 else (bif decide (near11.length + [wide13].length ≤ lim) then L15_1 n m1 word2 w8_0 w8_1 w8_2 w8_3 w8_4 w8_5 w8_6 w8_7 (near11 ++ [wide13])
 else none))) := by kernel_rfl
theorem L15_3_eq (n : Nat × Nat) (m1 : Nat) (word2 : Int) (w8_0 : Int) (w8_1 : Int) (w8_2 : Int) (w8_3 : Int) (w8_4 : Int) (w8_5 : Int) (w8_6 : Int) (w8_7 : Int) (i17 : Int) (near11 : List Int) (out16 : List Int) : L15_3 n (m1 + 1) word2 w8_0 w8_1 w8_2 w8_3 w8_4 w8_5 w8_6 w8_7 i17 near11 out16 =
 (bif decide (i17 ≥ 0) then (idx ([w8_1, w8_2, w8_3, w8_4, w8_5, w8_6, w8_7] : List Int) word2).bind fun x7' =>
 (bif inB i17 near11.length then (idx near11 i17).bind fun x8' =>
 (S41 n (wr .u64 (BitVec.ofInt (IntKind.bits .u64) x7' &&& BitVec.ofInt (IntKind.bits .u64) x8').toNat)).bind fun r9' =>
 (bif decide (out16.length + [r9'].length ≤ lim) then L15_3 n m1 r9' w8_0 w8_1 w8_2 w8_3 w8_4 w8_5 w8_6 w8_7 (wr .i64 (i17 - 1)) near11 (out16 ++ [r9'])
 else none)
 else none)
 else some (out16, 0)) := by kernel_rfl
theorem L15_4_raw (n : Nat × Nat) (m1 m2 : Nat) (word2 : Int) (w8_0 : Int) (w8_1 : Int) (w8_2 : Int) (w8_3 : Int) (w8_4 : Int) (w8_5 : Int) (w8_6 : Int) (w8_7 : Int) (now12 : Int) (wide13 : Int) (v72 : List Int) (v73 : Int) (v74 : Int) (near11 : List Int) : (kq15_29 n m1 m2) { tm := [uu, uu, .c (.int .i64 word2), uu, uu, uu, uu, uu, .iptr [.int .i64 w8_0, .int .u64 w8_1, .int .u64 w8_2, .int .u64 w8_3, .int .u64 w8_4, .int .u64 w8_5, .int .u64 w8_6, .int .u64 w8_7], uu, uu, .own 11 none false, .c (.int .u64 now12), .c (.int .u64 wide13), uu, uu, uu, uu, uu, uu, uu, uu, uu, uu, uu, uu, uu, uu, uu, uu, uu, uu, uu, uu, uu, uu, uu, uu, uu, uu, uu, uu, uu, uu, uu, uu, uu, uu, uu, uu, uu, uu, uu, uu, uu, uu, uu, uu, uu, uu, uu, uu, uu, uu, uu, uu, uu, uu, uu, uu, uu, uu, .c (.sl (.int .u64) v72 false), .c (.int .i64 v73), .c (.int .i64 v74), uu, uu, uu, uu, uu, uu, uu, uu, uu, uu, uu, uu, uu, uu, uu, uu, uu, uu, uu, uu, uu, uu, uu, uu, uu, uu, uu, uu, uu, uu, uu, uu, uu, uu, uu, uu, uu, uu, uu, uu, uu, uu, uu, uu], hp := (upd emp 11 (.arr (.int .u64) near11 false)) } =
    L15_2 n m1 m2 word2 w8_0 w8_1 w8_2 w8_3 w8_4 w8_5 w8_6 w8_7 now12 wide13 v72 v73 (wr .i64 (v74 + 1)) near11 := by kernel_rfl
noncomputable def S15 (n : Nat × Nat) (b0 : Int × List (Int × Int)) (articles1 : List Int) (word2 : Int) : Option R15 := run (E15 n) c15 an15 rt15 (fun _ _ => none) rt15 { tm := [.agg [.int .i64 b0.1, .sl (.pair (.int .i64) (.int .i64)) b0.2 false], .c (.sl (.int .i64) articles1 false), .c (.int .i64 word2), uu, uu, uu, uu, uu, uu, uu, uu, uu, uu, uu, uu, uu, uu, uu, uu, uu, uu, uu, uu, uu, uu, uu, uu, uu, uu, uu, uu, uu, uu, uu, uu, uu, uu, uu, uu, uu, uu, uu, uu, uu, uu, uu, uu, uu, uu, uu, uu, uu, uu, uu, uu, uu, uu, uu, uu, uu, uu, uu, uu, uu, uu, uu, uu, uu, uu, uu, uu, uu, uu, uu, uu, uu, uu, uu, uu, uu, uu, uu, uu, uu, uu, uu, uu, uu, uu, uu, uu, uu, uu, uu, uu, uu, uu, uu, uu, uu, uu, uu, uu, uu, uu, uu, uu, uu, uu, uu, uu, uu, uu, uu, uu, uu, uu, uu, uu], hp := emp }
theorem S15_eq (n : Nat × Nat) (b0 : Int × List (Int × Int)) (articles1 : List Int) (word2 : Int) : S15 n b0 articles1 word2 =
 (S33 n b0).bind fun r1' =>
 (bif (r1'.2 != 0) then some ([], r1'.2)
 else (bif ((articles1.length : Int) == 0) then some ([], 4)
 else (S43 n r1'.1 articles1).bind fun r2' =>
 (bif (r2'.2 != 0) then some ([], r2'.2)
 else ((bif (decide (word2 < 0) == false) then some (decide (word2 ≥ r1'.1.1))
 else some true)).bind fun b3' =>
 (bif b3' then some ([], 2)
 else L15_1 n n.1 word2 r1'.1.1 r1'.1.2.1 r1'.1.2.2.1 r1'.1.2.2.2.1 r1'.1.2.2.2.2.1 r1'.1.2.2.2.2.2.1 r1'.1.2.2.2.2.2.2.1 r1'.1.2.2.2.2.2.2.2 [r2'.1])))) := by kernel_rfl
theorem S15_run (n : Nat × Nat) (xs : pksDen pk15) : S15 n xs.1 xs.2.1 xs.2.2.1 = runG (E15 n) noScope c15 an15 (rtG rk15) (fun _ _ => none) (rtG rk15) (st0 pk15 xs Tryd.f15.ntmps) := by kernel_rfl
noncomputable def P15 (n : Nat × Nat) := phiOf pk15 rk15 (fun xs => S15 n xs.1 xs.2.1 xs.2.2.1)
theorem call15 : CallOK Tryd.prog 15 := callOK_of Tryd.func15 (by kernel_rfl) (by kernel_rfl)
theorem env15 (n : Nat × Nat) : EnvOK Tryd.prog (E15 n) := envOK0 (consPhi_ok (FC33 n) call33 (consPhi_ok (FC41 n) call41 (consPhi_ok (FC43 n) call43 noPhi_ok))) rfl rfl
theorem par15 (n : Nat × Nat) : EnvPar (E15 n) := envPar0 (consPhi_par phiOf_Par1 (consPhi_par phiOf_Par1 (consPhi_par phiOf_Par1 noPhi_par))) rfl
theorem FC15 (n : Nat × Nat) : FCs Tryd.prog 15 (P15 n) := phiOf_FCs fun xs r h vs hv => FC.of_runG tabOK eqsOK (env15 n) (par15 n) mixed (fun _ p _ => noScope_ok p.1 p.2) Tryd.func15 (c := c15) (an := an15) (pks := pk15) (rks := rk15) (by kernel_rfl) (by kernel_rfl) hv ((S15_run n xs).symm.trans h)
/- math/bits.Mul64 -/
abbrev R104 := Int × Int
noncomputable def c104 : Code := bodyOf Tryd.f104
noncomputable def an104 : Ann := .l
def pk104 : List PK := [.c (.int .u64), .c (.int .u64)]
def rk104 : List RK := [.c (.int .u64) 4, .c (.int .u64) 5]
noncomputable def rt104 (st : St) : Option R104 := rtG rk104 st
noncomputable def E104 (n : Nat × Nat) : Env := { T := tab, phi := noPhi, eff := fun _ => false, fuel := n.1, hold := n.2 }
noncomputable def S104 (n : Nat × Nat) (x0 : Int) (y1 : Int) : Option R104 := run (E104 n) c104 an104 rt104 (fun _ _ => none) rt104 { tm := [.c (.int .u64 x0), .c (.int .u64 y1), uu, uu, uu, uu, uu, uu, uu, uu, uu, uu, uu, uu, uu, uu, uu, uu, uu, uu, uu, uu, uu, uu, uu, uu, uu, uu, uu, uu, uu, uu, uu, uu, uu, uu, uu, uu, uu, uu, uu, uu, uu, uu, uu, uu, uu, uu, uu, uu, uu], hp := emp }
theorem S104_eq (n : Nat × Nat) (x0 : Int) (y1 : Int) : S104 n x0 y1 =
 (bif decide (32 < 0) then none
 else (bif decide (32 < 0) then none
 else (bif decide (32 < 0) then none
 else (bif decide (32 < 0) then none
 else (bif decide (32 < 0) then none
 else some (wr .u64 ((wr .u64 ((wr .u64 ((Int.fdiv x0 (2 ^ (min (Int.toNat 32) (IntKind.bits .u64)))) * (Int.fdiv y1 (2 ^ (min (Int.toNat 32) (IntKind.bits .u64)))))) + (Int.fdiv (wr .u64 ((wr .u64 ((Int.fdiv x0 (2 ^ (min (Int.toNat 32) (IntKind.bits .u64)))) * (wr .u64 (BitVec.ofInt (IntKind.bits .u64) y1 &&& BitVec.ofInt (IntKind.bits .u64) 4294967295).toNat))) + (Int.fdiv (wr .u64 ((wr .u64 (BitVec.ofInt (IntKind.bits .u64) x0 &&& BitVec.ofInt (IntKind.bits .u64) 4294967295).toNat) * (wr .u64 (BitVec.ofInt (IntKind.bits .u64) y1 &&& BitVec.ofInt (IntKind.bits .u64) 4294967295).toNat))) (2 ^ (min (Int.toNat 32) (IntKind.bits .u64)))))) (2 ^ (min (Int.toNat 32) (IntKind.bits .u64)))))) + (Int.fdiv (wr .u64 ((wr .u64 (BitVec.ofInt (IntKind.bits .u64) (wr .u64 ((wr .u64 ((Int.fdiv x0 (2 ^ (min (Int.toNat 32) (IntKind.bits .u64)))) * (wr .u64 (BitVec.ofInt (IntKind.bits .u64) y1 &&& BitVec.ofInt (IntKind.bits .u64) 4294967295).toNat))) + (Int.fdiv (wr .u64 ((wr .u64 (BitVec.ofInt (IntKind.bits .u64) x0 &&& BitVec.ofInt (IntKind.bits .u64) 4294967295).toNat) * (wr .u64 (BitVec.ofInt (IntKind.bits .u64) y1 &&& BitVec.ofInt (IntKind.bits .u64) 4294967295).toNat))) (2 ^ (min (Int.toNat 32) (IntKind.bits .u64)))))) &&& BitVec.ofInt (IntKind.bits .u64) 4294967295).toNat) + (wr .u64 ((wr .u64 (BitVec.ofInt (IntKind.bits .u64) x0 &&& BitVec.ofInt (IntKind.bits .u64) 4294967295).toNat) * (Int.fdiv y1 (2 ^ (min (Int.toNat 32) (IntKind.bits .u64)))))))) (2 ^ (min (Int.toNat 32) (IntKind.bits .u64))))), wr .u64 (x0 * y1))))))) := by kernel_rfl
theorem S104_run (n : Nat × Nat) (xs : pksDen pk104) : S104 n xs.1 xs.2.1 = runG (E104 n) noScope c104 an104 (rtG rk104) (fun _ _ => none) (rtG rk104) (st0 pk104 xs Tryd.f104.ntmps) := by kernel_rfl
noncomputable def P104 (n : Nat × Nat) := phiOf pk104 rk104 (fun xs => S104 n xs.1 xs.2.1)
theorem call104 : CallOK Tryd.prog 104 := callOK_of Tryd.func104 (by kernel_rfl) (by kernel_rfl)
theorem env104 (n : Nat × Nat) : EnvOK Tryd.prog (E104 n) := envOK0 noPhi_ok rfl rfl
theorem par104 (n : Nat × Nat) : EnvPar (E104 n) := envPar0 noPhi_par rfl
theorem FC104 (n : Nat × Nat) : FCs Tryd.prog 104 (P104 n) := phiOf_FCs fun xs r h vs hv => FC.of_runG tabOK eqsOK (env104 n) (par104 n) mixed (fun _ p _ => noScope_ok p.1 p.2) Tryd.func104 (c := c104) (an := an104) (pks := pk104) (rks := rk104) (by kernel_rfl) (by kernel_rfl) hv ((S104_run n xs).symm.trans h)
/- math/bits.Mul -/
abbrev R71 := Int × Int
noncomputable def c71 : Code := bodyOf Tryd.f71
noncomputable def an71 : Ann := (.s .l (.s (.j [0, 1] .l .l) .l))
def pk71 : List PK := [.c (.int .u64), .c (.int .u64)]
def rk71 : List RK := [.c (.int .u64) 4, .c (.int .u64) 5]
noncomputable def rt71 (st : St) : Option R71 := rtG rk71 st
noncomputable def E71 (n : Nat × Nat) : Env := { T := tab, phi := (consPhi 104 (fun _ => true) (P104 n) noPhi), eff := fun _ => false, fuel := n.1, hold := n.2 }
noncomputable def S71 (n : Nat × Nat) (x0 : Int) (y1 : Int) : Option R71 := run (E71 n) c71 an71 rt71 (fun _ _ => none) rt71 { tm := [.c (.int .u64 x0), .c (.int .u64 y1), uu, uu, uu, uu, uu, uu, uu, uu, uu, uu, uu, uu, uu, uu, uu, uu, uu, uu, uu, uu, uu, uu, uu, uu, uu, uu, uu, uu], hp := emp }
theorem S71_eq (n : Nat × Nat) (x0 : Int) (y1 : Int) : S71 n x0 y1 =
 (S104 n x0 y1).bind fun r1' =>
 some (r1'.1, r1'.2) := by kernel_rfl
theorem S71_run (n : Nat × Nat) (xs : pksDen pk71) : S71 n xs.1 xs.2.1 = runG (E71 n) noScope c71 an71 (rtG rk71) (fun _ _ => none) (rtG rk71) (st0 pk71 xs Tryd.f71.ntmps) := by kernel_rfl
noncomputable def P71 (n : Nat × Nat) := phiOf pk71 rk71 (fun xs => S71 n xs.1 xs.2.1)
theorem call71 : CallOK Tryd.prog 71 := callOK_of Tryd.func71 (by kernel_rfl) (by kernel_rfl)
theorem env71 (n : Nat × Nat) : EnvOK Tryd.prog (E71 n) := envOK0 (consPhi_ok (FC104 n) call104 noPhi_ok) rfl rfl
theorem par71 (n : Nat × Nat) : EnvPar (E71 n) := envPar0 (consPhi_par phiOf_Par1 noPhi_par) rfl
theorem FC71 (n : Nat × Nat) : FCs Tryd.prog 71 (P71 n) := phiOf_FCs fun xs r h vs hv => FC.of_runG tabOK eqsOK (env71 n) (par71 n) mixed (fun _ p _ => noScope_ok p.1 p.2) Tryd.func71 (c := c71) (an := an71) (pks := pk71) (rks := rk71) (by kernel_rfl) (by kernel_rfl) hv ((S71_run n xs).symm.trans h)
/- slices.Repeat[[]int,int] -/
abbrev R40 := List Int
noncomputable def c40 : Code := bodyOf Tryd.f40
noncomputable def an40 : Ann := (.s .l (.s (.s .l (.j [0, 1, 24, 25] .l .l)) (.s .l (.s (.s .l (.j [0, 6] .l .l)) (.s .l (.s .l (.s (.j [7] (.j [7, 8] (.s (.s .l (.j [7, 8] .l .l)) (.j [7, 8] .l .l)) .l) .l) .l)))))))
def pk40 : List PK := [.c (.sl (.int .i64)), .c (.int .i64)]
def rk40 : List RK := [.own (.int .i64) 4]
noncomputable def rt40 (st : St) : Option R40 := rtG rk40 st
noncomputable def E40 (n : Nat × Nat) : Env := { T := tab, phi := (consPhi 71 (fun _ => true) (P71 n) noPhi), eff := fun _ => false, fuel := n.1, hold := n.2 }
noncomputable def kq40_5 (n : Nat × Nat) : St → Option R40 := run (E40 n) (cB (cB (cB (cB (cB (cB (cB c40))))))) (Ann.snd (Ann.snd (Ann.snd (Ann.snd (Ann.snd (Ann.snd (Ann.snd an40))))))) rt40 (fun _ _ => none) rt40
noncomputable def xb40_7 (n : Nat × Nat) : Nat → St → Option R40 := fun j s => bif Nat.beq j 0 then normC [7] s (kq40_5 n) else (fun _ _ => none) j s
noncomputable def F40_8 (n : Nat × Nat) : (St → Option R40) → St → Option R40 := fun K s => run (E40 n) (cA (cA (cA (cB (cB (cB (cB (cB (cB c40))))))))) (Ann.fst (Ann.fst (Ann.fst (Ann.snd (Ann.snd (Ann.snd (Ann.snd (Ann.snd (Ann.snd an40))))))))) (fun s => normC [7, 8] s K) (xb40_7 n) rt40 s
noncomputable def L40_1 (n : Nat × Nat) (m : Nat) (v8 : Int) (newslice7 : List Int) : Option R40 := loopN (F40_8 n) m { tm := [uu, uu, uu, uu, uu, uu, uu, .own 7 none false, .c (.int .i64 v8), uu, uu, uu, uu, uu, uu, uu, uu, uu, uu, uu, uu, uu, uu, uu, uu, uu, uu, uu, uu, uu, uu, uu, uu, uu, uu, uu, uu, uu, uu, uu, uu, uu, uu, uu, uu, uu, uu, uu], hp := (upd emp 7 (.arr (.int .i64) newslice7 false)) }
theorem L40_1_eq (n : Nat × Nat) (m1 : Nat) (v8 : Int) (newslice7 : List Int) : L40_1 n (m1 + 1) v8 newslice7 =
 (bif decide (v8 < (newslice7.length : Int)) then (bif bounds (some v8) none none newslice7.length then (bif bounds none (some v8) none newslice7.length then L40_1 n m1 (wr .i64 (v8 + ((min ((newslice7.drop (0 + 0)).take ((Int.toNat v8) - 0)).length ((newslice7.drop (0 + (Int.toNat v8))).take (newslice7.length - (Int.toNat v8))).length : Nat) : Int))) (newslice7.take (0 + (Int.toNat v8)) ++ ((newslice7.drop (0 + 0)).take ((Int.toNat v8) - 0)).take (min ((newslice7.drop (0 + 0)).take ((Int.toNat v8) - 0)).length ((newslice7.drop (0 + (Int.toNat v8))).take (newslice7.length - (Int.toNat v8))).length) ++ newslice7.drop ((0 + (Int.toNat v8)) + min ((newslice7.drop (0 + 0)).take ((Int.toNat v8) - 0)).length ((newslice7.drop (0 + (Int.toNat v8))).take (newslice7.length - (Int.toNat v8))).length))
 else none)
 else none)
 else some newslice7) := by kernel_rfl
noncomputable def S40 (n : Nat × Nat) (x0 : List Int) (count1 : Int) : Option R40 := run (E40 n) c40 an40 rt40 (fun _ _ => none) rt40 { tm := [.c (.sl (.int .i64) x0 false), .c (.int .i64 count1), uu, uu, uu, uu, uu, uu, uu, uu, uu, uu, uu, uu, uu, uu, uu, uu, uu, uu, uu, uu, uu, uu, uu, uu, uu, uu, uu, uu, uu, uu, uu, uu, uu, uu, uu, uu, uu, uu, uu, uu, uu, uu, uu, uu, uu, uu], hp := emp }
theorem S40_eq (n : Nat × Nat) (x0 : List Int) (count1 : Int) : S40 n x0 count1 =
 (bif decide (count1 < 0) then none
 else (S71 n (wr .u64 (x0.length : Int)) (wr .u64 count1)).bind fun r1' =>
 ((bif (decide (r1'.1 > 0) == false) then some (decide (r1'.2 > 9223372036854775807))
 else some true)).bind fun b2' =>
 (bif b2' then none
 else (bif decide (0 ≤ wr .i64 r1'.2) && decide (wr .i64 r1'.2 ≤ wr .i64 r1'.2) && decide (wr .i64 r1'.2 ≤ lim) then L40_1 n n.1 ((min x0.length (List.replicate (Int.toNat (wr .i64 r1'.2)) (0 : Int)).length : Nat) : Int) ((List.replicate (Int.toNat (wr .i64 r1'.2)) (0 : Int)).take 0 ++ x0.take (min x0.length (List.replicate (Int.toNat (wr .i64 r1'.2)) (0 : Int)).length) ++ (List.replicate (Int.toNat (wr .i64 r1'.2)) (0 : Int)).drop (0 + min x0.length (List.replicate (Int.toNat (wr .i64 r1'.2)) (0 : Int)).length))
 else none))) := by kernel_rfl
theorem S40_run (n : Nat × Nat) (xs : pksDen pk40) : S40 n xs.1 xs.2.1 = runG (E40 n) noScope c40 an40 (rtG rk40) (fun _ _ => none) (rtG rk40) (st0 pk40 xs Tryd.f40.ntmps) := by kernel_rfl
noncomputable def P40 (n : Nat × Nat) := phiOf pk40 rk40 (fun xs => S40 n xs.1 xs.2.1)
theorem call40 : CallOK Tryd.prog 40 := callOK_of Tryd.func40 (by kernel_rfl) (by kernel_rfl)
theorem env40 (n : Nat × Nat) : EnvOK Tryd.prog (E40 n) := envOK0 (consPhi_ok (FC71 n) call71 noPhi_ok) rfl rfl
theorem par40 (n : Nat × Nat) : EnvPar (E40 n) := envPar0 (consPhi_par phiOf_Par1 noPhi_par) rfl
theorem FC40 (n : Nat × Nat) : FCs Tryd.prog 40 (P40 n) := phiOf_FCs fun xs r h vs hv => FC.of_runG tabOK eqsOK (env40 n) (par40 n) mixed (fun _ p _ => noScope_ok p.1 p.2) Tryd.func40 (c := c40) (an := an40) (pks := pk40) (rks := rk40) (by kernel_rfl) (by kernel_rfl) hv ((S40_run n xs).symm.trans h)
/- slices.Index[[]int,int] -/
abbrev R74 := Int
noncomputable def c74 : Code := bodyOf Tryd.f74
noncomputable def an74 : Ann := (.s .l (.s (.s .l (.j [] (.j [0, 1, 7, 8] (.s .l (.s (.j [0, 1, 7, 8] .l .l) (.s (.j [0, 1, 7, 8] (.s .l (.s .l (.j [0, 1, 7, 8] .l .l))) .l) .l))) .l) .l)) .l))
def pk74 : List PK := [.c (.sl (.int .i64)), .c (.int .i64)]
def rk74 : List RK := [.c (.int .i64) 4]
noncomputable def rt74 (st : St) : Option R74 := rtG rk74 st
noncomputable def E74 (n : Nat × Nat) : Env := { T := tab, phi := noPhi, eff := fun _ => false, fuel := n.1, hold := n.2 }
noncomputable def kq74_1 (n : Nat × Nat) : St → Option R74 := run (E74 n) (cB (cB c74)) (Ann.snd (Ann.snd an74)) rt74 (fun _ _ => none) rt74
noncomputable def xb74_3 (n : Nat × Nat) : Nat → St → Option R74 := fun j s => bif Nat.beq j 0 then normC [] s (kq74_1 n) else (fun _ _ => none) j s
noncomputable def F74_4 (n : Nat × Nat) : (St → Option R74) → St → Option R74 := fun K s => run (E74 n) (cA (cA (cB (cA (cB c74))))) (Ann.fst (Ann.fst (Ann.snd (Ann.fst (Ann.snd an74))))) (fun s => normC [0, 1, 7, 8] s K) (xb74_3 n) rt74 s
noncomputable def L74_1 (n : Nat × Nat) (m : Nat) (s0 : List Int) (v1 : Int) (v7 : Int) (v8 : Int) : Option R74 := loopN (F74_4 n) m { tm := [.c (.sl (.int .i64) s0 false), .c (.int .i64 v1), uu, uu, uu, uu, uu, .c (.int .i64 v7), .c (.int .i64 v8), uu, uu, uu, uu, uu, uu, uu, uu, uu, uu], hp := emp }
theorem L74_1_eq (n : Nat × Nat) (m1 : Nat) (s0 : List Int) (v1 : Int) (v7 : Int) (v8 : Int) : L74_1 n (m1 + 1) s0 v1 v7 v8 =
 (bif decide (v8 < v7) then (idx s0 v8).bind fun x1' =>
 (bif (v1 == x1') then some v8
 else L74_1 n m1 s0 v1 v7 (wr .i64 (v8 + 1)))
 else some (-1)) := by kernel_rfl
noncomputable def S74 (n : Nat × Nat) (s0 : List Int) (v1 : Int) : Option R74 := run (E74 n) c74 an74 rt74 (fun _ _ => none) rt74 { tm := [.c (.sl (.int .i64) s0 false), .c (.int .i64 v1), uu, uu, uu, uu, uu, uu, uu, uu, uu, uu, uu, uu, uu, uu, uu, uu, uu], hp := emp }
theorem S74_eq (n : Nat × Nat) (s0 : List Int) (v1 : Int) : S74 n s0 v1 =
    L74_1 n n.1 s0 v1 (s0.length : Int) 0 := by kernel_rfl
theorem S74_run (n : Nat × Nat) (xs : pksDen pk74) : S74 n xs.1 xs.2.1 = runG (E74 n) noScope c74 an74 (rtG rk74) (fun _ _ => none) (rtG rk74) (st0 pk74 xs Tryd.f74.ntmps) := by kernel_rfl
noncomputable def P74 (n : Nat × Nat) := phiOf pk74 rk74 (fun xs => S74 n xs.1 xs.2.1)
theorem call74 : CallOK Tryd.prog 74 := callOK_of Tryd.func74 (by kernel_rfl) (by kernel_rfl)
theorem env74 (n : Nat × Nat) : EnvOK Tryd.prog (E74 n) := envOK0 noPhi_ok rfl rfl
theorem par74 (n : Nat × Nat) : EnvPar (E74 n) := envPar0 noPhi_par rfl
theorem FC74 (n : Nat × Nat) : FCs Tryd.prog 74 (P74 n) := phiOf_FCs fun xs r h vs hv => FC.of_runG tabOK eqsOK (env74 n) (par74 n) mixed (fun _ p _ => noScope_ok p.1 p.2) Tryd.func74 (c := c74) (an := an74) (pks := pk74) (rks := rk74) (by kernel_rfl) (by kernel_rfl) hv ((S74_run n xs).symm.trans h)
/- slices.Contains[[]int,int] -/
abbrev R42 := Bool
noncomputable def c42 : Code := bodyOf Tryd.f42
noncomputable def an42 : Ann := .l
def pk42 : List PK := [.c (.sl (.int .i64)), .c (.int .i64)]
def rk42 : List RK := [.c .bool 4]
noncomputable def rt42 (st : St) : Option R42 := rtG rk42 st
noncomputable def E42 (n : Nat × Nat) : Env := { T := tab, phi := (consPhi 74 (fun _ => true) (P74 n) noPhi), eff := fun _ => false, fuel := n.1, hold := n.2 }
noncomputable def S42 (n : Nat × Nat) (s0 : List Int) (v1 : Int) : Option R42 := run (E42 n) c42 an42 rt42 (fun _ _ => none) rt42 { tm := [.c (.sl (.int .i64) s0 false), .c (.int .i64 v1), uu, uu, uu, uu, uu, uu, uu], hp := emp }
theorem S42_eq (n : Nat × Nat) (s0 : List Int) (v1 : Int) : S42 n s0 v1 =
 (S74 n s0 v1).bind fun r1' =>
 some (decide (r1' ≥ 0)) := by kernel_rfl
theorem S42_run (n : Nat × Nat) (xs : pksDen pk42) : S42 n xs.1 xs.2.1 = runG (E42 n) noScope c42 an42 (rtG rk42) (fun _ _ => none) (rtG rk42) (st0 pk42 xs Tryd.f42.ntmps) := by kernel_rfl
noncomputable def P42 (n : Nat × Nat) := phiOf pk42 rk42 (fun xs => S42 n xs.1 xs.2.1)
theorem call42 : CallOK Tryd.prog 42 := callOK_of Tryd.func42 (by kernel_rfl) (by kernel_rfl)
theorem env42 (n : Nat × Nat) : EnvOK Tryd.prog (E42 n) := envOK0 (consPhi_ok (FC74 n) call74 noPhi_ok) rfl rfl
theorem par42 (n : Nat × Nat) : EnvPar (E42 n) := envPar0 (consPhi_par phiOf_Par1 noPhi_par) rfl
theorem FC42 (n : Nat × Nat) : FCs Tryd.prog 42 (P42 n) := phiOf_FCs fun xs r h vs hv => FC.of_runG tabOK eqsOK (env42 n) (par42 n) mixed (fun _ p _ => noScope_ok p.1 p.2) Tryd.func42 (c := c42) (an := an42) (pks := pk42) (rks := rk42) (by kernel_rfl) (by kernel_rfl) hv ((S42_run n xs).symm.trans h)
abbrev R13 := List Int × Int
noncomputable def c13 : Code := bodyOf Tryd.f13
noncomputable def an13 : Ann := (.s .l (.s .l (.q [(4, 0, 2)] (.s (.s .l (.j [4, 45, 46, 47, 48] .l .l)) (.s .l (.s .l (.s (.s .l (.j [6] (.j [4, 6, 7, 26, 27, 45, 46, 47, 48] (.s .l (.s (.j [4, 6, 7, 26, 27, 45, 46, 47, 48] .l .l) (.s (.j [4, 6, 7, 26, 27, 45, 46, 47, 48] (.s .l (.j [4, 6, 7, 26, 27, 45, 46, 47, 48] (.j [4, 6, 7, 26, 27, 32, 33, 34, 45, 46, 47, 48] (.s .l (.s (.j [4, 6, 7, 26, 27, 32, 33, 34, 45, 46, 47, 48] .l .l) (.j [] (.j [4, 6, 7, 26, 27, 32, 33, 34, 45, 46, 47, 48] (.s .l (.s (.s .l (.j [4, 6, 7, 8, 9, 26, 27, 32, 33, 34, 45, 46, 47, 48] .l .l)) (.s .l (.s (.s .l (.j [4, 6, 7, 8, 10, 26, 27, 32, 33, 34, 45, 46, 47, 48] (.j [4, 6, 7, 8, 10, 26, 27, 32, 33, 34, 45, 46, 47, 48, 51, 52, 53] (.s .l (.s (.j [4, 6, 7, 8, 10, 26, 27, 32, 33, 34, 45, 46, 47, 48, 51, 52, 53] .l .l) (.s (.j [4, 6, 7, 8, 10, 26, 27, 32, 33, 34, 45, 46, 47, 48, 51, 52, 53] .l .l) .l))) .l) .l)) .l)))) .l) .l))) .l) .l)) .l) .l))) .l) .l)) (.s (.s .l (.j [6] .l .l)) .l))))))))
def pk13 : List PK := [.c (.pair (.int .i64) (.sl (.pair (.int .i64) (.int .i64))))]
def rk13 : List RK := [.own (.int .i64) 2, .c (.int .i64) 3]
noncomputable def rt13 (st : St) : Option R13 := rtG rk13 st
noncomputable def E13 (n : Nat × Nat) : Env := { T := tab, phi := (consPhi 33 (fun _ => true) (P33 n) (consPhi 35 (fun _ => true) (P35 n) (consPhi 40 (fun _ => true) (P40 n) (consPhi 41 (fun _ => true) (P41 n) (consPhi 42 (fun _ => true) (P42 n) noPhi))))), eff := fun _ => false, fuel := n.1, hold := n.2 }
noncomputable def kq13_3 (n : Nat × Nat) : St → Option R13 := run (E13 n) (cB (cB (cB (cB (cB (cB c13)))))) (Ann.snd (Ann.snd (Ann.snd (Ann.snd (Ann.unq (Ann.snd (Ann.snd an13))))))) rt13 (fun _ _ => none) rt13
noncomputable def xb13_5 (n : Nat × Nat) : Nat → St → Option R13 := fun j s => bif Nat.beq j 0 then normC [6] s (kq13_3 n) else (fun _ _ => none) j s
noncomputable def F13_6 (n : Nat × Nat) : (St → Option R13) → St → Option R13 := fun K s => run (E13 n) (cA (cA (cB (cA (cB (cB (cB (cB (cB c13))))))))) (Ann.fst (Ann.fst (Ann.snd (Ann.fst (Ann.snd (Ann.snd (Ann.snd (Ann.unq (Ann.snd (Ann.snd an13)))))))))) (fun s => normC [4, 6, 7, 26, 27, 45, 46, 47, 48] s K) (xb13_5 n) rt13 s
noncomputable def kq13_9 (n : Nat × Nat) (m1 : Nat) : St → Option R13 := run (E13 n) (cB (cB (cB (cA (cA (cB (cA (cB (cB (cB (cB (cB c13)))))))))))) (Ann.snd (Ann.snd (Ann.snd (Ann.fst (Ann.fst (Ann.snd (Ann.fst (Ann.snd (Ann.snd (Ann.snd (Ann.unq (Ann.snd (Ann.snd an13))))))))))))) (fun s => normC [4, 6, 7, 26, 27, 45, 46, 47, 48] s (loopN (F13_6 n) m1)) (xb13_5 n) rt13
noncomputable def kc13_10 (n : Nat × Nat) (m1 : Nat) : St → Option R13 := fun s => normC [4, 6, 7, 26, 27, 45, 46, 47, 48] s (kq13_9 n m1)
noncomputable def xb13_11 (n : Nat × Nat) (m1 : Nat) : Nat → St → Option R13 := fun j s => bif Nat.beq j 1 then normC [4, 6, 7, 26, 27, 45, 46, 47, 48] s (kq13_9 n m1) else (xb13_5 n) j s
noncomputable def xb13_13 (n : Nat × Nat) (m1 : Nat) : Nat → St → Option R13 := fun j s => bif Nat.beq j 2 then normC [4, 6, 7, 26, 27, 45, 46, 47, 48] s (kc13_10 n m1) else (xb13_11 n m1) j s
noncomputable def F13_14 (n : Nat × Nat) (m1 : Nat) : (St → Option R13) → St → Option R13 := fun K s => run (E13 n) (cA (cA (cB (cA (cA (cB (cB (cA (cA (cB (cA (cB (cB (cB (cB (cB c13)))))))))))))))) (Ann.fst (Ann.fst (Ann.snd (Ann.fst (Ann.fst (Ann.snd (Ann.snd (Ann.fst (Ann.fst (Ann.snd (Ann.fst (Ann.snd (Ann.snd (Ann.snd (Ann.unq (Ann.snd (Ann.snd an13))))))))))))))))) (fun s => normC [4, 6, 7, 26, 27, 32, 33, 34, 45, 46, 47, 48] s K) (xb13_13 n m1) rt13 s
noncomputable def kq13_19 (n : Nat × Nat) (m1 m2 : Nat) : St → Option R13 := run (E13 n) (cB (cB (cB (cA (cA (cB (cA (cA (cB (cB (cA (cA (cB (cA (cB (cB (cB (cB (cB c13))))))))))))))))))) (Ann.snd (Ann.snd (Ann.snd (Ann.fst (Ann.fst (Ann.snd (Ann.fst (Ann.fst (Ann.snd (Ann.snd (Ann.fst (Ann.fst (Ann.snd (Ann.fst (Ann.snd (Ann.snd (Ann.snd (Ann.unq (Ann.snd (Ann.snd an13)))))))))))))))))))) (fun s => normC [4, 6, 7, 26, 27, 32, 33, 34, 45, 46, 47, 48] s (loopN (F13_14 n m1) m2)) (xb13_13 n m1) rt13
noncomputable def kc13_20 (n : Nat × Nat) (m1 m2 : Nat) : St → Option R13 := fun s => normC [4, 6, 7, 26, 27, 32, 33, 34, 45, 46, 47, 48] s (loopN (fun _ => (kq13_19 n m1 m2)) n.2)
noncomputable def xb13_21 (n : Nat × Nat) (m1 m2 : Nat) : Nat → St → Option R13 := fun j s => bif Nat.beq j 3 then normC [4, 6, 7, 26, 27, 32, 33, 34, 45, 46, 47, 48] s (loopN (fun _ => (kq13_19 n m1 m2)) n.2) else (xb13_13 n m1) j s
noncomputable def kq13_24 (n : Nat × Nat) (m1 m2 : Nat) : St → Option R13 := run (E13 n) (cB (cB (cB (cB (cA (cA (cB (cB (cA (cA (cB (cA (cA (cB (cB (cA (cA (cB (cA (cB (cB (cB (cB (cB c13)))))))))))))))))))))))) (Ann.snd (Ann.snd (Ann.snd (Ann.snd (Ann.fst (Ann.fst (Ann.snd (Ann.snd (Ann.fst (Ann.fst (Ann.snd (Ann.fst (Ann.fst (Ann.snd (Ann.snd (Ann.fst (Ann.fst (Ann.snd (Ann.fst (Ann.snd (Ann.snd (Ann.snd (Ann.unq (Ann.snd (Ann.snd an13))))))))))))))))))))))))) (kc13_20 n m1 m2) (xb13_21 n m1 m2) rt13
noncomputable def xb13_26 (n : Nat × Nat) (m1 m2 : Nat) : Nat → St → Option R13 := fun j s => bif Nat.beq j 4 then normC [4, 6, 7, 8, 10, 26, 27, 32, 33, 34, 45, 46, 47, 48] s (kq13_24 n m1 m2) else (xb13_21 n m1 m2) j s
noncomputable def F13_27 (n : Nat × Nat) (m1 m2 : Nat) : (St → Option R13) → St → Option R13 := fun K s => run (E13 n) (cA (cA (cB (cA (cB (cB (cB (cA (cA (cB (cB (cA (cA (cB (cA (cA (cB (cB (cA (cA (cB (cA (cB (cB (cB (cB (cB c13))))))))))))))))))))))))))) (Ann.fst (Ann.fst (Ann.snd (Ann.fst (Ann.snd (Ann.snd (Ann.snd (Ann.fst (Ann.fst (Ann.snd (Ann.snd (Ann.fst (Ann.fst (Ann.snd (Ann.fst (Ann.fst (Ann.snd (Ann.snd (Ann.fst (Ann.fst (Ann.snd (Ann.fst (Ann.snd (Ann.snd (Ann.snd (Ann.unq (Ann.snd (Ann.snd an13)))))))))))))))))))))))))))) (fun s => normC [4, 6, 7, 8, 10, 26, 27, 32, 33, 34, 45, 46, 47, 48, 51, 52, 53] s K) (xb13_26 n m1 m2) rt13 s
noncomputable def L13_1 (n : Nat × Nat) (m : Nat) (w4_0 : Int) (w4_1 : Int) (w4_2 : Int) (w4_3 : Int) (w4_4 : Int) (w4_5 : Int) (w4_6 : Int) (w4_7 : Int) (known7 : Int) (v26 : Int) (v27 : Int) (out6 : List Int) : Option R13 := loopN (F13_6 n) m { tm := [uu, uu, uu, uu, .iptr [.int .i64 w4_0, .int .u64 w4_1, .int .u64 w4_2, .int .u64 w4_3, .int .u64 w4_4, .int .u64 w4_5, .int .u64 w4_6, .int .u64 w4_7], uu, .own 6 none false, .c (.int .u64 known7), uu, uu, uu, uu, uu, uu, uu, uu, uu, uu, uu, uu, uu, uu, uu, uu, uu, uu, .c (.int .i64 v26), .c (.int .i64 v27), uu, uu, uu, uu, uu, uu, uu, uu, uu, uu, uu, uu, uu, uu, uu, uu, uu, uu, uu, uu, uu, uu, uu, uu, uu, uu, uu, uu, uu, uu, uu, uu, uu, uu, uu, uu, uu, uu, uu, uu, uu, uu, uu, uu, uu, uu, uu, uu, uu, uu, uu, uu], hp := (upd emp 6 (.arr (.int .i64) out6 false)) }
noncomputable def L13_2 (n : Nat × Nat) (m1 : Nat) (m : Nat) (w4_0 : Int) (w4_1 : Int) (w4_2 : Int) (w4_3 : Int) (w4_4 : Int) (w4_5 : Int) (w4_6 : Int) (w4_7 : Int) (known7 : Int) (v26 : Int) (v27 : Int) (v32 : List Int) (v33 : Int) (v34 : Int) (out6 : List Int) : Option R13 := loopN (F13_14 n m1) m { tm := [uu, uu, uu, uu, .iptr [.int .i64 w4_0, .int .u64 w4_1, .int .u64 w4_2, .int .u64 w4_3, .int .u64 w4_4, .int .u64 w4_5, .int .u64 w4_6, .int .u64 w4_7], uu, .own 6 none false, .c (.int .u64 known7), uu, uu, uu, uu, uu, uu, uu, uu, uu, uu, uu, uu, uu, uu, uu, uu, uu, uu, .c (.int .i64 v26), .c (.int .i64 v27), uu, uu, uu, uu, .c (.sl (.int .u64) v32 false), .c (.int .i64 v33), .c (.int .i64 v34), uu, uu, uu, uu, uu, uu, uu, uu, uu, uu, uu, uu, uu, uu, uu, uu, uu, uu, uu, uu, uu, uu, uu, uu, uu, uu, uu, uu, uu, uu, uu, uu, uu, uu, uu, uu, uu, uu, uu, uu, uu, uu, uu, uu, uu], hp := (upd emp 6 (.arr (.int .i64) out6 false)) }
noncomputable def L13_3 (n : Nat × Nat) (m1 m2 : Nat) (w4_0 : Int) (w4_1 : Int) (w4_2 : Int) (w4_3 : Int) (w4_4 : Int) (w4_5 : Int) (w4_6 : Int) (w4_7 : Int) (known7 : Int) (v26 : Int) (v27 : Int) (v32 : List Int) (v33 : Int) (v34 : Int) (out6 : List Int) : Option R13 := loopN (fun _ => (kq13_19 n m1 m2)) n.2 { tm := [uu, uu, uu, uu, .iptr [.int .i64 w4_0, .int .u64 w4_1, .int .u64 w4_2, .int .u64 w4_3, .int .u64 w4_4, .int .u64 w4_5, .int .u64 w4_6, .int .u64 w4_7], uu, .own 6 none false, .c (.int .u64 known7), uu, uu, uu, uu, uu, uu, uu, uu, uu, uu, uu, uu, uu, uu, uu, uu, uu, uu, .c (.int .i64 v26), .c (.int .i64 v27), uu, uu, uu, uu, .c (.sl (.int .u64) v32 false), .c (.int .i64 v33), .c (.int .i64 v34), uu, uu, uu, uu, uu, uu, uu, uu, uu, uu, uu, uu, uu, uu, uu, uu, uu, uu, uu, uu, uu, uu, uu, uu, uu, uu, uu, uu, uu, uu, uu, uu, uu, uu, uu, uu, uu, uu, uu, uu, uu, uu, uu, uu, uu], hp := (upd emp 6 (.arr (.int .i64) out6 false)) }
noncomputable def L13_4 (n : Nat × Nat) (m1 m2 : Nat) (m : Nat) (w4_0 : Int) (w4_1 : Int) (w4_2 : Int) (w4_3 : Int) (w4_4 : Int) (w4_5 : Int) (w4_6 : Int) (w4_7 : Int) (known7 : Int) (x8 : Int) (v10 : Int) (v26 : Int) (v27 : Int) (v32 : List Int) (v33 : Int) (v34 : Int) (v52 : Int) (v53 : Int) (out6 : List Int) (v51 : List Int) : Option R13 := loopN (F13_27 n m1 m2) m { tm := [uu, uu, uu, uu, .iptr [.int .i64 w4_0, .int .u64 w4_1, .int .u64 w4_2, .int .u64 w4_3, .int .u64 w4_4, .int .u64 w4_5, .int .u64 w4_6, .int .u64 w4_7], uu, .own 6 none false, .c (.int .u64 known7), .c (.int .i64 x8), uu, .c (.int .u64 v10), uu, uu, uu, uu, uu, uu, uu, uu, uu, uu, uu, uu, uu, uu, uu, .c (.int .i64 v26), .c (.int .i64 v27), uu, uu, uu, uu, .c (.sl (.int .u64) v32 false), .c (.int .i64 v33), .c (.int .i64 v34), uu, uu, uu, uu, uu, uu, uu, uu, uu, uu, uu, uu, uu, uu, uu, uu, .own 51 none false, .c (.int .i64 v52), .c (.int .i64 v53), uu, uu, uu, uu, uu, uu, uu, uu, uu, uu, uu, uu, uu, uu, uu, uu, uu, uu, uu, uu, uu, uu, uu, uu, uu, uu], hp := (upd (upd emp 51 (.arr (.int .i64) v51 false)) 6 (.arr (.int .i64) out6 false)) }
theorem L13_1_eq (n : Nat × Nat) (m1 : Nat) (w4_0 : Int) (w4_1 : Int) (w4_2 : Int) (w4_3 : Int) (w4_4 : Int) (w4_5 : Int) (w4_6 : Int) (w4_7 : Int) (known7 : Int) (v26 : Int) (v27 : Int) (out6 : List Int) : L13_1 n (m1 + 1) w4_0 w4_1 w4_2 w4_3 w4_4 w4_5 w4_6 w4_7 known7 v26 v27 out6 =
 (bif decide (v27 < v26) then (bif bounds none (some w4_0) none 7 then L13_2 n m1 n.1 w4_0 w4_1 w4_2 w4_3 w4_4 w4_5 w4_6 w4_7 known7 v26 v27 ([w4_1, w4_2, w4_3, w4_4, w4_5, w4_6, w4_7].take (Int.toNat w4_0)) (([w4_1, w4_2, w4_3, w4_4, w4_5, w4_6, w4_7].take (Int.toNat w4_0)).length : Int) 0 out6
 else none)
 else (S42 n out6 (-1)).bind fun r3' =>
 (bif r3' then some ([], 13)
 else some (out6, 0))) := by kernel_rfl
theorem L13_2_eq (n : Nat × Nat) (m1 m2 : Nat) (w4_0 : Int) (w4_1 : Int) (w4_2 : Int) (w4_3 : Int) (w4_4 : Int) (w4_5 : Int) (w4_6 : Int) (w4_7 : Int) (known7 : Int) (v26 : Int) (v27 : Int) (v32 : List Int) (v33 : Int) (v34 : Int) (out6 : List Int) : L13_2 n m1 (m2 + 1) w4_0 w4_1 w4_2 w4_3 w4_4 w4_5 w4_6 w4_7 known7 v26 v27 v32 v33 v34 out6 =
 (bif decide (v34 < v33) then (idx v32 v34).bind fun x4' =>
 (bif decide (v34 < 0) then none
 else ((bif (((wr .u64 (BitVec.ofInt (IntKind.bits .u64) (Int.fdiv known7 (2 ^ (min (Int.toNat v34) (IntKind.bits .u64)))) &&& BitVec.ofInt (IntKind.bits .u64) 1).toNat) == 1) == false) then some ((wr .u64 (BitVec.ofInt (IntKind.bits .u64) x4' &&& ~~~BitVec.ofInt (IntKind.bits .u64) known7).toNat) != 0)
 else some true)).bind fun b5' =>
 (bif b5' then L13_3 n m1 m2 w4_0 w4_1 w4_2 w4_3 w4_4 w4_5 w4_6 w4_7 known7 v26 v27 v32 v33 v34 out6
 else (S35 n x4').bind fun r6' =>
          L13_4 n m1 m2 n.1 w4_0 w4_1 w4_2 w4_3 w4_4 w4_5 w4_6 w4_7 known7 v34 0 v26 v27 v32 v33 v34 (r6'.length : Int) 0 out6 r6'))
 else L13_1 n m1 w4_0 w4_1 w4_2 w4_3 w4_4 w4_5 w4_6 w4_7 known7 v26 (wr .i64 (v27 + 1)) out6) := by kernel_rfl
theorem L13_3_raw (n : Nat × Nat) (m1 m2 : Nat) (w4_0 : Int) (w4_1 : Int) (w4_2 : Int) (w4_3 : Int) (w4_4 : Int) (w4_5 : Int) (w4_6 : Int) (w4_7 : Int) (known7 : Int) (v26 : Int) (v27 : Int) (v32 : List Int) (v33 : Int) (v34 : Int) (out6 : List Int) : (kq13_19 n m1 m2) { tm := [uu, uu, uu, uu, .iptr [.int .i64 w4_0, .int .u64 w4_1, .int .u64 w4_2, .int .u64 w4_3, .int .u64 w4_4, .int .u64 w4_5, .int .u64 w4_6, .int .u64 w4_7], uu, .own 6 none false, .c (.int .u64 known7), uu, uu, uu, uu, uu, uu, uu, uu, uu, uu, uu, uu, uu, uu, uu, uu, uu, uu, .c (.int .i64 v26), .c (.int .i64 v27), uu, uu, uu, uu, .c (.sl (.int .u64) v32 false), .c (.int .i64 v33), .c (.int .i64 v34), uu, uu, uu, uu, uu, uu, uu, uu, uu, uu, uu, uu, uu, uu, uu, uu, uu, uu, uu, uu, uu, uu, uu, uu, uu, uu, uu, uu, uu, uu, uu, uu, uu, uu, uu, uu, uu, uu, uu, uu, uu, uu, uu, uu, uu], hp := (upd emp 6 (.arr (.int .i64) out6 false)) } =
    L13_2 n m1 m2 w4_0 w4_1 w4_2 w4_3 w4_4 w4_5 w4_6 w4_7 known7 v26 v27 v32 v33 (wr .i64 (v34 + 1)) out6 := by kernel_rfl
theorem L13_4_eq (n : Nat × Nat) (m1 m2 m3 : Nat) (w4_0 : Int) (w4_1 : Int) (w4_2 : Int) (w4_3 : Int) (w4_4 : Int) (w4_5 : Int) (w4_6 : Int) (w4_7 : Int) (known7 : Int) (x8 : Int) (v10 : Int) (v26 : Int) (v27 : Int) (v32 : List Int) (v33 : Int) (v34 : Int) (v52 : Int) (v53 : Int) (out6 : List Int) (v51 : List Int) : L13_4 n m1 m2 (m3 + 1) w4_0 w4_1 w4_2 w4_3 w4_4 w4_5 w4_6 w4_7 known7 x8 v10 v26 v27 v32 v33 v34 v52 v53 out6 v51 =
 (bif decide (v53 < v52) then (bif inB v53 v51.length then (idx v51 v53).bind fun x7' =>
 (bif inB x7' out6.length then (idx out6 x7').bind fun x8' =>
 (bif decide (x8' < 0) then none
 else L13_4 n m1 m2 m3 w4_0 w4_1 w4_2 w4_3 w4_4 w4_5 w4_6 w4_7 known7 x8 (wr .u64 (BitVec.ofInt (IntKind.bits .u64) v10 ||| BitVec.ofInt (IntKind.bits .u64) (wr .u64 (1 * 2 ^ (min (Int.toNat x8') (IntKind.bits .u64))))).toNat) v26 v27 v32 v33 v34 v52 (wr .i64 (v53 + 1)) out6 v51)
 else none)
 else none)
 else (S41 n (wr .u64 (BitVec.ofInt (IntKind.bits .u64) (if IntKind.signed .u64 then -1 else IntKind.max .u64) ^^^ BitVec.ofInt (IntKind.bits .u64) v10).toNat)).bind fun r9' =>
 (bif inB x8 out6.length then (idx out6 x8).bind fun x10' =>
 (bif decide (x8 < 0) then none
 else L13_3 n m1 m2 w4_0 w4_1 w4_2 w4_3 w4_4 w4_5 w4_6 w4_7 (wr .u64 (BitVec.ofInt (IntKind.bits .u64) known7 ||| BitVec.ofInt (IntKind.bits .u64) (wr .u64 (1 * 2 ^ (min (Int.toNat x8) (IntKind.bits .u64))))).toNat) v26 v27 v32 v33 v34 (out6.set (Int.toNat x8) r9'))
 else none)) := by kernel_rfl
noncomputable def S13 (n : Nat × Nat) (b0 : Int × List (Int × Int)) : Option R13 := run (E13 n) c13 an13 rt13 (fun _ _ => none) rt13 { tm := [.agg [.int .i64 b0.1, .sl (.pair (.int .i64) (.int .i64)) b0.2 false], uu, uu, uu, uu, uu, uu, uu, uu, uu, uu, uu, uu, uu, uu, uu, uu, uu, uu, uu, uu, uu, uu, uu, uu, uu, uu, uu, uu, uu, uu, uu, uu, uu, uu, uu, uu, uu, uu, uu, uu, uu, uu, uu, uu, uu, uu, uu, uu, uu, uu, uu, uu, uu, uu, uu, uu, uu, uu, uu, uu, uu, uu, uu, uu, uu, uu, uu, uu, uu, uu, uu, uu, uu, uu, uu, uu, uu, uu, uu], hp := emp }
theorem S13_eq (n : Nat × Nat) (b0 : Int × List (Int × Int)) : S13 n b0 =
 (S33 n b0).bind fun r1' =>
 (bif (r1'.2 != 0) then some ([], r1'.2)
 else (S40 n [-1] r1'.1.1).bind fun r2' =>
      L13_1 n n.1 r1'.1.1 r1'.1.2.1 r1'.1.2.2.1 r1'.1.2.2.2.1 r1'.1.2.2.2.2.1 r1'.1.2.2.2.2.2.1 r1'.1.2.2.2.2.2.2.1 r1'.1.2.2.2.2.2.2.2 0 r1'.1.1 0 r2') := by kernel_rfl
theorem S13_run (n : Nat × Nat) (xs : pksDen pk13) : S13 n xs.1 = runG (E13 n) noScope c13 an13 (rtG rk13) (fun _ _ => none) (rtG rk13) (st0 pk13 xs Tryd.f13.ntmps) := by kernel_rfl
noncomputable def P13 (n : Nat × Nat) := phiOf pk13 rk13 (fun xs => S13 n xs.1)
theorem call13 : CallOK Tryd.prog 13 := callOK_of Tryd.func13 (by kernel_rfl) (by kernel_rfl)
theorem env13 (n : Nat × Nat) : EnvOK Tryd.prog (E13 n) := envOK0 (consPhi_ok (FC33 n) call33 (consPhi_ok (FC35 n) call35 (consPhi_ok (FC40 n) call40 (consPhi_ok (FC41 n) call41 (consPhi_ok (FC42 n) call42 noPhi_ok))))) rfl rfl
theorem par13 (n : Nat × Nat) : EnvPar (E13 n) := envPar0 (consPhi_par phiOf_Par1 (consPhi_par phiOf_Par1 (consPhi_par phiOf_Par1 (consPhi_par phiOf_Par1 (consPhi_par phiOf_Par1 noPhi_par))))) rfl
theorem FC13 (n : Nat × Nat) : FCs Tryd.prog 13 (P13 n) := phiOf_FCs fun xs r h vs hv => FC.of_runG tabOK eqsOK (env13 n) (par13 n) mixed (fun _ p _ => noScope_ok p.1 p.2) Tryd.func13 (c := c13) (an := an13) (pks := pk13) (rks := rk13) (by kernel_rfl) (by kernel_rfl) hv ((S13_run n xs).symm.trans h)
abbrev R29 := Int × Int
noncomputable def c29 : Code := bodyOf Tryd.f29
noncomputable def an29 : Ann := (.s .l (.s (.s .l (.s .l (.j [0, 1] .l .l))) .l))
def pk29 : List PK := [.c (.sl (.int .i64)), .c (.int .i64)]
def rk29 : List RK := [.c (.int .i64) 4, .c (.int .i64) 5]
noncomputable def rt29 (st : St) : Option R29 := rtG rk29 st
noncomputable def E29 (n : Nat × Nat) : Env := { T := tab, phi := (consPhi 52 (fun _ => true) (P52 n) (consPhi 63 (fun _ => true) (P63 n) noPhi)), eff := fun _ => false, fuel := n.1, hold := n.2 }
noncomputable def S29 (n : Nat × Nat) (coins0 : List Int) (sum1 : Int) : Option R29 := run (E29 n) c29 an29 rt29 (fun _ _ => none) rt29 { tm := [.c (.sl (.int .i64) coins0 false), .c (.int .i64 sum1), uu, uu, uu, uu, uu, uu, uu, uu, uu, uu, uu, uu, uu, uu, uu, uu, uu], hp := emp }
theorem S29_eq (n : Nat × Nat) (coins0 : List Int) (sum1 : Int) : S29 n coins0 sum1 =
 (S52 n coins0 sum1).bind fun r1' =>
 (bif (r1' != 0) then some (0, r1')
 else (S63 n coins0 sum1).bind fun r2' =>
 (bif inB sum1 r2'.length then (idx r2' sum1).bind fun x3' =>
 some (x3', 0)
 else none)) := by kernel_rfl
theorem S29_run (n : Nat × Nat) (xs : pksDen pk29) : S29 n xs.1 xs.2.1 = runG (E29 n) noScope c29 an29 (rtG rk29) (fun _ _ => none) (rtG rk29) (st0 pk29 xs Tryd.f29.ntmps) := by kernel_rfl
noncomputable def P29 (n : Nat × Nat) := phiOf pk29 rk29 (fun xs => S29 n xs.1 xs.2.1)
theorem call29 : CallOK Tryd.prog 29 := callOK_of Tryd.func29 (by kernel_rfl) (by kernel_rfl)
theorem env29 (n : Nat × Nat) : EnvOK Tryd.prog (E29 n) := envOK0 (consPhi_ok (FC52 n) call52 (consPhi_ok (FC63 n) call63 noPhi_ok)) rfl rfl
theorem par29 (n : Nat × Nat) : EnvPar (E29 n) := envPar0 (consPhi_par phiOf_Par1 (consPhi_par phiOf_Par1 noPhi_par)) rfl
theorem FC29 (n : Nat × Nat) : FCs Tryd.prog 29 (P29 n) := phiOf_FCs fun xs r h vs hv => FC.of_runG tabOK eqsOK (env29 n) (par29 n) mixed (fun _ p _ => noScope_ok p.1 p.2) Tryd.func29 (c := c29) (an := an29) (pks := pk29) (rks := rk29) (by kernel_rfl) (by kernel_rfl) hv ((S29_run n xs).symm.trans h)
abbrev R7 := Bool
noncomputable def c7 : Code := bodyOf Tryd.f7
noncomputable def an7 : Ann := (.s .l (.s .l (.s (.s .l (.j [2, 7, 114, 115, 118, 119, 122, 123, 126, 127, 128, 129, 130, 133, 134, 135, 138, 139, 140, 167, 168, 169, 172, 173, 174, 175, 176, 177, 178, 179, 180, 181, 182, 189, 190, 191, 192, 193, 196] (.j [2, 7, 40, 41, 42, 114, 115, 118, 119, 122, 123, 126, 127, 128, 129, 130, 133, 134, 135, 138, 139, 140, 167, 168, 169, 172, 173, 174, 175, 176, 177, 178, 179, 180, 181, 182, 189, 190, 191, 192, 193, 196] (.s .l (.s (.j [2, 7, 40, 41, 42, 114, 115, 118, 119, 122, 123, 126, 127, 128, 129, 130, 133, 134, 135, 138, 139, 140, 167, 168, 169, 172, 173, 174, 175, 176, 177, 178, 179, 180, 181, 182, 189, 190, 191, 192, 193, 196] .l .l) (.j [] (.j [2, 7, 40, 41, 42, 114, 115, 118, 119, 122, 123, 126, 127, 128, 129, 130, 133, 134, 135, 138, 139, 140, 167, 168, 169, 172, 173, 174, 175, 176, 177, 178, 179, 180, 181, 182, 189, 190, 191, 192, 193, 196] (.s .l (.s .l (.j [2, 7, 40, 41, 42, 114, 115, 118, 119, 122, 123, 126, 127, 128, 129, 130, 133, 134, 135, 138, 139, 140, 167, 168, 169, 172, 173, 174, 175, 176, 177, 178, 179, 180, 181, 182, 189, 190, 191, 192, 193, 196] .l .l))) .l) .l))) .l) .l)) (.s .l (.s (.q [(10, 1, 1)] (.s .l (.j [2, 7, 10, 114, 115, 118, 119, 122, 123, 126, 127, 128, 129, 130, 133, 134, 135, 138, 139, 140, 167, 168, 169, 172, 173, 174, 175, 176, 177, 178, 179, 180, 181, 182, 189, 190, 191, 192, 193, 196, 501229999] (.j [2, 7, 10, 60, 114, 115, 118, 119, 122, 123, 126, 127, 128, 129, 130, 133, 134, 135, 138, 139, 140, 167, 168, 169, 172, 173, 174, 175, 176, 177, 178, 179, 180, 181, 182, 189, 190, 191, 192, 193, 196, 501229999] (.s .l (.s (.j [2, 7, 10, 60, 114, 115, 118, 119, 122, 123, 126, 127, 128, 129, 130, 133, 134, 135, 138, 139, 140, 167, 168, 169, 172, 173, 174, 175, 176, 177, 178, 179, 180, 181, 182, 189, 190, 191, 192, 193, 196, 501229999] .l .l) (.s (.j [2, 7, 10, 60, 114, 115, 118, 119, 122, 123, 126, 127, 128, 129, 130, 133, 134, 135, 138, 139, 140, 167, 168, 169, 172, 173, 174, 175, 176, 177, 178, 179, 180, 181, 182, 189, 190, 191, 192, 193, 196, 501229999] (.s .l (.s .l (.j [2, 7, 10, 60, 114, 115, 118, 119, 122, 123, 126, 127, 128, 129, 130, 133, 134, 135, 138, 139, 140, 167, 168, 169, 172, 173, 174, 175, 176, 177, 178, 179, 180, 181, 182, 189, 190, 191, 192, 193, 196, 501229999] (.j [2, 7, 10, 11, 60, 63, 64, 65, 114, 115, 118, 119, 122, 123, 126, 127, 128, 129, 130, 133, 134, 135, 138, 139, 140, 167, 168, 169, 172, 173, 174, 175, 176, 177, 178, 179, 180, 181, 182, 189, 190, 191, 192, 193, 196, 501229999] (.s .l (.s (.j [2, 7, 10, 11, 60, 63, 64, 65, 114, 115, 118, 119, 122, 123, 126, 127, 128, 129, 130, 133, 134, 135, 138, 139, 140, 167, 168, 169, 172, 173, 174, 175, 176, 177, 178, 179, 180, 181, 182, 189, 190, 191, 192, 193, 196, 501229999] .l .l) (.j [] (.j [2, 7, 10, 11, 60, 63, 64, 65, 114, 115, 118, 119, 122, 123, 126, 127, 128, 129, 130, 133, 134, 135, 138, 139, 140, 167, 168, 169, 172, 173, 174, 175, 176, 177, 178, 179, 180, 181, 182, 189, 190, 191, 192, 193, 196, 501229999] (.s .l (.s .l (.j [2, 7, 10, 11, 60, 63, 64, 65, 114, 115, 118, 119, 122, 123, 126, 127, 128, 129, 130, 133, 134, 135, 138, 139, 140, 167, 168, 169, 172, 173, 174, 175, 176, 177, 178, 179, 180, 181, 182, 189, 190, 191, 192, 193, 196, 501229999] .l .l))) .l) .l))) .l) .l))) .l) .l))) .l) .l))) (.q [(10, 1, 0)] (.s .l (.s .l (.s .l (.s .l (.s .l (.s (.s .l (.j [14, 15, 19, 21, 167, 168, 169, 172, 173, 174, 175, 176, 177, 178, 179, 180, 181, 182, 189, 190, 191, 192, 193, 196] .l .l)) (.s .l (.s (.s .l (.j [14, 15, 19, 23, 167, 168, 169, 172, 173, 174, 175, 176, 177, 178, 179, 180, 181, 182, 189, 190, 191, 192, 193, 196] (.j [14, 15, 19, 23, 142, 143, 144, 167, 168, 169, 172, 173, 174, 175, 176, 177, 178, 179, 180, 181, 182, 189, 190, 191, 192, 193, 196] (.s .l (.s (.j [14, 15, 19, 23, 142, 143, 144, 167, 168, 169, 172, 173, 174, 175, 176, 177, 178, 179, 180, 181, 182, 189, 190, 191, 192, 193, 196] .l .l) (.j [] (.j [14, 15, 19, 23, 142, 143, 144, 167, 168, 169, 172, 173, 174, 175, 176, 177, 178, 179, 180, 181, 182, 189, 190, 191, 192, 193, 196] (.s .l (.s .l (.j [14, 15, 19, 23, 142, 143, 144, 167, 168, 169, 172, 173, 174, 175, 176, 177, 178, 179, 180, 181, 182, 189, 190, 191, 192, 193, 196] .l .l))) .l) .l))) .l) .l)) (.s .l (.s (.s .l (.j [19, 23, 26, 189, 190, 191, 192, 193, 196] (.j [14, 19, 23, 26, 157, 158, 159, 167, 168, 169, 172, 173, 174, 175, 176, 177, 178, 179, 180, 181, 182, 189, 190, 191, 192, 193, 196] (.s .l (.s (.j [14, 19, 23, 26, 157, 158, 159, 167, 168, 169, 172, 173, 174, 175, 176, 177, 178, 179, 180, 181, 182, 189, 190, 191, 192, 193, 196] .l .l) (.s (.j [14, 19, 23, 26, 157, 158, 159, 167, 168, 169, 172, 173, 174, 175, 176, 177, 178, 179, 180, 181, 182, 189, 190, 191, 192, 193, 196] (.s .l (.s (.s .l (.j [14, 19, 23, 28, 157, 158, 159, 167, 168, 169, 172, 173, 174, 175, 176, 177, 178, 179, 180, 181, 182, 189, 190, 191, 192, 193, 196] .l .l)) .l)) .l) .l))) .l) .l)) .l))))))))))))))))
def pk7 : List PK := [.c (.int .u8), .c (.int .u8), .c (.int .u8)]
def rk7 : List RK := [.c .bool 6]
noncomputable def rt7 (st : St) : Option R7 := rtG rk7 st
noncomputable def E7 (n : Nat × Nat) : Env := { T := tab, phi := (consPhi 11 (fun _ => true) (P11 n) (consPhi 13 (fun _ => true) (P13 n) (consPhi 14 (fun _ => true) (P14 n) (consPhi 15 (fun _ => true) (P15 n) (consPhi 25 (fun _ => true) (P25 n) (consPhi 29 (fun _ => true) (P29 n) noPhi)))))), eff := fun g => Nat.beq g 11, fuel := n.1, hold := n.2 }
noncomputable def kq7_1 (n : Nat × Nat) : St → Option R7 := run (E7 n) (cB (cB (cB c7))) (Ann.snd (Ann.snd (Ann.snd an7))) rt7 (fun _ _ => none) rt7
noncomputable def xb7_3 (n : Nat × Nat) : Nat → St → Option R7 := fun j s => bif Nat.beq j 0 then normC [2, 7, 114, 115, 118, 119, 122, 123, 126, 127, 128, 129, 130, 133, 134, 135, 138, 139, 140, 167, 168, 169, 172, 173, 174, 175, 176, 177, 178, 179, 180, 181, 182, 189, 190, 191, 192, 193, 196] s (kq7_1 n) else (fun _ _ => none) j s
noncomputable def F7_4 (n : Nat × Nat) : (St → Option R7) → St → Option R7 := fun K s => run (E7 n) (cA (cA (cB (cA (cB (cB c7)))))) (Ann.fst (Ann.fst (Ann.snd (Ann.fst (Ann.snd (Ann.snd an7)))))) (fun s => normC [2, 7, 40, 41, 42, 114, 115, 118, 119, 122, 123, 126, 127, 128, 129, 130, 133, 134, 135, 138, 139, 140, 167, 168, 169, 172, 173, 174, 175, 176, 177, 178, 179, 180, 181, 182, 189, 190, 191, 192, 193, 196] s K) (xb7_3 n) rt7 s
noncomputable def kq7_7 (n : Nat × Nat) (m1 : Nat) : St → Option R7 := run (E7 n) (cB (cB (cB (cA (cA (cB (cA (cB (cB c7))))))))) (Ann.snd (Ann.snd (Ann.snd (Ann.fst (Ann.fst (Ann.snd (Ann.fst (Ann.snd (Ann.snd an7))))))))) (fun s => normC [2, 7, 40, 41, 42, 114, 115, 118, 119, 122, 123, 126, 127, 128, 129, 130, 133, 134, 135, 138, 139, 140, 167, 168, 169, 172, 173, 174, 175, 176, 177, 178, 179, 180, 181, 182, 189, 190, 191, 192, 193, 196] s (loopN (F7_4 n) m1)) (xb7_3 n) rt7
noncomputable def kq7_11 (n : Nat × Nat) : St → Option R7 := run (E7 n) (cB (cB (cB (cB (cB c7))))) (Ann.snd (Ann.snd (Ann.snd (Ann.snd (Ann.snd an7))))) rt7 (fun _ _ => none) rt7
noncomputable def xb7_13 (n : Nat × Nat) : Nat → St → Option R7 := fun j s => bif Nat.beq j 2 then normC [2, 7, 10, 114, 115, 118, 119, 122, 123, 126, 127, 128, 129, 130, 133, 134, 135, 138, 139, 140, 167, 168, 169, 172, 173, 174, 175, 176, 177, 178, 179, 180, 181, 182, 189, 190, 191, 192, 193, 196, 501229999] s (kq7_11 n) else (fun _ _ => none) j s
noncomputable def F7_14 (n : Nat × Nat) : (St → Option R7) → St → Option R7 := fun K s => run (E7 n) (cA (cA (cB (cA (cB (cB (cB (cB c7)))))))) (Ann.fst (Ann.fst (Ann.snd (Ann.unq (Ann.fst (Ann.snd (Ann.snd (Ann.snd (Ann.snd an7))))))))) (fun s => normC [2, 7, 10, 60, 114, 115, 118, 119, 122, 123, 126, 127, 128, 129, 130, 133, 134, 135, 138, 139, 140, 167, 168, 169, 172, 173, 174, 175, 176, 177, 178, 179, 180, 181, 182, 189, 190, 191, 192, 193, 196, 501229999] s K) (xb7_13 n) rt7 s
noncomputable def kq7_17 (n : Nat × Nat) (m1 : Nat) : St → Option R7 := run (E7 n) (cB (cB (cB (cA (cA (cB (cA (cB (cB (cB (cB c7))))))))))) (Ann.snd (Ann.snd (Ann.snd (Ann.fst (Ann.fst (Ann.snd (Ann.unq (Ann.fst (Ann.snd (Ann.snd (Ann.snd (Ann.snd an7)))))))))))) (fun s => normC [2, 7, 10, 60, 114, 115, 118, 119, 122, 123, 126, 127, 128, 129, 130, 133, 134, 135, 138, 139, 140, 167, 168, 169, 172, 173, 174, 175, 176, 177, 178, 179, 180, 181, 182, 189, 190, 191, 192, 193, 196, 501229999] s (loopN (F7_14 n) m1)) (xb7_13 n) rt7
noncomputable def kc7_18 (n : Nat × Nat) (m1 : Nat) : St → Option R7 := fun s => normC [2, 7, 10, 60, 114, 115, 118, 119, 122, 123, 126, 127, 128, 129, 130, 133, 134, 135, 138, 139, 140, 167, 168, 169, 172, 173, 174, 175, 176, 177, 178, 179, 180, 181, 182, 189, 190, 191, 192, 193, 196, 501229999] s (kq7_17 n m1)
noncomputable def xb7_19 (n : Nat × Nat) (m1 : Nat) : Nat → St → Option R7 := fun j s => bif Nat.beq j 3 then normC [2, 7, 10, 60, 114, 115, 118, 119, 122, 123, 126, 127, 128, 129, 130, 133, 134, 135, 138, 139, 140, 167, 168, 169, 172, 173, 174, 175, 176, 177, 178, 179, 180, 181, 182, 189, 190, 191, 192, 193, 196, 501229999] s (kq7_17 n m1) else (xb7_13 n) j s
noncomputable def xb7_21 (n : Nat × Nat) (m1 : Nat) : Nat → St → Option R7 := fun j s => bif Nat.beq j 4 then normC [2, 7, 10, 60, 114, 115, 118, 119, 122, 123, 126, 127, 128, 129, 130, 133, 134, 135, 138, 139, 140, 167, 168, 169, 172, 173, 174, 175, 176, 177, 178, 179, 180, 181, 182, 189, 190, 191, 192, 193, 196, 501229999] s (kc7_18 n m1) else (xb7_19 n m1) j s
noncomputable def F7_22 (n : Nat × Nat) (m1 : Nat) : (St → Option R7) → St → Option R7 := fun K s => run (E7 n) (cA (cA (cB (cB (cA (cA (cB (cB (cA (cA (cB (cA (cB (cB (cB (cB c7)))))))))))))))) (Ann.fst (Ann.fst (Ann.snd (Ann.snd (Ann.fst (Ann.fst (Ann.snd (Ann.snd (Ann.fst (Ann.fst (Ann.snd (Ann.unq (Ann.fst (Ann.snd (Ann.snd (Ann.snd (Ann.snd an7))))))))))))))))) (fun s => normC [2, 7, 10, 11, 60, 63, 64, 65, 114, 115, 118, 119, 122, 123, 126, 127, 128, 129, 130, 133, 134, 135, 138, 139, 140, 167, 168, 169, 172, 173, 174, 175, 176, 177, 178, 179, 180, 181, 182, 189, 190, 191, 192, 193, 196, 501229999] s K) (xb7_21 n m1) rt7 s
noncomputable def kq7_25 (n : Nat × Nat) : St → Option R7 := run (E7 n) (cB (cB (cB (cB (cB (cB (cB (cB (cB (cB (cB (cB (cB c7))))))))))))) (Ann.snd (Ann.snd (Ann.snd (Ann.snd (Ann.snd (Ann.snd (Ann.snd (Ann.snd (Ann.unq (Ann.snd (Ann.snd (Ann.snd (Ann.snd (Ann.snd an7)))))))))))))) rt7 (fun _ _ => none) rt7
noncomputable def xb7_27 (n : Nat × Nat) : Nat → St → Option R7 := fun j s => bif Nat.beq j 6 then normC [14, 15, 19, 23, 167, 168, 169, 172, 173, 174, 175, 176, 177, 178, 179, 180, 181, 182, 189, 190, 191, 192, 193, 196] s (kq7_25 n) else (fun _ _ => none) j s
noncomputable def F7_28 (n : Nat × Nat) : (St → Option R7) → St → Option R7 := fun K s => run (E7 n) (cA (cA (cB (cA (cB (cB (cB (cB (cB (cB (cB (cB (cB (cB (cB (cB c7)))))))))))))))) (Ann.fst (Ann.fst (Ann.snd (Ann.fst (Ann.snd (Ann.snd (Ann.snd (Ann.snd (Ann.snd (Ann.snd (Ann.snd (Ann.unq (Ann.snd (Ann.snd (Ann.snd (Ann.snd (Ann.snd an7))))))))))))))))) (fun s => normC [14, 15, 19, 23, 142, 143, 144, 167, 168, 169, 172, 173, 174, 175, 176, 177, 178, 179, 180, 181, 182, 189, 190, 191, 192, 193, 196] s K) (xb7_27 n) rt7 s
noncomputable def kq7_31 (n : Nat × Nat) (m1 m2 : Nat) : St → Option R7 := run (E7 n) (cB (cB (cB (cA (cA (cB (cB (cA (cA (cB (cB (cA (cA (cB (cA (cB (cB (cB (cB c7))))))))))))))))))) (Ann.snd (Ann.snd (Ann.snd (Ann.fst (Ann.fst (Ann.snd (Ann.snd (Ann.fst (Ann.fst (Ann.snd (Ann.snd (Ann.fst (Ann.fst (Ann.snd (Ann.unq (Ann.fst (Ann.snd (Ann.snd (Ann.snd (Ann.snd an7)))))))))))))))))))) (fun s => normC [2, 7, 10, 11, 60, 63, 64, 65, 114, 115, 118, 119, 122, 123, 126, 127, 128, 129, 130, 133, 134, 135, 138, 139, 140, 167, 168, 169, 172, 173, 174, 175, 176, 177, 178, 179, 180, 181, 182, 189, 190, 191, 192, 193, 196, 501229999] s (loopN (F7_22 n m1) m2)) (xb7_21 n m1) rt7
noncomputable def kq7_37 (n : Nat × Nat) (m1 : Nat) : St → Option R7 := run (E7 n) (cB (cB (cB (cA (cA (cB (cA (cB (cB (cB (cB (cB (cB (cB (cB (cB (cB (cB (cB c7))))))))))))))))))) (Ann.snd (Ann.snd (Ann.snd (Ann.fst (Ann.fst (Ann.snd (Ann.fst (Ann.snd (Ann.snd (Ann.snd (Ann.snd (Ann.snd (Ann.snd (Ann.snd (Ann.unq (Ann.snd (Ann.snd (Ann.snd (Ann.snd (Ann.snd an7)))))))))))))))))))) (fun s => normC [14, 15, 19, 23, 142, 143, 144, 167, 168, 169, 172, 173, 174, 175, 176, 177, 178, 179, 180, 181, 182, 189, 190, 191, 192, 193, 196] s (loopN (F7_28 n) m1)) (xb7_27 n) rt7
noncomputable def kq7_41 (n : Nat × Nat) : St → Option R7 := run (E7 n) (cB (cB (cB (cB (cB (cB (cB (cB (cB (cB (cB (cB (cB (cB (cB c7))))))))))))))) (Ann.snd (Ann.snd (Ann.snd (Ann.snd (Ann.snd (Ann.snd (Ann.snd (Ann.snd (Ann.snd (Ann.snd (Ann.unq (Ann.snd (Ann.snd (Ann.snd (Ann.snd (Ann.snd an7)))))))))))))))) rt7 (fun _ _ => none) rt7
noncomputable def xb7_43 (n : Nat × Nat) : Nat → St → Option R7 := fun j s => bif Nat.beq j 8 then normC [19, 23, 26, 189, 190, 191, 192, 193, 196] s (kq7_41 n) else (fun _ _ => none) j s
noncomputable def F7_44 (n : Nat × Nat) : (St → Option R7) → St → Option R7 := fun K s => run (E7 n) (cA (cA (cB (cA (cB (cB (cB (cB (cB (cB (cB (cB (cB (cB (cB (cB (cB (cB c7)))))))))))))))))) (Ann.fst (Ann.fst (Ann.snd (Ann.fst (Ann.snd (Ann.snd (Ann.snd (Ann.snd (Ann.snd (Ann.snd (Ann.snd (Ann.snd (Ann.snd (Ann.unq (Ann.snd (Ann.snd (Ann.snd (Ann.snd (Ann.snd an7))))))))))))))))))) (fun s => normC [14, 19, 23, 26, 157, 158, 159, 167, 168, 169, 172, 173, 174, 175, 176, 177, 178, 179, 180, 181, 182, 189, 190, 191, 192, 193, 196] s K) (xb7_43 n) rt7 s
noncomputable def L7_1 (n : Nat × Nat) (m : Nat) (sum2 : Int) (v41 : Int) (v42 : Int) (coins7 : List Int) (v40 : List Int) : Option R7 := loopN (F7_4 n) m { tm := [uu, uu, .c (.int .u8 sum2), uu, uu, uu, uu, .own 7 none false, uu, uu, uu, uu, uu, uu, uu, uu, uu, uu, uu, uu, uu, uu, uu, uu, uu, uu, uu, uu, uu, uu, uu, uu, uu, uu, uu, uu, uu, uu, uu, uu, .own 40 none false, .c (.int .i64 v41), .c (.int .i64 v42), uu, uu, uu, uu, uu, uu, uu, uu, uu, uu, uu, uu, uu, uu, uu, uu, uu, uu, uu, uu, uu, uu, uu, uu, uu, uu, uu, uu, uu, uu, uu, uu, uu, uu, uu, uu, uu, uu, uu, uu, uu, uu, uu, uu, uu, uu, uu, uu, uu, uu, uu, uu, uu, uu, uu, uu, uu, uu, uu, uu, uu, uu, uu, uu, uu, uu, uu, uu, uu, uu, uu, uu, uu, uu, uu, uu, uu, uu, uu, uu, uu, uu, uu, uu, uu, uu, uu, uu, uu, uu, uu, uu, uu, uu, uu, uu, uu, uu, uu, uu, uu, uu, uu, uu, uu, uu, uu, uu, uu, uu, uu, uu, uu, uu, uu, uu, uu, uu, uu, uu, uu, uu, uu, uu, uu, uu, uu, uu, uu, uu, uu, uu, uu, uu, uu, uu, uu, uu, uu, uu, uu, uu, uu, uu, uu, uu, uu, uu, uu, uu, uu, uu, uu, uu, uu], hp := (upd (upd emp 40 (.arr (.int .i64) v40 false)) 7 (.arr (.int .i64) coins7 false)) }
noncomputable def L7_2 (n : Nat × Nat) (m1 : Nat) (sum2 : Int) (v41 : Int) (v42 : Int) (coins7 : List Int) (v40 : List Int) : Option R7 := loopN (fun _ => (kq7_7 n m1)) n.2 { tm := [uu, uu, .c (.int .u8 sum2), uu, uu, uu, uu, .own 7 none false, uu, uu, uu, uu, uu, uu, uu, uu, uu, uu, uu, uu, uu, uu, uu, uu, uu, uu, uu, uu, uu, uu, uu, uu, uu, uu, uu, uu, uu, uu, uu, uu, .own 40 none false, .c (.int .i64 v41), .c (.int .i64 v42), uu, uu, uu, uu, uu, uu, uu, uu, uu, uu, uu, uu, uu, uu, uu, uu, uu, uu, uu, uu, uu, uu, uu, uu, uu, uu, uu, uu, uu, uu, uu, uu, uu, uu, uu, uu, uu, uu, uu, uu, uu, uu, uu, uu, uu, uu, uu, uu, uu, uu, uu, uu, uu, uu, uu, uu, uu, uu, uu, uu, uu, uu, uu, uu, uu, uu, uu, uu, uu, uu, uu, uu, uu, uu, uu, uu, uu, uu, uu, uu, uu, uu, uu, uu, uu, uu, uu, uu, uu, uu, uu, uu, uu, uu, uu, uu, uu, uu, uu, uu, uu, uu, uu, uu, uu, uu, uu, uu, uu, uu, uu, uu, uu, uu, uu, uu, uu, uu, uu, uu, uu, uu, uu, uu, uu, uu, uu, uu, uu, uu, uu, uu, uu, uu, uu, uu, uu, uu, uu, uu, uu, uu, uu, uu, uu, uu, uu, uu, uu, uu, uu, uu, uu, uu, uu], hp := (upd (upd emp 40 (.arr (.int .i64) v40 false)) 7 (.arr (.int .i64) coins7 false)) }
noncomputable def L7_3 (n : Nat × Nat) (m : Nat) (sum2 : Int) (v60 : Int) (coins7 : List Int) (b10_0 : Int) (v501229999 : List (Int × Int)) : Option R7 := loopN (F7_14 n) m { tm := [uu, uu, .c (.int .u8 sum2), uu, uu, uu, uu, .own 7 none false, uu, uu, .ptr 10 0, uu, uu, uu, uu, uu, uu, uu, uu, uu, uu, uu, uu, uu, uu, uu, uu, uu, uu, uu, uu, uu, uu, uu, uu, uu, uu, uu, uu, uu, uu, uu, uu, uu, uu, uu, uu, uu, uu, uu, uu, uu, uu, uu, uu, uu, uu, uu, uu, uu, .c (.int .i64 v60), uu, uu, uu, uu, uu, uu, uu, uu, uu, uu, uu, uu, uu, uu, uu, uu, uu, uu, uu, uu, uu, uu, uu, uu, uu, uu, uu, uu, uu, uu, uu, uu, uu, uu, uu, uu, uu, uu, uu, uu, uu, uu, uu, uu, uu, uu, uu, uu, uu, uu, uu, uu, uu, uu, uu, uu, uu, uu, uu, uu, uu, uu, uu, uu, uu, uu, uu, uu, uu, uu, uu, uu, uu, uu, uu, uu, uu, uu, uu, uu, uu, uu, uu, uu, uu, uu, uu, uu, uu, uu, uu, uu, uu, uu, uu, uu, uu, uu, uu, uu, uu, uu, uu, uu, uu, uu, uu, uu, uu, uu, uu, uu, uu, uu, uu, uu, uu, uu, uu, uu, uu, uu, uu, uu, uu, uu, uu, uu, uu, uu, uu, uu, uu, uu, uu, uu, uu], hp := (upd (upd (upd emp 501229999 (.arr (.pair (.int .i64) (.int .i64)) v501229999 false)) 10 (.box [.int .i64 b10_0, .osl])) 7 (.arr (.int .i64) coins7 false)) }
noncomputable def L7_4 (n : Nat × Nat) (m1 : Nat) (m : Nat) (sum2 : Int) (s11 : Int) (v60 : Int) (v64 : Int) (v65 : Int) (coins7 : List Int) (b10_0 : Int) (v501229999 : List (Int × Int)) : Option R7 := loopN (F7_22 n m1) m { tm := [uu, uu, .c (.int .u8 sum2), uu, uu, uu, uu, .own 7 none false, uu, uu, .ptr 10 0, .c (.int .i64 s11), uu, uu, uu, uu, uu, uu, uu, uu, uu, uu, uu, uu, uu, uu, uu, uu, uu, uu, uu, uu, uu, uu, uu, uu, uu, uu, uu, uu, uu, uu, uu, uu, uu, uu, uu, uu, uu, uu, uu, uu, uu, uu, uu, uu, uu, uu, uu, uu, .c (.int .i64 v60), uu, uu, .own 7 none false, .c (.int .i64 v64), .c (.int .i64 v65), uu, uu, uu, uu, uu, uu, uu, uu, uu, uu, uu, uu, uu, uu, uu, uu, uu, uu, uu, uu, uu, uu, uu, uu, uu, uu, uu, uu, uu, uu, uu, uu, uu, uu, uu, uu, uu, uu, uu, uu, uu, uu, uu, uu, uu, uu, uu, uu, uu, uu, uu, uu, uu, uu, uu, uu, uu, uu, uu, uu, uu, uu, uu, uu, uu, uu, uu, uu, uu, uu, uu, uu, uu, uu, uu, uu, uu, uu, uu, uu, uu, uu, uu, uu, uu, uu, uu, uu, uu, uu, uu, uu, uu, uu, uu, uu, uu, uu, uu, uu, uu, uu, uu, uu, uu, uu, uu, uu, uu, uu, uu, uu, uu, uu, uu, uu, uu, uu, uu, uu, uu, uu, uu, uu, uu, uu, uu, uu, uu, uu, uu, uu], hp := (upd (upd (upd emp 501229999 (.arr (.pair (.int .i64) (.int .i64)) v501229999 false)) 10 (.box [.int .i64 b10_0, .osl])) 7 (.arr (.int .i64) coins7 false)) }
noncomputable def L7_5 (n : Nat × Nat) (m : Nat) (s14 : Int) (v143 : Int) (v144 : Int) (way15 : List Int) (v19 : List (List Int)) (zero23 : List Int) (v142 : List Int) : Option R7 := loopN (F7_28 n) m { tm := [uu, uu, uu, uu, uu, uu, uu, uu, uu, uu, uu, uu, uu, uu, .c (.int .i64 s14), .own 15 none false, uu, uu, uu, .own 19 none false, uu, uu, uu, .own 23 none false, uu, uu, uu, uu, uu, uu, uu, uu, uu, uu, uu, uu, uu, uu, uu, uu, uu, uu, uu, uu, uu, uu, uu, uu, uu, uu, uu, uu, uu, uu, uu, uu, uu, uu, uu, uu, uu, uu, uu, uu, uu, uu, uu, uu, uu, uu, uu, uu, uu, uu, uu, uu, uu, uu, uu, uu, uu, uu, uu, uu, uu, uu, uu, uu, uu, uu, uu, uu, uu, uu, uu, uu, uu, uu, uu, uu, uu, uu, uu, uu, uu, uu, uu, uu, uu, uu, uu, uu, uu, uu, uu, uu, uu, uu, uu, uu, uu, uu, uu, uu, uu, uu, uu, uu, uu, uu, uu, uu, uu, uu, uu, uu, uu, uu, uu, uu, uu, uu, .own 142 none false, .c (.int .i64 v143), .c (.int .i64 v144), uu, uu, uu, uu, uu, uu, uu, uu, uu, uu, uu, uu, uu, uu, uu, uu, uu, uu, uu, uu, uu, uu, uu, uu, uu, uu, uu, uu, uu, uu, uu, uu, uu, uu, uu, uu, uu, uu, uu, uu, uu, uu, uu, uu, uu, uu, uu, uu, uu, uu, uu, uu, uu], hp := (upd (upd (upd (upd emp 142 (.arr (.int .i64) v142 false)) 23 (.arr (.int .i64) zero23 false)) 19 (.arr (.sl (.int .i64)) v19 false)) 15 (.arr (.int .i64) way15 false)) }
noncomputable def L7_6 (n : Nat × Nat) (m1 m2 : Nat) (sum2 : Int) (s11 : Int) (v60 : Int) (v64 : Int) (v65 : Int) (coins7 : List Int) (b10_0 : Int) (v501229999 : List (Int × Int)) : Option R7 := loopN (fun _ => (kq7_31 n m1 m2)) n.2 { tm := [uu, uu, .c (.int .u8 sum2), uu, uu, uu, uu, .own 7 none false, uu, uu, .ptr 10 0, .c (.int .i64 s11), uu, uu, uu, uu, uu, uu, uu, uu, uu, uu, uu, uu, uu, uu, uu, uu, uu, uu, uu, uu, uu, uu, uu, uu, uu, uu, uu, uu, uu, uu, uu, uu, uu, uu, uu, uu, uu, uu, uu, uu, uu, uu, uu, uu, uu, uu, uu, uu, .c (.int .i64 v60), uu, uu, .own 7 none false, .c (.int .i64 v64), .c (.int .i64 v65), uu, uu, uu, uu, uu, uu, uu, uu, uu, uu, uu, uu, uu, uu, uu, uu, uu, uu, uu, uu, uu, uu, uu, uu, uu, uu, uu, uu, uu, uu, uu, uu, uu, uu, uu, uu, uu, uu, uu, uu, uu, uu, uu, uu, uu, uu, uu, uu, uu, uu, uu, uu, uu, uu, uu, uu, uu, uu, uu, uu, uu, uu, uu, uu, uu, uu, uu, uu, uu, uu, uu, uu, uu, uu, uu, uu, uu, uu, uu, uu, uu, uu, uu, uu, uu, uu, uu, uu, uu, uu, uu, uu, uu, uu, uu, uu, uu, uu, uu, uu, uu, uu, uu, uu, uu, uu, uu, uu, uu, uu, uu, uu, uu, uu, uu, uu, uu, uu, uu, uu, uu, uu, uu, uu, uu, uu, uu, uu, uu, uu, uu, uu], hp := (upd (upd (upd emp 501229999 (.arr (.pair (.int .i64) (.int .i64)) v501229999 false)) 10 (.box [.int .i64 b10_0, .osl])) 7 (.arr (.int .i64) coins7 false)) }
noncomputable def L7_7 (n : Nat × Nat) (m1 : Nat) (s14 : Int) (v143 : Int) (v144 : Int) (way15 : List Int) (v19 : List (List Int)) (zero23 : List Int) (v142 : List Int) : Option R7 := loopN (fun _ => (kq7_37 n m1)) n.2 { tm := [uu, uu, uu, uu, uu, uu, uu, uu, uu, uu, uu, uu, uu, uu, .c (.int .i64 s14), .own 15 none false, uu, uu, uu, .own 19 none false, uu, uu, uu, .own 23 none false, uu, uu, uu, uu, uu, uu, uu, uu, uu, uu, uu, uu, uu, uu, uu, uu, uu, uu, uu, uu, uu, uu, uu, uu, uu, uu, uu, uu, uu, uu, uu, uu, uu, uu, uu, uu, uu, uu, uu, uu, uu, uu, uu, uu, uu, uu, uu, uu, uu, uu, uu, uu, uu, uu, uu, uu, uu, uu, uu, uu, uu, uu, uu, uu, uu, uu, uu, uu, uu, uu, uu, uu, uu, uu, uu, uu, uu, uu, uu, uu, uu, uu, uu, uu, uu, uu, uu, uu, uu, uu, uu, uu, uu, uu, uu, uu, uu, uu, uu, uu, uu, uu, uu, uu, uu, uu, uu, uu, uu, uu, uu, uu, uu, uu, uu, uu, uu, uu, .own 142 none false, .c (.int .i64 v143), .c (.int .i64 v144), uu, uu, uu, uu, uu, uu, uu, uu, uu, uu, uu, uu, uu, uu, uu, uu, uu, uu, uu, uu, uu, uu, uu, uu, uu, uu, uu, uu, uu, uu, uu, uu, uu, uu, uu, uu, uu, uu, uu, uu, uu, uu, uu, uu, uu, uu, uu, uu, uu, uu, uu, uu, uu], hp := (upd (upd (upd (upd emp 142 (.arr (.int .i64) v142 false)) 23 (.arr (.int .i64) zero23 false)) 19 (.arr (.sl (.int .i64)) v19 false)) 15 (.arr (.int .i64) way15 false)) }
noncomputable def L7_8 (n : Nat × Nat) (m : Nat) (s14 : Int) (left26 : Int) (v158 : Int) (v159 : Int) (v19 : List (List Int)) (zero23 : List Int) (v157 : List Int) : Option R7 := loopN (F7_44 n) m { tm := [uu, uu, uu, uu, uu, uu, uu, uu, uu, uu, uu, uu, uu, uu, .c (.int .i64 s14), uu, uu, uu, uu, .own 19 none false, uu, uu, uu, .own 23 none false, uu, uu, .c (.int .i64 left26), uu, uu, uu, uu, uu, uu, uu, uu, uu, uu, uu, uu, uu, uu, uu, uu, uu, uu, uu, uu, uu, uu, uu, uu, uu, uu, uu, uu, uu, uu, uu, uu, uu, uu, uu, uu, uu, uu, uu, uu, uu, uu, uu, uu, uu, uu, uu, uu, uu, uu, uu, uu, uu, uu, uu, uu, uu, uu, uu, uu, uu, uu, uu, uu, uu, uu, uu, uu, uu, uu, uu, uu, uu, uu, uu, uu, uu, uu, uu, uu, uu, uu, uu, uu, uu, uu, uu, uu, uu, uu, uu, uu, uu, uu, uu, uu, uu, uu, uu, uu, uu, uu, uu, uu, uu, uu, uu, uu, uu, uu, uu, uu, uu, uu, uu, uu, uu, uu, uu, uu, uu, uu, uu, uu, uu, uu, uu, uu, uu, uu, .own 157 none false, .c (.int .i64 v158), .c (.int .i64 v159), uu, uu, uu, uu, uu, uu, uu, uu, uu, uu, uu, uu, uu, uu, uu, uu, uu, uu, uu, uu, uu, uu, uu, uu, uu, uu, uu, uu, uu, uu, uu, uu, uu, uu, uu, uu, uu, uu], hp := (upd (upd (upd emp 157 (.arr (.int .i64) v157 false)) 23 (.arr (.int .i64) zero23 false)) 19 (.arr (.sl (.int .i64)) v19 false)) }
theorem L7_1_eq (n : Nat × Nat) (m1 : Nat) (sum2 : Int) (v41 : Int) (v42 : Int) (coins7 : List Int) (v40 : List Int) : L7_1 n (m1 + 1) sum2 v41 v42 coins7 v40 =
 (bif decide (v42 < v41) then (bif inB v42 v40.length then (idx v40 v42).bind fun x1' =>
 (bif inB (wr .i64 ((coins7.length : Int) - 1)) coins7.length then (idx coins7 (wr .i64 ((coins7.length : Int) - 1))).bind fun x2' =>
 (bif decide (x1' > x2') then (bif decide (coins7.length + [x1'].length ≤ lim) then L7_2 n m1 sum2 v41 v42 (coins7 ++ [x1']) v40
 else none)
 else L7_2 n m1 sum2 v41 v42 coins7 v40)
 else none)
 else none)
 else L7_3 n n.1 sum2 0 coins7 7 []) := by kernel_rfl
theorem L7_2_raw (n : Nat × Nat) (m1 : Nat) (sum2 : Int) (v41 : Int) (v42 : Int) (coins7 : List Int) (v40 : List Int) : (kq7_7 n m1) { tm := [uu, uu, .c (.int .u8 sum2), uu, uu, uu, uu, .own 7 none false, uu, uu, uu, uu, uu, uu, uu, uu, uu, uu, uu, uu, uu, uu, uu, uu, uu, uu, uu, uu, uu, uu, uu, uu, uu, uu, uu, uu, uu, uu, uu, uu, .own 40 none false, .c (.int .i64 v41), .c (.int .i64 v42), uu, uu, uu, uu, uu, uu, uu, uu, uu, uu, uu, uu, uu, uu, uu, uu, uu, uu, uu, uu, uu, uu, uu, uu, uu, uu, uu, uu, uu, uu, uu, uu, uu, uu, uu, uu, uu, uu, uu, uu, uu, uu, uu, uu, uu, uu, uu, uu, uu, uu, uu, uu, uu, uu, uu, uu, uu, uu, uu, uu, uu, uu, uu, uu, uu, uu, uu, uu, uu, uu, uu, uu, uu, uu, uu, uu, uu, uu, uu, uu, uu, uu, uu, uu, uu, uu, uu, uu, uu, uu, uu, uu, uu, uu, uu, uu, uu, uu, uu, uu, uu, uu, uu, uu, uu, uu, uu, uu, uu, uu, uu, uu, uu, uu, uu, uu, uu, uu, uu, uu, uu, uu, uu, uu, uu, uu, uu, uu, uu, uu, uu, uu, uu, uu, uu, uu, uu, uu, uu, uu, uu, uu, uu, uu, uu, uu, uu, uu, uu, uu, uu, uu, uu, uu, uu], hp := (upd (upd emp 40 (.arr (.int .i64) v40 false)) 7 (.arr (.int .i64) coins7 false)) } =
    L7_1 n m1 sum2 v41 (wr .i64 (v42 + 1)) coins7 v40 := by kernel_rfl
theorem L7_3_eq (n : Nat × Nat) (m1 : Nat) (sum2 : Int) (v60 : Int) (coins7 : List Int) (b10_0 : Int) (v501229999 : List (Int × Int)) : L7_3 n (m1 + 1) sum2 v60 coins7 b10_0 v501229999 =
 (bif decide (v60 < 7) then L7_4 n m1 n.1 sum2 v60 v60 (coins7.length : Int) 0 coins7 b10_0 v501229999
 else (bif 7 == 0 then none
 else (S15 n (b10_0, v501229999) [0] (Int.tmod (wr .i64 sum2) 7)).bind fun r3' =>
 (S29 n coins7 (Int.tmod (wr .i64 sum2) 7)).bind fun r4' =>
 (S11 n (b10_0, v501229999)).bind fun r5' =>
 (S13 n (b10_0, v501229999)).bind fun r6' =>
 ((bif ((r3'.2 != 0) == false) then some (r4'.2 != 0)
 else some true)).bind fun b7' =>
 ((bif (b7' == false) then some (r5'.2 != 0)
 else some true)).bind fun b8' =>
 ((bif (b8' == false) then some (r6'.2 != 0)
 else some true)).bind fun b9' =>
 ((bif (b9' == false) then some ((r3'.1.length : Int) != (wr .i64 (r4'.1 + 1)))
 else some true)).bind fun b10' =>
 ((bif (b10' == false) then some ((r5'.1.length : Int) != 1)
 else some true)).bind fun b11' =>
 ((bif (b11' == false) then some ((r6'.1.length : Int) != 7)
 else some true)).bind fun b12' =>
 (bif b12' then some false
 else L7_5 n n.1 (Int.tmod (wr .i64 sum2) 7) (r6'.1.length : Int) 0 r3'.1 r5'.1 [] r6'.1))) := by kernel_rfl
theorem L7_4_eq (n : Nat × Nat) (m1 m2 : Nat) (sum2 : Int) (s11 : Int) (v60 : Int) (v64 : Int) (v65 : Int) (coins7 : List Int) (b10_0 : Int) (v501229999 : List (Int × Int)) : L7_4 n m1 (m2 + 1) sum2 s11 v60 v64 v65 coins7 b10_0 v501229999 =
 (bif decide (v65 < v64) then (bif inB v65 coins7.length then (idx coins7 v65).bind fun x13' =>
 (bif decide (x13' ≤ s11) then (bif decide (v501229999.length + [(s11, wr .i64 (s11 - x13'))].length ≤ lim) then L7_6 n m1 m2 sum2 s11 v60 v64 v65 coins7 b10_0 (v501229999 ++ [(s11, wr .i64 (s11 - x13'))])
 else none)
 else L7_6 n m1 m2 sum2 s11 v60 v64 v65 coins7 b10_0 v501229999)
 else none)
 else L7_3 n m1 sum2 (wr .i64 (v60 + 1)) coins7 b10_0 v501229999) := by kernel_rfl
theorem L7_5_eq (n : Nat × Nat) (m1 : Nat) (s14 : Int) (v143 : Int) (v144 : Int) (way15 : List Int) (v19 : List (List Int)) (zero23 : List Int) (v142 : List Int) : L7_5 n (m1 + 1) s14 v143 v144 way15 v19 zero23 v142 =
 (bif decide (v144 < v143) then (bif inB v144 v142.length then (idx v142 v144).bind fun x14' =>
 (bif (x14' == 0) then (bif decide (zero23.length + [v144].length ≤ lim) then L7_7 n m1 s14 v143 v144 way15 v19 (zero23 ++ [v144]) v142
 else none)
 else L7_7 n m1 s14 v143 v144 way15 v19 zero23 v142)
 else none)
 else L7_8 n n.1 s14 s14 (way15.length : Int) 0 v19 zero23 way15) := by kernel_rfl
theorem L7_6_raw (n : Nat × Nat) (m1 m2 : Nat) (sum2 : Int) (s11 : Int) (v60 : Int) (v64 : Int) (v65 : Int) (coins7 : List Int) (b10_0 : Int) (v501229999 : List (Int × Int)) : (kq7_31 n m1 m2) { tm := [uu, uu, .c (.int .u8 sum2), uu, uu, uu, uu, .own 7 none false, uu, uu, .ptr 10 0, .c (.int .i64 s11), uu, uu, uu, uu, uu, uu, uu, uu, uu, uu, uu, uu, uu, uu, uu, uu, uu, uu, uu, uu, uu, uu, uu, uu, uu, uu, uu, uu, uu, uu, uu, uu, uu, uu, uu, uu, uu, uu, uu, uu, uu, uu, uu, uu, uu, uu, uu, uu, .c (.int .i64 v60), uu, uu, .own 7 none false, .c (.int .i64 v64), .c (.int .i64 v65), uu, uu, uu, uu, uu, uu, uu, uu, uu, uu, uu, uu, uu, uu, uu, uu, uu, uu, uu, uu, uu, uu, uu, uu, uu, uu, uu, uu, uu, uu, uu, uu, uu, uu, uu, uu, uu, uu, uu, uu, uu, uu, uu, uu, uu, uu, uu, uu, uu, uu, uu, uu, uu, uu, uu, uu, uu, uu, uu, uu, uu, uu, uu, uu, uu, uu, uu, uu, uu, uu, uu, uu, uu, uu, uu, uu, uu, uu, uu, uu, uu, uu, uu, uu, uu, uu, uu, uu, uu, uu, uu, uu, uu, uu, uu, uu, uu, uu, uu, uu, uu, uu, uu, uu, uu, uu, uu, uu, uu, uu, uu, uu, uu, uu, uu, uu, uu, uu, uu, uu, uu, uu, uu, uu, uu, uu, uu, uu, uu, uu, uu, uu], hp := (upd (upd (upd emp 501229999 (.arr (.pair (.int .i64) (.int .i64)) v501229999 false)) 10 (.box [.int .i64 b10_0, .osl])) 7 (.arr (.int .i64) coins7 false)) } =
    L7_4 n m1 m2 sum2 s11 v60 v64 (wr .i64 (v65 + 1)) coins7 b10_0 v501229999 := by kernel_rfl
theorem L7_7_raw (n : Nat × Nat) (m1 : Nat) (s14 : Int) (v143 : Int) (v144 : Int) (way15 : List Int) (v19 : List (List Int)) (zero23 : List Int) (v142 : List Int) : (kq7_37 n m1) { tm := [uu, uu, uu, uu, uu, uu, uu, uu, uu, uu, uu, uu, uu, uu, .c (.int .i64 s14), .own 15 none false, uu, uu, uu, .own 19 none false, uu, uu, uu, .own 23 none false, uu, uu, uu, uu, uu, uu, uu, uu, uu, uu, uu, uu, uu, uu, uu, uu, uu, uu, uu, uu, uu, uu, uu, uu, uu, uu, uu, uu, uu, uu, uu, uu, uu, uu, uu, uu, uu, uu, uu, uu, uu, uu, uu, uu, uu, uu, uu, uu, uu, uu, uu, uu, uu, uu, uu, uu, uu, uu, uu, uu, uu, uu, uu, uu, uu, uu, uu, uu, uu, uu, uu, uu, uu, uu, uu, uu, uu, uu, uu, uu, uu, uu, uu, uu, uu, uu, uu, uu, uu, uu, uu, uu, uu, uu, uu, uu, uu, uu, uu, uu, uu, uu, uu, uu, uu, uu, uu, uu, uu, uu, uu, uu, uu, uu, uu, uu, uu, uu, .own 142 none false, .c (.int .i64 v143), .c (.int .i64 v144), uu, uu, uu, uu, uu, uu, uu, uu, uu, uu, uu, uu, uu, uu, uu, uu, uu, uu, uu, uu, uu, uu, uu, uu, uu, uu, uu, uu, uu, uu, uu, uu, uu, uu, uu, uu, uu, uu, uu, uu, uu, uu, uu, uu, uu, uu, uu, uu, uu, uu, uu, uu, uu], hp := (upd (upd (upd (upd emp 142 (.arr (.int .i64) v142 false)) 23 (.arr (.int .i64) zero23 false)) 19 (.arr (.sl (.int .i64)) v19 false)) 15 (.arr (.int .i64) way15 false)) } =
    L7_5 n m1 s14 v143 (wr .i64 (v144 + 1)) way15 v19 zero23 v142 := by kernel_rfl
theorem L7_8_eq (n : Nat × Nat) (m1 : Nat) (s14 : Int) (left26 : Int) (v158 : Int) (v159 : Int) (v19 : List (List Int)) (zero23 : List Int) (v157 : List Int) : L7_8 n (m1 + 1) s14 left26 v158 v159 v19 zero23 v157 =
 (bif decide (v159 < v158) then (bif inB v159 v157.length then (idx v157 v159).bind fun x15' =>
 ((bif ((v159 == 0) == true) then some (x15' != s14)
 else some false)).bind fun b16' =>
 ((bif (b16' == false) then ((bif (decide (v159 > 0) == true) then ((bif (decide (x15' < 0) == false) then some (decide (x15' ≥ left26))
 else some true)).bind fun b17' =>
 some b17'
 else some false)).bind fun b18' =>
 some b18'
 else some true)).bind fun b19' =>
 (bif b19' then some false
 else L7_8 n m1 s14 x15' v158 (wr .i64 (v159 + 1)) v19 zero23 v157)
 else none)
 else ((bif ((left26 == 0) == true) then (bif inB 0 v19.length then (idx v19 0).bind fun x20' =>
 (S14 n x20' zero23).bind fun r21' =>
 some r21'
 else none)
 else some false)).bind fun b22' =>
 ((bif (b22' == true) then (S25 n).bind fun r23' =>
 some r23'
 else some false)).bind fun b24' =>
 some b24') := by kernel_rfl
noncomputable def S7 (n : Nat × Nat) (one0 : Int) (two1 : Int) (sum2 : Int) : Option R7 := run (E7 n) c7 an7 rt7 (fun _ _ => none) rt7 { tm := [.c (.int .u8 one0), .c (.int .u8 two1), .c (.int .u8 sum2), uu, uu, uu, uu, uu, uu, uu, uu, uu, uu, uu, uu, uu, uu, uu, uu, uu, uu, uu, uu, uu, uu, uu, uu, uu, uu, uu, uu, uu, uu, uu, uu, uu, uu, uu, uu, uu, uu, uu, uu, uu, uu, uu, uu, uu, uu, uu, uu, uu, uu, uu, uu, uu, uu, uu, uu, uu, uu, uu, uu, uu, uu, uu, uu, uu, uu, uu, uu, uu, uu, uu, uu, uu, uu, uu, uu, uu, uu, uu, uu, uu, uu, uu, uu, uu, uu, uu, uu, uu, uu, uu, uu, uu, uu, uu, uu, uu, uu, uu, uu, uu, uu, uu, uu, uu, uu, uu, uu, uu, uu, uu, uu, uu, uu, uu, uu, uu, uu, uu, uu, uu, uu, uu, uu, uu, uu, uu, uu, uu, uu, uu, uu, uu, uu, uu, uu, uu, uu, uu, uu, uu, uu, uu, uu, uu, uu, uu, uu, uu, uu, uu, uu, uu, uu, uu, uu, uu, uu, uu, uu, uu, uu, uu, uu, uu, uu, uu, uu, uu, uu, uu, uu, uu, uu, uu, uu, uu, uu, uu, uu, uu, uu, uu, uu, uu, uu, uu, uu, uu, uu, uu, uu, uu, uu, uu], hp := emp }
theorem S7_eq (n : Nat × Nat) (one0 : Int) (two1 : Int) (sum2 : Int) : S7 n one0 two1 sum2 =
 (bif 5 == 0 then none
 else (bif 5 == 0 then none
 else L7_1 n n.1 sum2 ([wr .i64 (2 + (Int.tmod (wr .i64 one0) 5)), wr .i64 (2 + (Int.tmod (wr .i64 two1) 5))].length : Int) 0 [1] [wr .i64 (2 + (Int.tmod (wr .i64 one0) 5)), wr .i64 (2 + (Int.tmod (wr .i64 two1) 5))])) := by kernel_rfl
theorem S7_run (n : Nat × Nat) (xs : pksDen pk7) : S7 n xs.1 xs.2.1 xs.2.2.1 = runG (E7 n) noScope c7 an7 (rtG rk7) (fun _ _ => none) (rtG rk7) (st0 pk7 xs Tryd.f7.ntmps) := by kernel_rfl
noncomputable def P7 (n : Nat × Nat) := phiOf pk7 rk7 (fun xs => S7 n xs.1 xs.2.1 xs.2.2.1)
theorem env7 (n : Nat × Nat) : EnvOK Tryd.prog (E7 n) := envOK0 (consPhi_ok (FC11 n) call11 (consPhi_ok (FC13 n) call13 (consPhi_ok (FC14 n) call14 (consPhi_ok (FC15 n) call15 (consPhi_ok (FC25 n) call25 (consPhi_ok (FC29 n) call29 noPhi_ok)))))) rfl rfl
theorem par7 (n : Nat × Nat) : EnvPar (E7 n) := envPar0 (consPhi_par phiOf_Par1 (consPhi_par phiOf_Par1 (consPhi_par phiOf_Par1 (consPhi_par phiOf_Par1 (consPhi_par phiOf_Par1 (consPhi_par phiOf_Par1 noPhi_par)))))) rfl
theorem FC7 (n : Nat × Nat) : FCs Tryd.prog 7 (P7 n) := phiOf_FCs fun xs r h vs hv => FC.of_runG tabOK eqsOK (env7 n) (par7 n) mixed (fun _ p _ => noScope_ok p.1 p.2) Tryd.func7 (c := c7) (an := an7) (pks := pk7) (rks := rk7) (by kernel_rfl) (by kernel_rfl) hv ((S7_run n xs).symm.trans h)
/-D 14 -/
noncomputable def DF14_1 (n : Nat × Nat) (f1 : List Int → List Int → Int → Int → Option R14) (a0 : List Int) (b1 : List Int) (v12 : Int) (v13 : Int) : Option R14 :=
 (bif decide (v13 < v12) then (idx a0 v13).bind fun x1' =>
 (idx b1 v13).bind fun x2' =>
 (bif (x1' != x2') then some false
 else f1 a0 b1 v12 (wr .i64 (v13 + 1)))
 else some true)
noncomputable def DL14_1 (n : Nat × Nat) (m : Nat) : List Int → List Int → Int → Int → Option R14 := Nat.rec (motive := fun _ => List Int → List Int → Int → Int → Option R14) (fun _ _ _ _ => none) (fun _ ih => DF14_1 n ih) m
theorem DL14_1_succ (n : Nat × Nat) (m : Nat) : DL14_1 n (m + 1) = DF14_1 n (DL14_1 n m) := rfl
theorem DL14_1_eq (n : Nat × Nat) (hn : n.2 = 1) : ∀ m, L14_1 n m = DL14_1 n m
  | 0 => by funext a0 b1 v12 v13; kernel_rfl
  | m + 1 => by
    have ih := DL14_1_eq n hn m
    funext a0 b1 v12 v13; refine (L14_1_eq n m a0 b1 v12 v13).trans ?_
    rw [DL14_1_succ]
    unfold DF14_1
    (try simp only [ih]) <;> first | with_reducible rfl | rfl
noncomputable def D14 (n : Nat × Nat) (a0 : List Int) (b1 : List Int) : Option R14 :=
 (bif ((a0.length : Int) != (b1.length : Int)) then some false
 else DL14_1 n n.1 a0 b1 (a0.length : Int) 0)
theorem S14_D (n : Nat × Nat) (hn : n.2 = 1) : S14 n = D14 n := by
  funext a0 b1; refine (S14_eq n a0 b1).trans ?_
  unfold D14
  (try simp only [DL14_1_eq n hn]) <;> first | with_reducible rfl | rfl
/-D 117 -/
noncomputable def DF117_1 (n : Nat × Nat) (f1 : (List (Int × Int)) → Int → Int → Int → Int → Option R117) (s0 : List (Int × Int)) (v7 : Int) (v8 : Int) (v3_0 : Int) (v3_1 : Int) : Option R117 :=
 (bif decide (v8 < v7) then (idx s0 v8).bind fun x1' =>
 (bif ((v3_0 == x1'.1) && ((v3_1 == x1'.2) && true)) then some v8
 else f1 s0 v7 (wr .i64 (v8 + 1)) v3_0 v3_1)
 else some (-1))
noncomputable def DL117_1 (n : Nat × Nat) (m : Nat) : (List (Int × Int)) → Int → Int → Int → Int → Option R117 := Nat.rec (motive := fun _ => (List (Int × Int)) → Int → Int → Int → Int → Option R117) (fun _ _ _ _ _ => none) (fun _ ih => DF117_1 n ih) m
theorem DL117_1_succ (n : Nat × Nat) (m : Nat) : DL117_1 n (m + 1) = DF117_1 n (DL117_1 n m) := rfl
theorem DL117_1_eq (n : Nat × Nat) (hn : n.2 = 1) : ∀ m, L117_1 n m = DL117_1 n m
  | 0 => by funext s0 v7 v8 v3_0 v3_1; kernel_rfl
  | m + 1 => by
    have ih := DL117_1_eq n hn m
    funext s0 v7 v8 v3_0 v3_1; refine (L117_1_eq n m s0 v7 v8 v3_0 v3_1).trans ?_
    rw [DL117_1_succ]
    unfold DF117_1
    (try simp only [ih]) <;> first | with_reducible rfl | rfl
noncomputable def D117 (n : Nat × Nat) (s0 : List (Int × Int)) (v1 : Int × Int) : Option R117 :=
    DL117_1 n n.1 s0 (s0.length : Int) 0 v1.1 v1.2
theorem S117_D (n : Nat × Nat) (hn : n.2 = 1) : S117 n = D117 n := by
  funext s0 v1; refine (S117_eq n s0 v1).trans ?_
  unfold D117
  (try simp only [DL117_1_eq n hn]) <;> first | with_reducible rfl | rfl
/-D 90 -/
noncomputable def D90 (n : Nat × Nat) (s0 : List (Int × Int)) (v1 : Int × Int) : Option R90 :=
 (D117 n s0 v1).bind fun r1' =>
 some (decide (r1' ≥ 0))
theorem S90_D (n : Nat × Nat) (hn : n.2 = 1) : S90 n = D90 n := by
  funext s0 v1; refine (S90_eq n s0 v1).trans ?_
  unfold D90
  (try simp only [S117_D n hn]) <;> first | with_reducible rfl | rfl
/-D 66 -/
noncomputable def DF66_1 (n : Nat × Nat) (f1 : (List (Int × Int)) → Int → Int → Int → (List (Int × Int)) → Option R66) (v20 : List (Int × Int)) (v21 : Int) (v22 : Int) (b1_0 : Int) (b1_1 : List (Int × Int)) : Option R66 :=
 (bif decide (v22 < v21) then (idx v20 v22).bind fun x2' =>
 (bif inB 0 2 then (idx [x2'.1, x2'.2] 0).bind fun x3' =>
 (bif inB 1 2 then (idx [x2'.1, x2'.2] 1).bind fun x4' =>
 ((bif (decide ((if x4' < x3' then x4' else x3') < 0) == false) then (bif inB 0 2 then (idx [x2'.1, x2'.2] 0).bind fun x5' =>
 (bif inB 1 2 then (idx [x2'.1, x2'.2] 1).bind fun x6' =>
 some (decide ((if x6' > x5' then x6' else x5') ≥ b1_0))
 else none)
 else none)
 else some true)).bind fun b7' =>
 (bif b7' then some 2
 else (bif inB 0 2 then (idx [x2'.1, x2'.2] 0).bind fun x8' =>
 (bif inB 1 2 then (idx [x2'.1, x2'.2] 1).bind fun x9' =>
 (bif (x8' == x9') then some 5
 else (bif bounds none (some v22) none b1_1.length then (D90 n (b1_1.take (Int.toNat v22)) x2').bind fun r10' =>
 (bif r10' then some 6
 else f1 v20 v21 (wr .i64 (v22 + 1)) b1_0 b1_1)
 else none))
 else none)
 else none))
 else none)
 else none)
 else some 0)
noncomputable def DL66_1 (n : Nat × Nat) (m : Nat) : (List (Int × Int)) → Int → Int → Int → (List (Int × Int)) → Option R66 := Nat.rec (motive := fun _ => (List (Int × Int)) → Int → Int → Int → (List (Int × Int)) → Option R66) (fun _ _ _ _ _ => none) (fun _ ih => DF66_1 n ih) m
theorem DL66_1_succ (n : Nat × Nat) (m : Nat) : DL66_1 n (m + 1) = DF66_1 n (DL66_1 n m) := rfl
theorem DL66_1_eq (n : Nat × Nat) (hn : n.2 = 1) : ∀ m, L66_1 n m = DL66_1 n m
  | 0 => by funext v20 v21 v22 b1_0 b1_1; kernel_rfl
  | m + 1 => by
    have ih := DL66_1_eq n hn m
    funext v20 v21 v22 b1_0 b1_1; refine (L66_1_eq n m v20 v21 v22 b1_0 b1_1).trans ?_
    rw [DL66_1_succ]
    unfold DF66_1
    (try simp only [ih, S90_D n hn]) <;> first | with_reducible rfl | rfl
noncomputable def D66 (n : Nat × Nat) (b0 : Int × List (Int × Int)) : Option R66 :=
 ((bif (decide (b0.1 < 1) == false) then some (decide (b0.1 > 7))
 else some true)).bind fun b1' =>
 (bif b1' then some 1
 else (bif decide ((b0.2.length : Int) > 16) then some 3
 else DL66_1 n n.1 b0.2 (b0.2.length : Int) 0 b0.1 b0.2))
theorem S66_D (n : Nat × Nat) (hn : n.2 = 1) : S66 n = D66 n := by
  funext b0; refine (S66_eq n b0).trans ?_
  unfold D66
  (try simp only [DL66_1_eq n hn, S90_D n hn]) <;> first | with_reducible rfl | rfl
/-D 33 -/
noncomputable def DF33_1 (n : Nat × Nat) (f1 : (List (Int × Int)) → Int → Int → Int → Int → Int → Int → Int → Int → Int → Int → Int → Int → Int → Int → Int → Int → Int → Int → Option R33) (v18 : List (Int × Int)) (v19 : Int) (v20 : Int) (v2_0 : Int) (v2_1 : Int) (v2_2 : Int) (v2_3 : Int) (v2_4 : Int) (v2_5 : Int) (v2_6 : Int) (v2_7 : Int) (w4_0 : Int) (w4_1 : Int) (w4_2 : Int) (w4_3 : Int) (w4_4 : Int) (w4_5 : Int) (w4_6 : Int) (w4_7 : Int) : Option R33 :=
 (bif decide (v20 < v19) then (idx v18 v20).bind fun x2' =>
 (bif inB 0 2 then (idx [x2'.1, x2'.2] 0).bind fun x3' =>
 (bif inB x3' 7 then (idx [w4_1, w4_2, w4_3, w4_4, w4_5, w4_6, w4_7] x3').bind fun x4' =>
 (bif inB 1 2 then (idx [x2'.1, x2'.2] 1).bind fun x5' =>
 (bif decide (x5' < 0) then none
 else (bif inB x3' 7 then f1 v18 v19 (wr .i64 (v20 + 1)) v2_0 v2_1 v2_2 v2_3 v2_4 v2_5 v2_6 v2_7 w4_0 (bif (x3' == 0) then wr .u64 (BitVec.ofInt (IntKind.bits .u64) x4' ||| BitVec.ofInt (IntKind.bits .u64) (wr .u64 (1 * 2 ^ (min (Int.toNat x5') (IntKind.bits .u64))))).toNat else w4_1) (bif (x3' == 1) then wr .u64 (BitVec.ofInt (IntKind.bits .u64) x4' ||| BitVec.ofInt (IntKind.bits .u64) (wr .u64 (1 * 2 ^ (min (Int.toNat x5') (IntKind.bits .u64))))).toNat else w4_2) (bif (x3' == 2) then wr .u64 (BitVec.ofInt (IntKind.bits .u64) x4' ||| BitVec.ofInt (IntKind.bits .u64) (wr .u64 (1 * 2 ^ (min (Int.toNat x5') (IntKind.bits .u64))))).toNat else w4_3) (bif (x3' == 3) then wr .u64 (BitVec.ofInt (IntKind.bits .u64) x4' ||| BitVec.ofInt (IntKind.bits .u64) (wr .u64 (1 * 2 ^ (min (Int.toNat x5') (IntKind.bits .u64))))).toNat else w4_4) (bif (x3' == 4) then wr .u64 (BitVec.ofInt (IntKind.bits .u64) x4' ||| BitVec.ofInt (IntKind.bits .u64) (wr .u64 (1 * 2 ^ (min (Int.toNat x5') (IntKind.bits .u64))))).toNat else w4_5) (bif (x3' == 5) then wr .u64 (BitVec.ofInt (IntKind.bits .u64) x4' ||| BitVec.ofInt (IntKind.bits .u64) (wr .u64 (1 * 2 ^ (min (Int.toNat x5') (IntKind.bits .u64))))).toNat else w4_6) (bif (x3' == 6) then wr .u64 (BitVec.ofInt (IntKind.bits .u64) x4' ||| BitVec.ofInt (IntKind.bits .u64) (wr .u64 (1 * 2 ^ (min (Int.toNat x5') (IntKind.bits .u64))))).toNat else w4_7)
 else none))
 else none)
 else none)
 else none)
 else some ((w4_0, w4_1, w4_2, w4_3, w4_4, w4_5, w4_6, w4_7), 0))
noncomputable def DL33_1 (n : Nat × Nat) (m : Nat) : (List (Int × Int)) → Int → Int → Int → Int → Int → Int → Int → Int → Int → Int → Int → Int → Int → Int → Int → Int → Int → Int → Option R33 := Nat.rec (motive := fun _ => (List (Int × Int)) → Int → Int → Int → Int → Int → Int → Int → Int → Int → Int → Int → Int → Int → Int → Int → Int → Int → Int → Option R33) (fun _ _ _ _ _ _ _ _ _ _ _ _ _ _ _ _ _ _ _ => none) (fun _ ih => DF33_1 n ih) m
theorem DL33_1_succ (n : Nat × Nat) (m : Nat) : DL33_1 n (m + 1) = DF33_1 n (DL33_1 n m) := rfl
theorem DL33_1_eq (n : Nat × Nat) (hn : n.2 = 1) : ∀ m, L33_1 n m = DL33_1 n m
  | 0 => by funext v18 v19 v20 v2_0 v2_1 v2_2 v2_3 v2_4 v2_5 v2_6 v2_7 w4_0 w4_1 w4_2 w4_3 w4_4 w4_5 w4_6 w4_7; kernel_rfl
  | m + 1 => by
    have ih := DL33_1_eq n hn m
    funext v18 v19 v20 v2_0 v2_1 v2_2 v2_3 v2_4 v2_5 v2_6 v2_7 w4_0 w4_1 w4_2 w4_3 w4_4 w4_5 w4_6 w4_7; refine (L33_1_eq n m v18 v19 v20 v2_0 v2_1 v2_2 v2_3 v2_4 v2_5 v2_6 v2_7 w4_0 w4_1 w4_2 w4_3 w4_4 w4_5 w4_6 w4_7).trans ?_
    rw [DL33_1_succ]
    unfold DF33_1
    (try simp only [ih, S66_D n hn]) <;> first | with_reducible rfl | rfl
noncomputable def D33 (n : Nat × Nat) (b0 : Int × List (Int × Int)) : Option R33 :=
 (D66 n b0).bind fun r1' =>
 (bif (r1' != 0) then some ((b0.1, 0, 0, 0, 0, 0, 0, 0), r1')
 else DL33_1 n n.1 b0.2 (b0.2.length : Int) 0 0 0 0 0 0 0 0 0 b0.1 0 0 0 0 0 0 0)
theorem S33_D (n : Nat × Nat) (hn : n.2 = 1) : S33 n = D33 n := by
  funext b0; refine (S33_eq n b0).trans ?_
  unfold D33
  (try simp only [DL33_1_eq n hn, S66_D n hn]) <;> first | with_reducible rfl | rfl
/-D 34 -/
noncomputable def DL34_2 (n : Nat × Nat) (f1 : Int → Bool → List Int → Int → Int → Option R34) (choice1 : Int) (v5 : Bool) (v12 : List Int) (v13 : Int) (v14 : Int) : Option R34 :=
    f1 choice1 v5 v12 v13 (wr .i64 (v14 + 1))
theorem DL34_2_eq (n : Nat × Nat) (hn : n.2 = 1) (m1 : Nat) : L34_2 n m1 = DL34_2 n (L34_1 n m1) := by
  funext choice1 v5 v12 v13 v14; refine ((held_eq hn _).trans (L34_2_raw n m1 choice1 v5 v12 v13 v14)).trans ?_
  unfold DL34_2
  first | with_reducible rfl | rfl
noncomputable def DF34_1 (n : Nat × Nat) (f1 : Int → Bool → List Int → Int → Int → Option R34) (choice1 : Int) (v5 : Bool) (v12 : List Int) (v13 : Int) (v14 : Int) : Option R34 :=
 (bif decide (v14 < v13) then (idx v12 v14).bind fun x1' =>
 (bif decide (v14 < 0) then none
 else ((bif (((wr .u64 (BitVec.ofInt (IntKind.bits .u64) (Int.fdiv choice1 (2 ^ (min (Int.toNat v14) (IntKind.bits .u64)))) &&& BitVec.ofInt (IntKind.bits .u64) 1).toNat) == 1) == true) then some ((wr .u64 (BitVec.ofInt (IntKind.bits .u64) x1' &&& BitVec.ofInt (IntKind.bits .u64) choice1).toNat) != 0)
 else some false)).bind fun b2' =>
 (bif b2' then some 13
 else ((bif ((!((wr .u64 (BitVec.ofInt (IntKind.bits .u64) (Int.fdiv choice1 (2 ^ (min (Int.toNat v14) (IntKind.bits .u64)))) &&& BitVec.ofInt (IntKind.bits .u64) 1).toNat) == 1)) == true) then some ((wr .u64 (BitVec.ofInt (IntKind.bits .u64) x1' &&& BitVec.ofInt (IntKind.bits .u64) choice1).toNat) == 0)
 else some false)).bind fun b3' =>
 (bif b3' then DL34_2 n f1 choice1 true v12 v13 v14
 else DL34_2 n f1 choice1 v5 v12 v13 v14)))
 else (bif v5 then some 21
 else some 0))
noncomputable def DL34_1 (n : Nat × Nat) (m : Nat) : Int → Bool → List Int → Int → Int → Option R34 := Nat.rec (motive := fun _ => Int → Bool → List Int → Int → Int → Option R34) (fun _ _ _ _ _ => none) (fun _ ih => DF34_1 n ih) m
theorem DL34_1_succ (n : Nat × Nat) (m : Nat) : DL34_1 n (m + 1) = DF34_1 n (DL34_1 n m) := rfl
theorem DL34_1_eq (n : Nat × Nat) (hn : n.2 = 1) : ∀ m, L34_1 n m = DL34_1 n m
  | 0 => by funext choice1 v5 v12 v13 v14; kernel_rfl
  | m + 1 => by
    have ih := DL34_1_eq n hn m
    funext choice1 v5 v12 v13 v14; refine (L34_1_eq n m choice1 v5 v12 v13 v14).trans ?_
    rw [DL34_1_succ]
    unfold DF34_1
    (try simp only [ih, DL34_2_eq n hn]) <;> first | with_reducible rfl | rfl
noncomputable def D34 (n : Nat × Nat) (w0 : Int × Int × Int × Int × Int × Int × Int × Int) (choice1 : Int) : Option R34 :=
 (bif bounds none (some w0.1) none 7 then DL34_1 n n.1 choice1 false ([w0.2.1, w0.2.2.1, w0.2.2.2.1, w0.2.2.2.2.1, w0.2.2.2.2.2.1, w0.2.2.2.2.2.2.1, w0.2.2.2.2.2.2.2].take (Int.toNat w0.1)) (([w0.2.1, w0.2.2.1, w0.2.2.2.1, w0.2.2.2.2.1, w0.2.2.2.2.2.1, w0.2.2.2.2.2.2.1, w0.2.2.2.2.2.2.2].take (Int.toNat w0.1)).length : Int) 0
 else none)
theorem S34_D (n : Nat × Nat) (hn : n.2 = 1) : S34 n = D34 n := by
  funext w0 choice1; refine (S34_eq n w0 choice1).trans ?_
  unfold D34
  (try simp only [DL34_2_eq n hn, DL34_1_eq n hn]) <;> first | with_reducible rfl | rfl
/-D 35 -/
noncomputable def DF35_1 (n : Nat × Nat) (f1 : Int → List Int → Option R35) (v0 : Int) (out3 : List Int) : Option R35 :=
 (bif (v0 != 0) then (D41 n v0).bind fun r1' =>
 (bif decide (out3.length + [r1'].length ≤ lim) then f1 (wr .u64 (BitVec.ofInt (IntKind.bits .u64) v0 &&& BitVec.ofInt (IntKind.bits .u64) (wr .u64 (v0 - 1))).toNat) (out3 ++ [r1'])
 else none)
 else some out3)
noncomputable def DL35_1 (n : Nat × Nat) (m : Nat) : Int → List Int → Option R35 := Nat.rec (motive := fun _ => Int → List Int → Option R35) (fun _ _ => none) (fun _ ih => DF35_1 n ih) m
theorem DL35_1_succ (n : Nat × Nat) (m : Nat) : DL35_1 n (m + 1) = DF35_1 n (DL35_1 n m) := rfl
theorem DL35_1_eq (n : Nat × Nat) (hn : n.2 = 1) : ∀ m, L35_1 n m = DL35_1 n m
  | 0 => by funext v0 out3; kernel_rfl
  | m + 1 => by
    have ih := DL35_1_eq n hn m
    funext v0 out3; refine (L35_1_eq n m v0 out3).trans ?_
    rw [DL35_1_succ]
    unfold DF35_1
    (try simp only [ih, S41_D n hn]) <;> first | with_reducible rfl | rfl
noncomputable def D35 (n : Nat × Nat) (v0 : Int) : Option R35 :=
    DL35_1 n n.1 v0 []
theorem S35_D (n : Nat × Nat) (hn : n.2 = 1) : S35 n = D35 n := by
  funext v0; refine (S35_eq n v0).trans ?_
  unfold D35
  (try simp only [DL35_1_eq n hn, S41_D n hn]) <;> first | with_reducible rfl | rfl
noncomputable def D36c37 (n : Nat × Nat) (x0 : List (List Int)) : Option R36c37 := HF36 x0
theorem S36c37_D (n : Nat × Nat) (hn : n.2 = 1) : S36c37 n = D36c37 n := rfl
/-D 11 -/
noncomputable def DL11_2 (n : Nat × Nat) (f1 : Int → Int → Int → Int → Int → Int → Int → Int → Int → Int → List (List Int) → Option R11) (v18 : Int) (v19 : Int) (w4_0 : Int) (w4_1 : Int) (w4_2 : Int) (w4_3 : Int) (w4_4 : Int) (w4_5 : Int) (w4_6 : Int) (w4_7 : Int) (out6 : List (List Int)) : Option R11 :=
    f1 v18 (wr .u64 (v19 + 1)) w4_0 w4_1 w4_2 w4_3 w4_4 w4_5 w4_6 w4_7 out6
theorem DL11_2_eq (n : Nat × Nat) (hn : n.2 = 1) (m1 : Nat) : L11_2 n m1 = DL11_2 n (L11_1 n m1) := by
  funext v18 v19 w4_0 w4_1 w4_2 w4_3 w4_4 w4_5 w4_6 w4_7 out6; refine ((held_eq hn _).trans (L11_2_raw n m1 v18 v19 w4_0 w4_1 w4_2 w4_3 w4_4 w4_5 w4_6 w4_7 out6)).trans ?_
  unfold DL11_2
  (try simp only [S33_D n hn, S34_D n hn, S35_D n hn, S36c37_D n hn]) <;> first | with_reducible rfl | rfl
noncomputable def DF11_1 (n : Nat × Nat) (f1 : Int → Int → Int → Int → Int → Int → Int → Int → Int → Int → List (List Int) → Option R11) (v18 : Int) (v19 : Int) (w4_0 : Int) (w4_1 : Int) (w4_2 : Int) (w4_3 : Int) (w4_4 : Int) (w4_5 : Int) (w4_6 : Int) (w4_7 : Int) (out6 : List (List Int)) : Option R11 :=
 (bif decide (v19 < v18) then (D34 n (w4_0, w4_1, w4_2, w4_3, w4_4, w4_5, w4_6, w4_7) v19).bind fun r2' =>
 (bif (r2' == 0) then (D35 n v19).bind fun r3' =>
 (bif decide (out6.length + [r3'].length ≤ lim) then DL11_2 n f1 v18 v19 w4_0 w4_1 w4_2 w4_3 w4_4 w4_5 w4_6 w4_7 (out6 ++ [r3'])
 else none)
 else DL11_2 n f1 v18 v19 w4_0 w4_1 w4_2 w4_3 w4_4 w4_5 w4_6 w4_7 out6)
 else (D36c37 n out6).bind fun r4' =>
 some (out6, 0))
noncomputable def DL11_1 (n : Nat × Nat) (m : Nat) : Int → Int → Int → Int → Int → Int → Int → Int → Int → Int → List (List Int) → Option R11 := Nat.rec (motive := fun _ => Int → Int → Int → Int → Int → Int → Int → Int → Int → Int → List (List Int) → Option R11) (fun _ _ _ _ _ _ _ _ _ _ _ => none) (fun _ ih => DF11_1 n ih) m
theorem DL11_1_succ (n : Nat × Nat) (m : Nat) : DL11_1 n (m + 1) = DF11_1 n (DL11_1 n m) := rfl
theorem DL11_1_eq (n : Nat × Nat) (hn : n.2 = 1) : ∀ m, L11_1 n m = DL11_1 n m
  | 0 => by funext v18 v19 w4_0 w4_1 w4_2 w4_3 w4_4 w4_5 w4_6 w4_7 out6; kernel_rfl
  | m + 1 => by
    have ih := DL11_1_eq n hn m
    funext v18 v19 w4_0 w4_1 w4_2 w4_3 w4_4 w4_5 w4_6 w4_7 out6; refine (L11_1_eq n m v18 v19 w4_0 w4_1 w4_2 w4_3 w4_4 w4_5 w4_6 w4_7 out6).trans ?_
    rw [DL11_1_succ]
    unfold DF11_1
    (try simp only [ih, DL11_2_eq n hn, S33_D n hn, S34_D n hn, S35_D n hn, S36c37_D n hn]) <;> first | with_reducible rfl | rfl
noncomputable def D11 (n : Nat × Nat) (b0 : Int × List (Int × Int)) : Option R11 :=
 (D33 n b0).bind fun r1' =>
 (bif (r1'.2 != 0) then some ([], r1'.2)
 else (bif decide (r1'.1.1 < 0) then none
 else DL11_1 n n.1 (wr .u64 (1 * 2 ^ (min (Int.toNat r1'.1.1) (IntKind.bits .u64)))) 0 r1'.1.1 r1'.1.2.1 r1'.1.2.2.1 r1'.1.2.2.2.1 r1'.1.2.2.2.2.1 r1'.1.2.2.2.2.2.1 r1'.1.2.2.2.2.2.2.1 r1'.1.2.2.2.2.2.2.2 []))
theorem S11_D (n : Nat × Nat) (hn : n.2 = 1) : S11 n = D11 n := by
  funext b0; refine (S11_eq n b0).trans ?_
  unfold D11
  (try simp only [DL11_2_eq n hn, DL11_1_eq n hn, S33_D n hn, S34_D n hn, S35_D n hn, S36c37_D n hn]) <;> first | with_reducible rfl | rfl
/-D 84 -/
noncomputable def DF84_1 (n : Nat × Nat) (f1 : List Int → List Int → Int → Int → Option R84) (coins0 : List Int) (v13 : List Int) (v14 : Int) (v15 : Int) : Option R84 :=
 (bif decide (v15 < v14) then (idx v13 v15).bind fun x1' =>
 ((bif (decide (x1' < 1) == false) then some (decide (x1' > 40))
 else some true)).bind fun b2' =>
 (bif b2' then some 1
 else ((bif (decide (v15 > 0) == true) then (idx coins0 (wr .i64 (v15 - 1))).bind fun x3' =>
 some (decide (x1' ≤ x3'))
 else some false)).bind fun b4' =>
 (bif b4' then some 7
 else f1 coins0 v13 v14 (wr .i64 (v15 + 1))))
 else (idx coins0 0).bind fun x5' =>
 (bif decide (x5' > 1) then some 5
 else some 0))
noncomputable def DL84_1 (n : Nat × Nat) (m : Nat) : List Int → List Int → Int → Int → Option R84 := Nat.rec (motive := fun _ => List Int → List Int → Int → Int → Option R84) (fun _ _ _ _ => none) (fun _ ih => DF84_1 n ih) m
theorem DL84_1_succ (n : Nat × Nat) (m : Nat) : DL84_1 n (m + 1) = DF84_1 n (DL84_1 n m) := rfl
theorem DL84_1_eq (n : Nat × Nat) (hn : n.2 = 1) : ∀ m, L84_1 n m = DL84_1 n m
  | 0 => by funext coins0 v13 v14 v15; kernel_rfl
  | m + 1 => by
    have ih := DL84_1_eq n hn m
    funext coins0 v13 v14 v15; refine (L84_1_eq n m coins0 v13 v14 v15).trans ?_
    rw [DL84_1_succ]
    unfold DF84_1
    (try simp only [ih]) <;> first | with_reducible rfl | rfl
noncomputable def D84 (n : Nat × Nat) (coins0 : List Int) : Option R84 :=
 (bif ((coins0.length : Int) == 0) then some 4
 else (bif decide ((coins0.length : Int) > 6) then some 3
 else DL84_1 n n.1 coins0 coins0 (coins0.length : Int) 0))
theorem S84_D (n : Nat × Nat) (hn : n.2 = 1) : S84 n = D84 n := by
  funext coins0; refine (S84_eq n coins0).trans ?_
  unfold D84
  (try simp only [DL84_1_eq n hn]) <;> first | with_reducible rfl | rfl
/-D 52 -/
noncomputable def D52 (n : Nat × Nat) (coins0 : List Int) (sum1 : Int) : Option R52 :=
 (D84 n coins0).bind fun r1' =>
 ((bif ((r1' == 0) == true) then ((bif (decide (sum1 < 0) == false) then some (decide (sum1 > 200))
 else some true)).bind fun b2' =>
 some b2'
 else some false)).bind fun b3' =>
 (bif b3' then some 1
 else some r1')
theorem S52_D (n : Nat × Nat) (hn : n.2 = 1) : S52 n = D52 n := by
  funext coins0 sum1; refine (S52_eq n coins0 sum1).trans ?_
  unfold D52
  (try simp only [S84_D n hn]) <;> first | with_reducible rfl | rfl
/-D 63 -/
noncomputable def DL63_3 (n : Nat × Nat) (f1 : List Int → Int → Int → List Int → Option R63) (f2 : List Int → Int → Int → Int → List Int → Int → Int → List Int → Option R63) (coins0 : List Int) (most1 : Int) (sum6 : Int) (v7 : Int) (v17 : List Int) (v18 : Int) (v19 : Int) (out5 : List Int) : Option R63 :=
    f2 coins0 most1 sum6 v7 v17 v18 (wr .i64 (v19 + 1)) out5
theorem DL63_3_eq (n : Nat × Nat) (hn : n.2 = 1) (m1 m2 : Nat) : L63_3 n m1 m2 = DL63_3 n (L63_1 n m1) (L63_2 n m1 m2) := by
  funext coins0 most1 sum6 v7 v17 v18 v19 out5; refine ((held_eq hn _).trans (L63_3_raw n m1 m2 coins0 most1 sum6 v7 v17 v18 v19 out5)).trans ?_
  unfold DL63_3
  first | with_reducible rfl | rfl
noncomputable def DF63_2 (n : Nat × Nat) (f1 : List Int → Int → Int → List Int → Option R63) (f2 : List Int → Int → Int → Int → List Int → Int → Int → List Int → Option R63) (coins0 : List Int) (most1 : Int) (sum6 : Int) (v7 : Int) (v17 : List Int) (v18 : Int) (v19 : Int) (out5 : List Int) : Option R63 :=
 (bif decide (v19 < v18) then (idx v17 v19).bind fun x1' =>
 (bif decide (x1' ≤ sum6) then (bif inB (wr .i64 (sum6 - x1')) out5.length then (idx out5 (wr .i64 (sum6 - x1'))).bind fun x2' =>
          DL63_3 n f1 f2 coins0 most1 sum6 (if (wr .i64 (1 + x2')) < v7 then (wr .i64 (1 + x2')) else v7) v17 v18 v19 out5
 else none)
 else DL63_3 n f1 f2 coins0 most1 sum6 v7 v17 v18 v19 out5)
 else (bif decide (out5.length + [v7].length ≤ lim) then f1 coins0 most1 (wr .i64 (sum6 + 1)) (out5 ++ [v7])
 else none))
noncomputable def DL63_2 (n : Nat × Nat) (f1 : List Int → Int → Int → List Int → Option R63) (m : Nat) : List Int → Int → Int → Int → List Int → Int → Int → List Int → Option R63 := Nat.rec (motive := fun _ => List Int → Int → Int → Int → List Int → Int → Int → List Int → Option R63) (fun _ _ _ _ _ _ _ _ => none) (fun _ ih => DF63_2 n f1 ih) m
theorem DL63_2_succ (n : Nat × Nat) (f1 : List Int → Int → Int → List Int → Option R63) (m : Nat) : DL63_2 n f1 (m + 1) = DF63_2 n f1 (DL63_2 n f1 m) := rfl
theorem DL63_2_eq (n : Nat × Nat) (hn : n.2 = 1) (m1 : Nat) : ∀ m, L63_2 n m1 m = DL63_2 n (L63_1 n m1) m
  | 0 => by funext coins0 most1 sum6 v7 v17 v18 v19 out5; kernel_rfl
  | m + 1 => by
    have ih := DL63_2_eq n hn m1 m
    funext coins0 most1 sum6 v7 v17 v18 v19 out5; refine (L63_2_eq n m1 m coins0 most1 sum6 v7 v17 v18 v19 out5).trans ?_
    rw [DL63_2_succ]
    unfold DF63_2
    (try simp only [ih, DL63_3_eq n hn]) <;> first | with_reducible rfl | rfl
noncomputable def DF63_1 (n : Nat × Nat) (f1 : List Int → Int → Int → List Int → Option R63) (coins0 : List Int) (most1 : Int) (sum6 : Int) (out5 : List Int) : Option R63 :=
 (bif decide (sum6 ≤ most1) then DL63_2 n f1 n.1 coins0 most1 sum6 sum6 coins0 (coins0.length : Int) 0 out5
 else some out5)
noncomputable def DL63_1 (n : Nat × Nat) (m : Nat) : List Int → Int → Int → List Int → Option R63 := Nat.rec (motive := fun _ => List Int → Int → Int → List Int → Option R63) (fun _ _ _ _ => none) (fun _ ih => DF63_1 n ih) m
theorem DL63_1_succ (n : Nat × Nat) (m : Nat) : DL63_1 n (m + 1) = DF63_1 n (DL63_1 n m) := rfl
theorem DL63_1_eq (n : Nat × Nat) (hn : n.2 = 1) : ∀ m, L63_1 n m = DL63_1 n m
  | 0 => by funext coins0 most1 sum6 out5; kernel_rfl
  | m + 1 => by
    have ih := DL63_1_eq n hn m
    funext coins0 most1 sum6 out5; refine (L63_1_eq n m coins0 most1 sum6 out5).trans ?_
    rw [DL63_1_succ]
    unfold DF63_1
    (try simp only [ih, DL63_3_eq n hn, DL63_2_eq n hn]) <;> first | with_reducible rfl | rfl
noncomputable def D63 (n : Nat × Nat) (coins0 : List Int) (most1 : Int) : Option R63 :=
    DL63_1 n n.1 coins0 most1 1 [0]
theorem S63_D (n : Nat × Nat) (hn : n.2 = 1) : S63 n = D63 n := by
  funext coins0 most1; refine (S63_eq n coins0 most1).trans ?_
  unfold D63
  (try simp only [DL63_3_eq n hn, DL63_2_eq n hn, DL63_1_eq n hn]) <;> first | with_reducible rfl | rfl
/-D 87 -/
noncomputable def DF87_1 (n : Nat × Nat) (SS : List Int → Int → Int → Option R87) (f1 : List Int → Int → Int → Int → Int → Option R87) (coins0 : List Int) (sum1 : Int) (many2 : Int) (v7 : Int) (v8 : Int) : Option R87 :=
 ((bif (decide (v8 ≤ many2) == true) then (idx coins0 v7).bind fun x2' =>
 some (decide (wr .i64 (v8 * x2') ≤ sum1))
 else some false)).bind fun b3' =>
 (bif b3' then (bif bounds none (some v7) none coins0.length then (idx coins0 v7).bind fun x4' =>
 (SS (coins0.take (Int.toNat v7)) (wr .i64 (sum1 - (wr .i64 (v8 * x4')))) (wr .i64 (many2 - v8))).bind fun r5' =>
 (bif r5' then some true
 else f1 coins0 sum1 many2 v7 (wr .i64 (v8 + 1)))
 else none)
 else some false)
noncomputable def DL87_1 (n : Nat × Nat) (SS : List Int → Int → Int → Option R87) (m : Nat) : List Int → Int → Int → Int → Int → Option R87 := Nat.rec (motive := fun _ => List Int → Int → Int → Int → Int → Option R87) (fun _ _ _ _ _ => none) (fun _ ih => DF87_1 n SS ih) m
theorem DL87_1_succ (n : Nat × Nat) (SS : List Int → Int → Int → Option R87) (m : Nat) : DL87_1 n SS (m + 1) = DF87_1 n SS (DL87_1 n SS m) := rfl
theorem DL87_1_eq (n : Nat × Nat) (hn : n.2 = 1) (SS : List Int → Int → Int → Option R87) : ∀ m, L87_1 n SS m = DL87_1 n SS m
  | 0 => by funext coins0 sum1 many2 v7 v8; kernel_rfl
  | m + 1 => by
    have ih := DL87_1_eq n hn SS m
    funext coins0 sum1 many2 v7 v8; refine (L87_1_eq n SS m coins0 sum1 many2 v7 v8).trans ?_
    rw [DL87_1_succ]
    unfold DF87_1
    (try simp only [ih]) <;> first | with_reducible rfl | rfl
noncomputable def DB87 (n : Nat × Nat) (SS : List Int → Int → Int → Option R87) (coins0 : List Int) (sum1 : Int) (many2 : Int) : Option R87 :=
 (bif ((coins0.length : Int) == 0) then ((bif ((sum1 == 0) == true) then some (many2 == 0)
 else some false)).bind fun b1' =>
 some b1'
 else DL87_1 n SS n.1 coins0 sum1 many2 (wr .i64 ((coins0.length : Int) - 1)) 0)
theorem DB87_eq (n : Nat × Nat) (hn : n.2 = 1) (SS : List Int → Int → Int → Option R87) : B87 n SS = DB87 n SS := by
  funext coins0 sum1 many2; refine (B87_eq n SS coins0 sum1 many2).trans ?_
  unfold DB87
  (try simp only [DL87_1_eq n hn SS]) <;> first | with_reducible rfl | rfl
noncomputable def DT87 (n : Nat × Nat) (d : Nat) : List Int → Int → Int → Option R87 := Nat.rec (motive := fun _ => List Int → Int → Int → Option R87) (fun _ _ _ => none) (fun _ ih => DB87 n ih) d
theorem DT87_succ (n : Nat × Nat) (d : Nat) : DT87 n (d + 1) = DB87 n (DT87 n d) := rfl
theorem DT87_eq (n : Nat × Nat) (hn : n.2 = 1) : ∀ d, T87 n d = DT87 n d
  | 0 => rfl
  | d + 1 => by
    funext coins0 sum1 many2
    rw [T87_eq, DT87_eq n hn d, DB87_eq n hn, DT87_succ]
noncomputable def D87 (n : Nat × Nat) (coins0 : List Int) (sum1 : Int) (many2 : Int) : Option R87 := DT87 n n.1 coins0 sum1 many2
theorem S87_D (n : Nat × Nat) (hn : n.2 = 1) : S87 n = D87 n := by
  funext coins0 sum1 many2; unfold S87 D87; rw [DT87_eq n hn]
/-D 58 -/
noncomputable def DF58_2 (n : Nat × Nat) (f1 : List Int → Int → Int → List Int → Int → Int → List Int → Option R58) (f2 : List Int → Int → Int → Int → List Int → Int → List Int → Int → Int → List Int → Option R58) (coins0 : List Int) (sum1 : Int) (left7 : Int) (c10 : Int) (v11 : List Int) (v12 : Int) (v25 : List Int) (v26 : Int) (v27 : Int) (out8 : List Int) : Option R58 :=
 ((bif (decide (v12 < left7) == true) then (D87 n v11 (wr .i64 (sum1 - (wr .i64 (v12 * c10)))) (wr .i64 (left7 - v12))).bind fun r5' =>
 some (!r5')
 else some false)).bind fun b6' =>
 (bif b6' then f2 coins0 sum1 left7 c10 v11 (wr .i64 (v12 + 1)) v25 v26 v27 out8
 else (bif decide (out8.length + [v12].length ≤ lim) then f1 coins0 (wr .i64 (sum1 - (wr .i64 (v12 * c10)))) (wr .i64 (left7 - v12)) v25 v26 (wr .i64 (v27 + 1)) (out8 ++ [v12])
 else none))
noncomputable def DL58_2 (n : Nat × Nat) (f1 : List Int → Int → Int → List Int → Int → Int → List Int → Option R58) (m : Nat) : List Int → Int → Int → Int → List Int → Int → List Int → Int → Int → List Int → Option R58 := Nat.rec (motive := fun _ => List Int → Int → Int → Int → List Int → Int → List Int → Int → Int → List Int → Option R58) (fun _ _ _ _ _ _ _ _ _ _ => none) (fun _ ih => DF58_2 n f1 ih) m
theorem DL58_2_succ (n : Nat × Nat) (f1 : List Int → Int → Int → List Int → Int → Int → List Int → Option R58) (m : Nat) : DL58_2 n f1 (m + 1) = DF58_2 n f1 (DL58_2 n f1 m) := rfl
theorem DL58_2_eq (n : Nat × Nat) (hn : n.2 = 1) (m1 : Nat) : ∀ m, L58_2 n m1 m = DL58_2 n (L58_1 n m1) m
  | 0 => by funext coins0 sum1 left7 c10 v11 v12 v25 v26 v27 out8; kernel_rfl
  | m + 1 => by
    have ih := DL58_2_eq n hn m1 m
    funext coins0 sum1 left7 c10 v11 v12 v25 v26 v27 out8; refine (L58_2_eq n m1 m coins0 sum1 left7 c10 v11 v12 v25 v26 v27 out8).trans ?_
    rw [DL58_2_succ]
    unfold DF58_2
    (try simp only [ih, S52_D n hn, S63_D n hn, S87_D n hn]) <;> first | with_reducible rfl | rfl
noncomputable def DF58_1 (n : Nat × Nat) (f1 : List Int → Int → Int → List Int → Int → Int → List Int → Option R58) (coins0 : List Int) (sum1 : Int) (left7 : Int) (v25 : List Int) (v26 : Int) (v27 : Int) (out8 : List Int) : Option R58 :=
 (bif decide (v27 < v26) then (idx v25 v27).bind fun x4' =>
 (bif bounds (some (wr .i64 (v27 + 1))) none none coins0.length then DL58_2 n f1 n.1 coins0 sum1 left7 x4' (coins0.drop (Int.toNat (wr .i64 (v27 + 1)))) 0 v25 v26 v27 out8
 else none)
 else some (out8, 0))
noncomputable def DL58_1 (n : Nat × Nat) (m : Nat) : List Int → Int → Int → List Int → Int → Int → List Int → Option R58 := Nat.rec (motive := fun _ => List Int → Int → Int → List Int → Int → Int → List Int → Option R58) (fun _ _ _ _ _ _ _ => none) (fun _ ih => DF58_1 n ih) m
theorem DL58_1_succ (n : Nat × Nat) (m : Nat) : DL58_1 n (m + 1) = DF58_1 n (DL58_1 n m) := rfl
theorem DL58_1_eq (n : Nat × Nat) (hn : n.2 = 1) : ∀ m, L58_1 n m = DL58_1 n m
  | 0 => by funext coins0 sum1 left7 v25 v26 v27 out8; kernel_rfl
  | m + 1 => by
    have ih := DL58_1_eq n hn m
    funext coins0 sum1 left7 v25 v26 v27 out8; refine (L58_1_eq n m coins0 sum1 left7 v25 v26 v27 out8).trans ?_
    rw [DL58_1_succ]
    unfold DF58_1
    (try simp only [ih, DL58_2_eq n hn, S52_D n hn, S63_D n hn, S87_D n hn]) <;> first | with_reducible rfl | rfl
noncomputable def D58 (n : Nat × Nat) (coins0 : List Int) (sum1 : Int) : Option R58 :=
 (D52 n coins0 sum1).bind fun r1' =>
 (bif (r1' != 0) then some ([], r1')
 else (D63 n coins0 sum1).bind fun r2' =>
 (bif inB sum1 r2'.length then (idx r2' sum1).bind fun x3' =>
        DL58_1 n n.1 coins0 sum1 x3' coins0 (coins0.length : Int) 0 []
 else none))
theorem S58_D (n : Nat × Nat) (hn : n.2 = 1) : S58 n = D58 n := by
  funext coins0 sum1; refine (S58_eq n coins0 sum1).trans ?_
  unfold D58
  (try simp only [DL58_2_eq n hn, DL58_1_eq n hn, S52_D n hn, S63_D n hn, S87_D n hn]) <;> first | with_reducible rfl | rfl
/-D 48 -/
noncomputable def DF48_1 (n : Nat × Nat) (f1 : (List (Int × Int)) → Int → Int → Option R48) (v13 : List (Int × Int)) (v14 : Int) (v15 : Int) : Option R48 :=
 (bif decide (v15 < v14) then (idx v13 v15).bind fun x1' =>
 ((bif (decide (x1'.1 < 0) == false) then some (decide (x1'.1 > 100))
 else some true)).bind fun b2' =>
 ((bif (b2' == false) then some (decide (x1'.2 < 1))
 else some true)).bind fun b3' =>
 ((bif (b3' == false) then some (decide (x1'.2 > 9))
 else some true)).bind fun b4' =>
 (bif b4' then some 1
 else f1 v13 v14 (wr .i64 (v15 + 1)))
 else some 0)
noncomputable def DL48_1 (n : Nat × Nat) (m : Nat) : (List (Int × Int)) → Int → Int → Option R48 := Nat.rec (motive := fun _ => (List (Int × Int)) → Int → Int → Option R48) (fun _ _ _ => none) (fun _ ih => DF48_1 n ih) m
theorem DL48_1_succ (n : Nat × Nat) (m : Nat) : DL48_1 n (m + 1) = DF48_1 n (DL48_1 n m) := rfl
theorem DL48_1_eq (n : Nat × Nat) (hn : n.2 = 1) : ∀ m, L48_1 n m = DL48_1 n m
  | 0 => by funext v13 v14 v15; kernel_rfl
  | m + 1 => by
    have ih := DL48_1_eq n hn m
    funext v13 v14 v15; refine (L48_1_eq n m v13 v14 v15).trans ?_
    rw [DL48_1_succ]
    unfold DF48_1
    (try simp only [ih]) <;> first | with_reducible rfl | rfl
noncomputable def D48 (n : Nat × Nat) (l0 : List (Int × Int)) : Option R48 :=
 (bif ((l0.length : Int) == 0) then some 4
 else (bif decide ((l0.length : Int) > 8) then some 3
 else DL48_1 n n.1 l0 (l0.length : Int) 0))
theorem S48_D (n : Nat × Nat) (hn : n.2 = 1) : S48 n = D48 n := by
  funext l0; refine (S48_eq n l0).trans ?_
  unfold D48
  (try simp only [DL48_1_eq n hn]) <;> first | with_reducible rfl | rfl
/-D 101 -/
noncomputable def D101 (n : Nat × Nat) (x0 : Int) : Option R101 :=
 some (x0 != x0)
theorem S101_D (n : Nat × Nat) (hn : n.2 = 1) : S101 n = D101 n := by
  funext x0; refine (S101_eq n x0).trans ?_
  unfold D101
  first | with_reducible rfl | rfl
/-D 69 -/
noncomputable def D69 (n : Nat × Nat) (x0 : Int) (y1 : Int) : Option R69 :=
 (D101 n x0).bind fun r1' =>
 (D101 n y1).bind fun r2' =>
 (bif r1' then (bif r2' then some 0
 else some (-1))
 else (bif r2' then some 1
 else (bif decide (x0 < y1) then some (-1)
 else (bif decide (x0 > y1) then some 1
 else some 0))))
theorem S69_D (n : Nat × Nat) (hn : n.2 = 1) : S69 n = D69 n := by
  funext x0 y1; refine (S69_eq n x0 y1).trans ?_
  unfold D69
  (try simp only [S101_D n hn]) <;> first | with_reducible rfl | rfl
/-D 37 -/
noncomputable def DF37_1 (n : Nat × Nat) (f1 : List Int → List Int → List Int → Int → Int → Option R37) (s10 : List Int) (s21 : List Int) (v9 : List Int) (v10 : Int) (v11 : Int) : Option R37 :=
 (bif decide (v11 < v10) then (idx v9 v11).bind fun x1' =>
 (bif decide (v11 ≥ (s21.length : Int)) then some 1
 else (idx s21 v11).bind fun x2' =>
 (D69 n x1' x2').bind fun r3' =>
 (bif (r3' != 0) then some r3'
 else f1 s10 s21 v9 v10 (wr .i64 (v11 + 1))))
 else (bif decide ((s10.length : Int) < (s21.length : Int)) then some (-1)
 else some 0))
noncomputable def DL37_1 (n : Nat × Nat) (m : Nat) : List Int → List Int → List Int → Int → Int → Option R37 := Nat.rec (motive := fun _ => List Int → List Int → List Int → Int → Int → Option R37) (fun _ _ _ _ _ => none) (fun _ ih => DF37_1 n ih) m
theorem DL37_1_succ (n : Nat × Nat) (m : Nat) : DL37_1 n (m + 1) = DF37_1 n (DL37_1 n m) := rfl
theorem DL37_1_eq (n : Nat × Nat) (hn : n.2 = 1) : ∀ m, L37_1 n m = DL37_1 n m
  | 0 => by funext s10 s21 v9 v10 v11; kernel_rfl
  | m + 1 => by
    have ih := DL37_1_eq n hn m
    funext s10 s21 v9 v10 v11; refine (L37_1_eq n m s10 s21 v9 v10 v11).trans ?_
    rw [DL37_1_succ]
    unfold DF37_1
    (try simp only [ih, S69_D n hn]) <;> first | with_reducible rfl | rfl
noncomputable def D37 (n : Nat × Nat) (s10 : List Int) (s21 : List Int) : Option R37 :=
    DL37_1 n n.1 s10 s21 s10 (s10.length : Int) 0
theorem S37_D (n : Nat × Nat) (hn : n.2 = 1) : S37 n = D37 n := by
  funext s10 s21; refine (S37_eq n s10 s21).trans ?_
  unfold D37
  (try simp only [DL37_1_eq n hn, S69_D n hn]) <;> first | with_reducible rfl | rfl
/-D 50 -/
noncomputable def DL50_3 (n : Nat × Nat) (f1 : (List (Int × Int)) → Int → Int → List Int → Option R50) (f2 : (List (Int × Int)) → Int → Int → Bool → Int → Int → (List (Int × Int)) → Int → Int → List Int → List Int → Option R50) (l0 : List (Int × Int)) (v6 : Int) (v8 : Int) (good9 : Bool) (v19 : Int) (v20 : Int) (v23 : List (Int × Int)) (v24 : Int) (v25 : Int) (best5 : List Int) (out7 : List Int) : Option R50 :=
    f2 l0 v6 v8 good9 v19 v20 v23 v24 (wr .i64 (v25 + 1)) best5 out7
theorem DL50_3_eq (n : Nat × Nat) (hn : n.2 = 1) (m1 m2 : Nat) : L50_3 n m1 m2 = DL50_3 n (L50_1 n m1) (L50_2 n m1 m2) := by
  funext l0 v6 v8 good9 v19 v20 v23 v24 v25 best5 out7; refine ((held_eq hn _).trans (L50_3_raw n m1 m2 l0 v6 v8 good9 v19 v20 v23 v24 v25 best5 out7)).trans ?_
  unfold DL50_3
  (try simp only [S37_D n hn, S48_D n hn]) <;> first | with_reducible rfl | rfl
noncomputable def DL50_4 (n : Nat × Nat) (f1 : (List (Int × Int)) → Int → Int → List Int → Option R50) (l0 : List (Int × Int)) (v19 : Int) (v20 : Int) (best5 : List Int) : Option R50 :=
    f1 l0 v19 (wr .i64 (v20 + 1)) best5
theorem DL50_4_eq (n : Nat × Nat) (hn : n.2 = 1) (m1 : Nat) : L50_4 n m1 = DL50_4 n (L50_1 n m1) := by
  funext l0 v19 v20 best5; refine ((held_eq hn _).trans (L50_4_raw n m1 l0 v19 v20 best5)).trans ?_
  unfold DL50_4
  (try simp only [DL50_3_eq n hn, S37_D n hn, S48_D n hn]) <;> first | with_reducible rfl | rfl
noncomputable def DF50_2 (n : Nat × Nat) (f1 : (List (Int × Int)) → Int → Int → List Int → Option R50) (f2 : (List (Int × Int)) → Int → Int → Bool → Int → Int → (List (Int × Int)) → Int → Int → List Int → List Int → Option R50) (l0 : List (Int × Int)) (v6 : Int) (v8 : Int) (good9 : Bool) (v19 : Int) (v20 : Int) (v23 : List (Int × Int)) (v24 : Int) (v25 : Int) (best5 : List Int) (out7 : List Int) : Option R50 :=
 (bif decide (v25 < v24) then (idx v23 v25).bind fun x2' =>
 (bif decide (v25 < 0) then none
 else (bif ((wr .i64 (BitVec.ofInt (IntKind.bits .i64) (Int.fdiv v6 (2 ^ (min (Int.toNat v25) (IntKind.bits .i64)))) &&& BitVec.ofInt (IntKind.bits .i64) 1).toNat) == 1) then (bif decide (out7.length + [v25].length ≤ lim) then DL50_3 n f1 f2 l0 v6 v8 good9 v19 v20 v23 v24 v25 best5 (out7 ++ [v25])
 else none)
 else ((bif (good9 == true) then some (decide (x2'.1 ≥ v8))
 else some false)).bind fun b3' =>
          DL50_3 n f1 f2 l0 v6 x2'.1 b3' v19 v20 v23 v24 v25 best5 out7))
 else ((bif (good9 == true) then ((bif (best5.isEmpty == false) then some (decide ((out7.length : Int) < (best5.length : Int)))
 else some true)).bind fun b4' =>
 ((bif (b4' == false) then ((bif (((out7.length : Int) == (best5.length : Int)) == true) then (D37 n out7 best5).bind fun r5' =>
 some (decide (r5' < 0))
 else some false)).bind fun b6' =>
 some b6'
 else some true)).bind fun b7' =>
 some b7'
 else some false)).bind fun b8' =>
 (bif b8' then (bif out7.isEmpty then some ([], 0)
 else DL50_4 n f1 l0 v19 v20 out7)
 else DL50_4 n f1 l0 v19 v20 best5))
noncomputable def DL50_2 (n : Nat × Nat) (f1 : (List (Int × Int)) → Int → Int → List Int → Option R50) (m : Nat) : (List (Int × Int)) → Int → Int → Bool → Int → Int → (List (Int × Int)) → Int → Int → List Int → List Int → Option R50 := Nat.rec (motive := fun _ => (List (Int × Int)) → Int → Int → Bool → Int → Int → (List (Int × Int)) → Int → Int → List Int → List Int → Option R50) (fun _ _ _ _ _ _ _ _ _ _ _ => none) (fun _ ih => DF50_2 n f1 ih) m
theorem DL50_2_succ (n : Nat × Nat) (f1 : (List (Int × Int)) → Int → Int → List Int → Option R50) (m : Nat) : DL50_2 n f1 (m + 1) = DF50_2 n f1 (DL50_2 n f1 m) := rfl
theorem DL50_2_eq (n : Nat × Nat) (hn : n.2 = 1) (m1 : Nat) : ∀ m, L50_2 n m1 m = DL50_2 n (L50_1 n m1) m
  | 0 => by funext l0 v6 v8 good9 v19 v20 v23 v24 v25 best5 out7; kernel_rfl
  | m + 1 => by
    have ih := DL50_2_eq n hn m1 m
    funext l0 v6 v8 good9 v19 v20 v23 v24 v25 best5 out7; refine (L50_2_eq n m1 m l0 v6 v8 good9 v19 v20 v23 v24 v25 best5 out7).trans ?_
    rw [DL50_2_succ]
    unfold DF50_2
    (try simp only [ih, DL50_3_eq n hn, DL50_4_eq n hn, S37_D n hn, S48_D n hn]) <;> first | with_reducible rfl | rfl
noncomputable def DF50_1 (n : Nat × Nat) (f1 : (List (Int × Int)) → Int → Int → List Int → Option R50) (l0 : List (Int × Int)) (v19 : Int) (v20 : Int) (best5 : List Int) : Option R50 :=
 (bif decide (v20 < v19) then DL50_2 n f1 n.1 l0 v20 (-1) true v19 v20 l0 (l0.length : Int) 0 best5 []
 else some (best5, 0))
noncomputable def DL50_1 (n : Nat × Nat) (m : Nat) : (List (Int × Int)) → Int → Int → List Int → Option R50 := Nat.rec (motive := fun _ => (List (Int × Int)) → Int → Int → List Int → Option R50) (fun _ _ _ _ => none) (fun _ ih => DF50_1 n ih) m
theorem DL50_1_succ (n : Nat × Nat) (m : Nat) : DL50_1 n (m + 1) = DF50_1 n (DL50_1 n m) := rfl
theorem DL50_1_eq (n : Nat × Nat) (hn : n.2 = 1) : ∀ m, L50_1 n m = DL50_1 n m
  | 0 => by funext l0 v19 v20 best5; kernel_rfl
  | m + 1 => by
    have ih := DL50_1_eq n hn m
    funext l0 v19 v20 best5; refine (L50_1_eq n m l0 v19 v20 best5).trans ?_
    rw [DL50_1_succ]
    unfold DF50_1
    (try simp only [ih, DL50_3_eq n hn, DL50_4_eq n hn, DL50_2_eq n hn, S37_D n hn, S48_D n hn]) <;> first | with_reducible rfl | rfl
noncomputable def D50 (n : Nat × Nat) (l0 : List (Int × Int)) : Option R50 :=
 (D48 n l0).bind fun r1' =>
 (bif (r1' != 0) then some ([], r1')
 else (bif decide ((l0.length : Int) < 0) then none
 else DL50_1 n n.1 l0 (wr .i64 (1 * 2 ^ (min (Int.toNat (l0.length : Int)) (IntKind.bits .i64)))) 0 []))
theorem S50_D (n : Nat × Nat) (hn : n.2 = 1) : S50 n = D50 n := by
  funext l0; refine (S50_eq n l0).trans ?_
  unfold D50
  (try simp only [DL50_3_eq n hn, DL50_4_eq n hn, DL50_2_eq n hn, DL50_1_eq n hn, S37_D n hn, S48_D n hn]) <;> first | with_reducible rfl | rfl
/-D 17 -/
noncomputable def D17 (n : Nat × Nat) (j0 : Int × List Int) : Option R17 := HF17 j0
theorem S17_D (n : Nat × Nat) (hn : n.2 = 1) : S17 n = D17 n := by unfold S17 D17; rfl
/-D 126 -/
noncomputable def DF126_1 (n : Nat × Nat) (f1 : (List (Int × Int)) → Int → Int → Int → (List (Int × Int)) → Option R126) (v20 : List (Int × Int)) (v21 : Int) (v22 : Int) (b1_0 : Int) (b1_1 : List (Int × Int)) : Option R126 :=
 (bif decide (v22 < v21) then (idx v20 v22).bind fun x2' =>
 (bif inB 0 2 then (idx [x2'.1, x2'.2] 0).bind fun x3' =>
 (bif inB 1 2 then (idx [x2'.1, x2'.2] 1).bind fun x4' =>
 ((bif (decide ((if x4' < x3' then x4' else x3') < 0) == false) then (bif inB 0 2 then (idx [x2'.1, x2'.2] 0).bind fun x5' =>
 (bif inB 1 2 then (idx [x2'.1, x2'.2] 1).bind fun x6' =>
 some (decide ((if x6' > x5' then x6' else x5') ≥ b1_0))
 else none)
 else none)
 else some true)).bind fun b7' =>
 (bif b7' then some 2
 else (bif inB 0 2 then (idx [x2'.1, x2'.2] 0).bind fun x8' =>
 (bif inB 1 2 then (idx [x2'.1, x2'.2] 1).bind fun x9' =>
 (bif decide (x8' ≥ x9') then some 7
 else (bif bounds none (some v22) none b1_1.length then (D90 n (b1_1.take (Int.toNat v22)) x2').bind fun r10' =>
 (bif r10' then some 6
 else f1 v20 v21 (wr .i64 (v22 + 1)) b1_0 b1_1)
 else none))
 else none)
 else none))
 else none)
 else none)
 else some 0)
noncomputable def DL126_1 (n : Nat × Nat) (m : Nat) : (List (Int × Int)) → Int → Int → Int → (List (Int × Int)) → Option R126 := Nat.rec (motive := fun _ => (List (Int × Int)) → Int → Int → Int → (List (Int × Int)) → Option R126) (fun _ _ _ _ _ => none) (fun _ ih => DF126_1 n ih) m
theorem DL126_1_succ (n : Nat × Nat) (m : Nat) : DL126_1 n (m + 1) = DF126_1 n (DL126_1 n m) := rfl
theorem DL126_1_eq (n : Nat × Nat) (hn : n.2 = 1) : ∀ m, L126_1 n m = DL126_1 n m
  | 0 => by funext v20 v21 v22 b1_0 b1_1; kernel_rfl
  | m + 1 => by
    have ih := DL126_1_eq n hn m
    funext v20 v21 v22 b1_0 b1_1; refine (L126_1_eq n m v20 v21 v22 b1_0 b1_1).trans ?_
    rw [DL126_1_succ]
    unfold DF126_1
    (try simp only [ih, S90_D n hn]) <;> first | with_reducible rfl | rfl
noncomputable def D126 (n : Nat × Nat) (b0 : Int × List (Int × Int)) : Option R126 :=
 ((bif (decide (b0.1 < 1) == false) then some (decide (b0.1 > 7))
 else some true)).bind fun b1' =>
 (bif b1' then some 1
 else (bif decide ((b0.2.length : Int) > 10) then some 3
 else DL126_1 n n.1 b0.2 (b0.2.length : Int) 0 b0.1 b0.2))
theorem S126_D (n : Nat × Nat) (hn : n.2 = 1) : S126 n = D126 n := by
  funext b0; refine (S126_eq n b0).trans ?_
  unfold D126
  (try simp only [DL126_1_eq n hn, S90_D n hn]) <;> first | with_reducible rfl | rfl
/-D 137 -/
noncomputable def DF137_1 (n : Nat × Nat) (f1 : Int → List Int → Option R137) (v0 : Int) (out3 : List Int) : Option R137 :=
 (bif (v0 != 0) then (D41 n v0).bind fun r1' =>
 (bif decide (out3.length + [r1'].length ≤ lim) then f1 (wr .u64 (BitVec.ofInt (IntKind.bits .u64) v0 &&& BitVec.ofInt (IntKind.bits .u64) (wr .u64 (v0 - 1))).toNat) (out3 ++ [r1'])
 else none)
 else some out3)
noncomputable def DL137_1 (n : Nat × Nat) (m : Nat) : Int → List Int → Option R137 := Nat.rec (motive := fun _ => Int → List Int → Option R137) (fun _ _ => none) (fun _ ih => DF137_1 n ih) m
theorem DL137_1_succ (n : Nat × Nat) (m : Nat) : DL137_1 n (m + 1) = DF137_1 n (DL137_1 n m) := rfl
theorem DL137_1_eq (n : Nat × Nat) (hn : n.2 = 1) : ∀ m, L137_1 n m = DL137_1 n m
  | 0 => by funext v0 out3; kernel_rfl
  | m + 1 => by
    have ih := DL137_1_eq n hn m
    funext v0 out3; refine (L137_1_eq n m v0 out3).trans ?_
    rw [DL137_1_succ]
    unfold DF137_1
    (try simp only [ih, S41_D n hn]) <;> first | with_reducible rfl | rfl
noncomputable def D137 (n : Nat × Nat) (v0 : Int) : Option R137 :=
    DL137_1 n n.1 v0 []
theorem S137_D (n : Nat × Nat) (hn : n.2 = 1) : S137 n = D137 n := by
  funext v0; refine (S137_eq n v0).trans ?_
  unfold D137
  (try simp only [DL137_1_eq n hn, S41_D n hn]) <;> first | with_reducible rfl | rfl
/-D 144 -/
noncomputable def D144 (n : Nat × Nat) (p0 : Int × Int) (v1 : Int) : Option R144 :=
 (bif inB 0 2 then (idx [p0.1, p0.2] 0).bind fun x1' =>
 (bif decide (x1' < 0) then none
 else ((bif (((wr .u64 (BitVec.ofInt (IntKind.bits .u64) (Int.fdiv v1 (2 ^ (min (Int.toNat x1') (IntKind.bits .u64)))) &&& BitVec.ofInt (IntKind.bits .u64) 1).toNat) == 0) == true) then (bif inB 1 2 then (idx [p0.1, p0.2] 1).bind fun x2' =>
 (bif decide (x2' < 0) then none
 else some ((wr .u64 (BitVec.ofInt (IntKind.bits .u64) (Int.fdiv v1 (2 ^ (min (Int.toNat x2') (IntKind.bits .u64)))) &&& BitVec.ofInt (IntKind.bits .u64) 1).toNat) == 0))
 else none)
 else some false)).bind fun b3' =>
 some b3')
 else none)
theorem S144_D (n : Nat × Nat) (hn : n.2 = 1) : S144 n = D144 n := by
  funext p0 v1; refine (S144_eq n p0 v1).trans ?_
  unfold D144
  first | with_reducible rfl | rfl
/-D 148c144 -/
noncomputable def DF148c144_1 (n : Nat × Nat) (f1 : (List (Int × Int)) → Int → Int → Int → Option R148c144) (s0 : List (Int × Int)) (f1_0 : Int) (v7 : Int) (v8 : Int) : Option R148c144 :=
 (bif decide (v8 < v7) then (idx s0 v8).bind fun x1' =>
 (D144 n x1' f1_0).bind fun r2' =>
 (bif r2' then some v8
 else f1 s0 f1_0 v7 (wr .i64 (v8 + 1)))
 else some (-1))
noncomputable def DL148c144_1 (n : Nat × Nat) (m : Nat) : (List (Int × Int)) → Int → Int → Int → Option R148c144 := Nat.rec (motive := fun _ => (List (Int × Int)) → Int → Int → Int → Option R148c144) (fun _ _ _ _ => none) (fun _ ih => DF148c144_1 n ih) m
theorem DL148c144_1_succ (n : Nat × Nat) (m : Nat) : DL148c144_1 n (m + 1) = DF148c144_1 n (DL148c144_1 n m) := rfl
theorem DL148c144_1_eq (n : Nat × Nat) (hn : n.2 = 1) : ∀ m, L148c144_1 n m = DL148c144_1 n m
  | 0 => by funext s0 f1_0 v7 v8; kernel_rfl
  | m + 1 => by
    have ih := DL148c144_1_eq n hn m
    funext s0 f1_0 v7 v8; refine (L148c144_1_eq n m s0 f1_0 v7 v8).trans ?_
    rw [DL148c144_1_succ]
    unfold DF148c144_1
    (try simp only [ih, S144_D n hn]) <;> first | with_reducible rfl | rfl
noncomputable def D148c144 (n : Nat × Nat) (s0 : List (Int × Int)) (cp_1_0 : Int) : Option R148c144 :=
    DL148c144_1 n n.1 s0 cp_1_0 (s0.length : Int) 0
theorem S148c144_D (n : Nat × Nat) (hn : n.2 = 1) : S148c144 n = D148c144 n := by
  funext s0 cp_1_0; refine (S148c144_eq n s0 cp_1_0).trans ?_
  unfold D148c144
  (try simp only [DL148c144_1_eq n hn, S144_D n hn]) <;> first | with_reducible rfl | rfl
/-D 143c144 -/
noncomputable def D143c144 (n : Nat × Nat) (s0 : List (Int × Int)) (cp_1_0 : Int) : Option R143c144 :=
 (D148c144 n s0 cp_1_0).bind fun r1' =>
 some (decide (r1' ≥ 0))
theorem S143c144_D (n : Nat × Nat) (hn : n.2 = 1) : S143c144 n = D143c144 n := by
  funext s0 cp_1_0; refine (S143c144_eq n s0 cp_1_0).trans ?_
  unfold D143c144
  (try simp only [S148c144_D n hn]) <;> first | with_reducible rfl | rfl
/-D 138 -/
noncomputable def D138 (n : Nat × Nat) (b0 : Int × List (Int × Int)) (v1 : Int) : Option R138 :=
 (D143c144 n b0.2 v1).bind fun r1' =>
 some (!r1')
theorem S138_D (n : Nat × Nat) (hn : n.2 = 1) : S138 n = D138 n := by
  funext b0 v1; refine (S138_eq n b0 v1).trans ?_
  unfold D138
  (try simp only [S143c144_D n hn]) <;> first | with_reducible rfl | rfl
/-D 127 -/
noncomputable def DL127_2 (n : Nat × Nat) (f1 : Int → Int → Int → Int → (List (Int × Int)) → List Int → Option R127) (many5 : Int) (v10 : Int) (v11 : Int) (b1_0 : Int) (b1_1 : List (Int × Int)) (best4 : List Int) : Option R127 :=
    f1 many5 v10 (wr .u64 (v11 + 1)) b1_0 b1_1 best4
theorem DL127_2_eq (n : Nat × Nat) (hn : n.2 = 1) (m1 : Nat) : L127_2 n m1 = DL127_2 n (L127_1 n m1) := by
  funext many5 v10 v11 b1_0 b1_1 best4; refine ((held_eq hn _).trans (L127_2_raw n m1 many5 v10 v11 b1_0 b1_1 best4)).trans ?_
  unfold DL127_2
  (try simp only [S137_D n hn, S138_D n hn, S37_D n hn]) <;> first | with_reducible rfl | rfl
noncomputable def DF127_1 (n : Nat × Nat) (f1 : Int → Int → Int → Int → (List (Int × Int)) → List Int → Option R127) (many5 : Int) (v10 : Int) (v11 : Int) (b1_0 : Int) (b1_1 : List (Int × Int)) (best4 : List Int) : Option R127 :=
 (bif decide (v11 < v10) then (D137 n v11).bind fun r1' =>
 (D138 n (b1_0, b1_1) v11).bind fun r2' =>
 ((bif ((!r2') == false) then ((bif (decide (many5 > 0) == true) then some (decide ((r1'.length : Int) > (best4.length : Int)))
 else some false)).bind fun b3' =>
 some b3'
 else some true)).bind fun b4' =>
 (bif b4' then DL127_2 n f1 many5 v10 v11 b1_0 b1_1 best4
 else ((bif ((many5 == 0) == false) then some (decide ((r1'.length : Int) < (best4.length : Int)))
 else some true)).bind fun b5' =>
 (bif b5' then DL127_2 n f1 1 v10 v11 b1_0 b1_1 r1'
 else (D37 n r1' best4).bind fun r6' =>
 (bif decide (r6' < 0) then DL127_2 n f1 (wr .i64 (many5 + 1)) v10 v11 b1_0 b1_1 r1'
 else DL127_2 n f1 (wr .i64 (many5 + 1)) v10 v11 b1_0 b1_1 best4)))
 else some (best4, many5))
noncomputable def DL127_1 (n : Nat × Nat) (m : Nat) : Int → Int → Int → Int → (List (Int × Int)) → List Int → Option R127 := Nat.rec (motive := fun _ => Int → Int → Int → Int → (List (Int × Int)) → List Int → Option R127) (fun _ _ _ _ _ _ => none) (fun _ ih => DF127_1 n ih) m
theorem DL127_1_succ (n : Nat × Nat) (m : Nat) : DL127_1 n (m + 1) = DF127_1 n (DL127_1 n m) := rfl
theorem DL127_1_eq (n : Nat × Nat) (hn : n.2 = 1) : ∀ m, L127_1 n m = DL127_1 n m
  | 0 => by funext many5 v10 v11 b1_0 b1_1 best4; kernel_rfl
  | m + 1 => by
    have ih := DL127_1_eq n hn m
    funext many5 v10 v11 b1_0 b1_1 best4; refine (L127_1_eq n m many5 v10 v11 b1_0 b1_1 best4).trans ?_
    rw [DL127_1_succ]
    unfold DF127_1
    (try simp only [ih, DL127_2_eq n hn, S137_D n hn, S138_D n hn, S37_D n hn]) <;> first | with_reducible rfl | rfl
noncomputable def D127 (n : Nat × Nat) (b0 : Int × List (Int × Int)) : Option R127 :=
 (bif decide (b0.1 < 0) then none
 else DL127_1 n n.1 0 (wr .u64 (1 * 2 ^ (min (Int.toNat b0.1) (IntKind.bits .u64)))) 0 b0.1 b0.2 [])
theorem S127_D (n : Nat × Nat) (hn : n.2 = 1) : S127 n = D127 n := by
  funext b0; refine (S127_eq n b0).trans ?_
  unfold D127
  (try simp only [DL127_2_eq n hn, DL127_1_eq n hn, S137_D n hn, S138_D n hn, S37_D n hn]) <;> first | with_reducible rfl | rfl
/-D 113 -/
noncomputable def D113 (n : Nat × Nat) (b0 : Int × List (Int × Int)) : Option R113 :=
 (D126 n b0).bind fun r1' =>
 (bif (r1' != 0) then some ([], r1')
 else (D127 n b0).bind fun r2' =>
 some (r2'.1, 0))
theorem S113_D (n : Nat × Nat) (hn : n.2 = 1) : S113 n = D113 n := by
  funext b0; refine (S113_eq n b0).trans ?_
  unfold D113
  (try simp only [S126_D n hn, S127_D n hn]) <;> first | with_reducible rfl | rfl
end Go.Proofs.YtkfkbebinhkdlaaDoor
