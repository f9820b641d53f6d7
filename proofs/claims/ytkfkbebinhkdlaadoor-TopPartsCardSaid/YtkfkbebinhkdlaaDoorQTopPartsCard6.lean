/- Texts of this claim, joined: G32 to D30. -/
import Derived.KernelRfl
import Derived.Test.YtkfkbebinhkdlaaDoorProg
import Derived.WalkKit
import Derived.Test.YtkfkbebinhkdlaaDoorQTopPartsCard5
set_option linter.unusedVariables false
set_option linter.unusedSimpArgs false
set_option maxRecDepth 100000
namespace Go.Proofs.YtkfkbebinhkdlaaDoor
open Go.Vi
abbrev R32 := Bool
noncomputable def c32 : Code := bodyOf Tryd.f32
noncomputable def an32 : Ann := (.s .l (.s (.s .l (.j [1] (.j [0, 1, 5, 11, 12] (.s (.s .l (.j [0, 1, 5, 11, 12] .l .l)) (.j [] (.j [0, 1, 5, 11, 12] (.s .l (.j [0, 1, 5, 11, 12] .l .l)) .l) .l)) .l) .l)) .l))
def pk32 : List PK := [.c .str, .c .str]
def rk32 : List RK := [.c .bool 4]
noncomputable def rt32 (st : St) : Option R32 := rtG rk32 st
noncomputable def E32 (n : Nat × Nat) : Env := { T := tab, phi := noPhi, eff := fun _ => false, fuel := n.1, hold := n.2 }
noncomputable def kq32_1 (n : Nat × Nat) : St → Option R32 := run (E32 n) (cB (cB c32)) (Ann.snd (Ann.snd an32)) rt32 (fun _ _ => none) rt32
noncomputable def xb32_3 (n : Nat × Nat) : Nat → St → Option R32 := fun j s => bif Nat.beq j 0 then normC [1] s (kq32_1 n) else (fun _ _ => none) j s
noncomputable def F32_4 (n : Nat × Nat) : (St → Option R32) → St → Option R32 := fun K s => run (E32 n) (cA (cA (cB (cA (cB c32))))) (Ann.fst (Ann.fst (Ann.snd (Ann.fst (Ann.snd an32))))) (fun s => normC [0, 1, 5, 11, 12] s K) (xb32_3 n) rt32 s
noncomputable def kq32_7 (n : Nat × Nat) (m1 : Nat) : St → Option R32 := run (E32 n) (cB (cB (cA (cA (cB (cA (cB c32))))))) (Ann.snd (Ann.snd (Ann.fst (Ann.fst (Ann.snd (Ann.fst (Ann.snd an32))))))) (fun s => normC [0, 1, 5, 11, 12] s (loopN (F32_4 n) m1)) (xb32_3 n) rt32
noncomputable def L32_1 (n : Nat × Nat) (m : Nat) (word0 : ByteArray) (part1 : ByteArray) (i5 : Int) : Option R32 := loopN (F32_4 n) m { tm := [.c (.str word0), .c (.str part1), uu, uu, uu, .c (.int .i64 i5), uu, uu, uu, uu, uu, uu, uu, uu, uu, uu, uu, uu, uu, uu, uu, uu, uu, uu, uu, uu], hp := emp }
noncomputable def L32_2 (n : Nat × Nat) (m1 : Nat) (word0 : ByteArray) (part1 : ByteArray) (i5 : Int) : Option R32 := loopN (fun _ => (kq32_7 n m1)) n.2 { tm := [.c (.str word0), .c (.str part1), uu, uu, uu, .c (.int .i64 i5), uu, uu, uu, uu, uu, uu, uu, uu, uu, uu, uu, uu, uu, uu, uu, uu, uu, uu, uu, uu], hp := emp }
theorem L32_1_eq (n : Nat × Nat) (m1 : Nat) (word0 : ByteArray) (part1 : ByteArray) (i5 : Int) : L32_1 n (m1 + 1) word0 part1 i5 =
 ((bif (decide (i5 < (word0.size : Int)) == true) then some (!strEq part1 (⟨#[]⟩ : ByteArray))
 else some false)).bind fun b1' =>
 (bif b1' then (idx (strBytes word0) i5).bind fun x2' =>
 (idx (strBytes part1) 0).bind fun x3' =>
 (bif (x2' == x3') then (bif bounds (some 1) none none part1.size then L32_2 n m1 word0 (strCut (some 1) none part1) i5
 else none)
 else L32_2 n m1 word0 part1 i5)
 else some (strEq part1 (⟨#[]⟩ : ByteArray))) := by kernel_rfl
theorem L32_2_raw (n : Nat × Nat) (m1 : Nat) (word0 : ByteArray) (part1 : ByteArray) (i5 : Int) : (kq32_7 n m1) { tm := [.c (.str word0), .c (.str part1), uu, uu, uu, .c (.int .i64 i5), uu, uu, uu, uu, uu, uu, uu, uu, uu, uu, uu, uu, uu, uu, uu, uu, uu, uu, uu, uu], hp := emp } =
    L32_1 n m1 word0 part1 (wr .i64 (i5 + 1)) := by kernel_rfl
noncomputable def S32 (n : Nat × Nat) (word0 : ByteArray) (part1 : ByteArray) : Option R32 := run (E32 n) c32 an32 rt32 (fun _ _ => none) rt32 { tm := [.c (.str word0), .c (.str part1), uu, uu, uu, uu, uu, uu, uu, uu, uu, uu, uu, uu, uu, uu, uu, uu, uu, uu, uu, uu, uu, uu, uu, uu], hp := emp }
theorem S32_eq (n : Nat × Nat) (word0 : ByteArray) (part1 : ByteArray) : S32 n word0 part1 =
    L32_1 n n.1 word0 part1 0 := by kernel_rfl
theorem S32_run (n : Nat × Nat) (xs : pksDen pk32) : S32 n xs.1 xs.2.1 = runG (E32 n) noScope c32 an32 (rtG rk32) (fun _ _ => none) (rtG rk32) (st0 pk32 xs Tryd.f32.ntmps) := by kernel_rfl
noncomputable def P32 (n : Nat × Nat) := phiOf pk32 rk32 (fun xs => S32 n xs.1 xs.2.1)
theorem call32 : CallOK Tryd.prog 32 := callOK_of Tryd.func32 (by kernel_rfl) (by kernel_rfl)
theorem env32 (n : Nat × Nat) : EnvOK Tryd.prog (E32 n) := envOK0 noPhi_ok rfl rfl
theorem par32 (n : Nat × Nat) : EnvPar (E32 n) := envPar0 noPhi_par rfl
theorem FC32 (n : Nat × Nat) : FCs Tryd.prog 32 (P32 n) := phiOf_FCs fun xs r h vs hv => FC.of_runG tabOK eqsOK (env32 n) (par32 n) mixed (fun _ p _ => noScope_ok p.1 p.2) Tryd.func32 (c := c32) (an := an32) (pks := pk32) (rks := rk32) (by kernel_rfl) (by kernel_rfl) hv ((S32_run n xs).symm.trans h)
abbrev R65 := Int
noncomputable def c65 : Code := bodyOf Tryd.f65
noncomputable def an65 : Ann := (.s .l (.s (.s .l (.j [0, 16, 17] .l .l)) (.s (.s .l (.j [] (.j [9, 16, 17] (.s .l (.s (.j [9, 10, 16, 17] .l .l) (.j [9, 16, 17] (.s .l (.s .l (.j [9, 16, 17] .l .l))) .l))) .l) .l)) .l)))
def pk65 : List PK := [.c .str]
def rk65 : List RK := [.c (.int .i64) 2]
noncomputable def rt65 (st : St) : Option R65 := rtG rk65 st
noncomputable def E65 (n : Nat × Nat) : Env := { T := tab, phi := noPhi, eff := fun _ => false, fuel := n.1, hold := n.2 }
noncomputable def kq65_3 (n : Nat × Nat) : St → Option R65 := run (E65 n) (cB (cB (cB c65))) (Ann.snd (Ann.snd (Ann.snd an65))) rt65 (fun _ _ => none) rt65
noncomputable def xb65_5 (n : Nat × Nat) : Nat → St → Option R65 := fun j s => bif Nat.beq j 0 then normC [] s (kq65_3 n) else (fun _ _ => none) j s
noncomputable def F65_6 (n : Nat × Nat) : (St → Option R65) → St → Option R65 := fun K s => run (E65 n) (cA (cA (cB (cA (cB (cB c65)))))) (Ann.fst (Ann.fst (Ann.snd (Ann.fst (Ann.snd (Ann.snd an65)))))) (fun s => normC [9, 16, 17] s K) (xb65_5 n) rt65 s
noncomputable def L65_1 (n : Nat × Nat) (m : Nat) (v9s : ByteArray) (v9p : Nat) : Option R65 := loopN (F65_6 n) m { tm := [uu, uu, uu, uu, uu, uu, uu, uu, uu, .ptr 9 0, uu, uu, uu, uu, uu, uu, uu, uu, uu], hp := (upd emp 9 (.iter v9s v9p)) }
theorem L65_1_eq (n : Nat × Nat) (m1 : Nat) (v9s : ByteArray) (v9p : Nat) : L65_1 n (m1 + 1) v9s v9p =
 (bif Nat.blt v9p v9s.size then ((strBytes v9s)[v9p]?).bind fun x1' =>
 (bif decide (x1' < 128) then ((bif (decide (x1' < 97) == false) then some (decide (x1' ≥ 103))
 else some true)).bind fun b2' =>
 (bif b2' then some 10
 else L65_1 n m1 v9s (v9p + 1))
 else none)
 else some 0) := by kernel_rfl
noncomputable def S65 (n : Nat × Nat) (word0 : ByteArray) : Option R65 := run (E65 n) c65 an65 rt65 (fun _ _ => none) rt65 { tm := [.c (.str word0), uu, uu, uu, uu, uu, uu, uu, uu, uu, uu, uu, uu, uu, uu, uu, uu, uu, uu], hp := emp }
theorem S65_eq (n : Nat × Nat) (word0 : ByteArray) : S65 n word0 =
 (bif decide ((word0.size : Int) > 10) then some 19
 else L65_1 n n.1 word0 0) := by kernel_rfl
theorem S65_run (n : Nat × Nat) (xs : pksDen pk65) : S65 n xs.1 = runG (E65 n) noScope c65 an65 (rtG rk65) (fun _ _ => none) (rtG rk65) (st0 pk65 xs Tryd.f65.ntmps) := by kernel_rfl
noncomputable def P65 (n : Nat × Nat) := phiOf pk65 rk65 (fun xs => S65 n xs.1)
theorem call65 : CallOK Tryd.prog 65 := callOK_of Tryd.func65 (by kernel_rfl) (by kernel_rfl)
theorem env65 (n : Nat × Nat) : EnvOK Tryd.prog (E65 n) := envOK0 noPhi_ok rfl rfl
theorem par65 (n : Nat × Nat) : EnvPar (E65 n) := envPar0 noPhi_par rfl
theorem FC65 (n : Nat × Nat) : FCs Tryd.prog 65 (P65 n) := phiOf_FCs fun xs r h vs hv => FC.of_runG tabOK eqsOK (env65 n) (par65 n) mixed (fun _ p _ => noScope_ok p.1 p.2) Tryd.func65 (c := c65) (an := an65) (pks := pk65) (rks := rk65) (by kernel_rfl) (by kernel_rfl) hv ((S65_run n xs).symm.trans h)
abbrev R31 := Int
noncomputable def c31 : Code := bodyOf Tryd.f31
noncomputable def an31 : Ann := (.s .l (.s (.s .l (.j [] (.j [6, 7, 8] (.s .l (.s (.j [6, 7, 8] .l .l) (.s (.j [6, 7, 8] (.s .l (.s .l (.s .l (.j [6, 7, 8] .l .l)))) .l) .l))) .l) .l)) .l))
def pk31 : List PK := [.c (.sl .str)]
def rk31 : List RK := [.c (.int .i64) 2]
noncomputable def rt31 (st : St) : Option R31 := rtG rk31 st
noncomputable def E31 (n : Nat × Nat) : Env := { T := tab, phi := (consPhi 65 (fun _ => true) (P65 n) noPhi), eff := fun _ => false, fuel := n.1, hold := n.2 }
noncomputable def kq31_1 (n : Nat × Nat) : St → Option R31 := run (E31 n) (cB (cB c31)) (Ann.snd (Ann.snd an31)) rt31 (fun _ _ => none) rt31
noncomputable def xb31_3 (n : Nat × Nat) : Nat → St → Option R31 := fun j s => bif Nat.beq j 0 then normC [] s (kq31_1 n) else (fun _ _ => none) j s
noncomputable def F31_4 (n : Nat × Nat) : (St → Option R31) → St → Option R31 := fun K s => run (E31 n) (cA (cA (cB (cA (cB c31))))) (Ann.fst (Ann.fst (Ann.snd (Ann.fst (Ann.snd an31))))) (fun s => normC [6, 7, 8] s K) (xb31_3 n) rt31 s
noncomputable def L31_1 (n : Nat × Nat) (m : Nat) (v6 : List ByteArray) (v7 : Int) (v8 : Int) : Option R31 := loopN (F31_4 n) m { tm := [uu, uu, uu, uu, uu, uu, .c (.sl .str v6 false), .c (.int .i64 v7), .c (.int .i64 v8), uu, uu, uu, uu, uu, uu, uu, uu, uu], hp := emp }
theorem L31_1_eq (n : Nat × Nat) (m1 : Nat) (v6 : List ByteArray) (v7 : Int) (v8 : Int) : L31_1 n (m1 + 1) v6 v7 v8 =
 (bif decide (v8 < v7) then (idx v6 v8).bind fun x1' =>
 (S65 n x1').bind fun r2' =>
 (bif (r2' != 0) then some r2'
 else L31_1 n m1 v6 v7 (wr .i64 (v8 + 1)))
 else some 0) := by kernel_rfl
noncomputable def S31 (n : Nat × Nat) (words0 : List ByteArray) : Option R31 := run (E31 n) c31 an31 rt31 (fun _ _ => none) rt31 { tm := [.c (.sl .str words0 false), uu, uu, uu, uu, uu, uu, uu, uu, uu, uu, uu, uu, uu, uu, uu, uu, uu], hp := emp }
theorem S31_eq (n : Nat × Nat) (words0 : List ByteArray) : S31 n words0 =
    L31_1 n n.1 words0 (words0.length : Int) 0 := by kernel_rfl
theorem S31_run (n : Nat × Nat) (xs : pksDen pk31) : S31 n xs.1 = runG (E31 n) noScope c31 an31 (rtG rk31) (fun _ _ => none) (rtG rk31) (st0 pk31 xs Tryd.f31.ntmps) := by kernel_rfl
noncomputable def P31 (n : Nat × Nat) := phiOf pk31 rk31 (fun xs => S31 n xs.1)
theorem call31 : CallOK Tryd.prog 31 := callOK_of Tryd.func31 (by kernel_rfl) (by kernel_rfl)
theorem env31 (n : Nat × Nat) : EnvOK Tryd.prog (E31 n) := envOK0 (consPhi_ok (FC65 n) call65 noPhi_ok) rfl rfl
theorem par31 (n : Nat × Nat) : EnvPar (E31 n) := envPar0 (consPhi_par phiOf_Par1 noPhi_par) rfl
theorem FC31 (n : Nat × Nat) : FCs Tryd.prog 31 (P31 n) := phiOf_FCs fun xs r h vs hv => FC.of_runG tabOK eqsOK (env31 n) (par31 n) mixed (fun _ p _ => noScope_ok p.1 p.2) Tryd.func31 (c := c31) (an := an31) (pks := pk31) (rks := rk31) (by kernel_rfl) (by kernel_rfl) hv ((S31_run n xs).symm.trans h)
abbrev R75 := Int × Int
noncomputable def c75 : Code := bodyOf Tryd.f75
noncomputable def an75 : Ann := (.s .l (.s (.s .l (.s .l (.j [0, 1] .l .l))) (.s .l (.s .l (.s (.s .l (.j [1, 7] (.j [1, 7, 25, 26, 27] (.s .l (.s (.j [1, 7, 25, 26, 27] .l .l) (.s (.j [1, 7, 25, 26, 27] (.s .l (.s .l (.j [1, 7, 25, 26, 27] (.j [1, 7, 9, 10, 25, 26, 27] (.s (.s .l (.j [1, 7, 9, 10, 25, 26, 27] .l .l)) (.j [] (.j [1, 7, 9, 10, 25, 26, 27] (.s .l (.j [1, 7, 9, 10, 25, 26, 27] .l .l)) .l) .l)) .l) .l))) .l) .l))) .l) .l)) .l)))))
def pk75 : List PK := [.c .str, .c .str]
def rk75 : List RK := [.c (.int .i64) 4, .c (.int .i64) 5]
noncomputable def rt75 (st : St) : Option R75 := rtG rk75 st
noncomputable def E75 (n : Nat × Nat) : Env := { T := tab, phi := (consPhi 31 (fun _ => true) (P31 n) noPhi), eff := fun _ => false, fuel := n.1, hold := n.2 }
noncomputable def kq75_3 (n : Nat × Nat) : St → Option R75 := run (E75 n) (cB (cB (cB (cB (cB c75))))) (Ann.snd (Ann.snd (Ann.snd (Ann.snd (Ann.snd an75))))) rt75 (fun _ _ => none) rt75
noncomputable def xb75_5 (n : Nat × Nat) : Nat → St → Option R75 := fun j s => bif Nat.beq j 0 then normC [1, 7] s (kq75_3 n) else (fun _ _ => none) j s
noncomputable def F75_6 (n : Nat × Nat) : (St → Option R75) → St → Option R75 := fun K s => run (E75 n) (cA (cA (cB (cA (cB (cB (cB (cB c75)))))))) (Ann.fst (Ann.fst (Ann.snd (Ann.fst (Ann.snd (Ann.snd (Ann.snd (Ann.snd an75)))))))) (fun s => normC [1, 7, 25, 26, 27] s K) (xb75_5 n) rt75 s
noncomputable def kq75_9 (n : Nat × Nat) (m1 : Nat) : St → Option R75 := run (E75 n) (cB (cB (cB (cA (cA (cB (cA (cB (cB (cB (cB c75))))))))))) (Ann.snd (Ann.snd (Ann.snd (Ann.fst (Ann.fst (Ann.snd (Ann.fst (Ann.snd (Ann.snd (Ann.snd (Ann.snd an75))))))))))) (fun s => normC [1, 7, 25, 26, 27] s (loopN (F75_6 n) m1)) (xb75_5 n) rt75
noncomputable def kc75_10 (n : Nat × Nat) (m1 : Nat) : St → Option R75 := fun s => normC [1, 7, 25, 26, 27] s (kq75_9 n m1)
noncomputable def xb75_11 (n : Nat × Nat) (m1 : Nat) : Nat → St → Option R75 := fun j s => bif Nat.beq j 1 then normC [1, 7, 25, 26, 27] s (kq75_9 n m1) else (xb75_5 n) j s
noncomputable def xb75_13 (n : Nat × Nat) (m1 : Nat) : Nat → St → Option R75 := fun j s => bif Nat.beq j 2 then normC [1, 7, 25, 26, 27] s (kc75_10 n m1) else (xb75_11 n m1) j s
noncomputable def F75_14 (n : Nat × Nat) (m1 : Nat) : (St → Option R75) → St → Option R75 := fun K s => run (E75 n) (cA (cA (cB (cB (cA (cA (cB (cB (cA (cA (cB (cA (cB (cB (cB (cB c75)))))))))))))))) (Ann.fst (Ann.fst (Ann.snd (Ann.snd (Ann.fst (Ann.fst (Ann.snd (Ann.snd (Ann.fst (Ann.fst (Ann.snd (Ann.fst (Ann.snd (Ann.snd (Ann.snd (Ann.snd an75)))))))))))))))) (fun s => normC [1, 7, 9, 10, 25, 26, 27] s K) (xb75_13 n m1) rt75 s
noncomputable def kq75_17 (n : Nat × Nat) (m1 m2 : Nat) : St → Option R75 := run (E75 n) (cB (cB (cA (cA (cB (cB (cA (cA (cB (cB (cA (cA (cB (cA (cB (cB (cB (cB c75)))))))))))))))))) (Ann.snd (Ann.snd (Ann.fst (Ann.fst (Ann.snd (Ann.snd (Ann.fst (Ann.fst (Ann.snd (Ann.snd (Ann.fst (Ann.fst (Ann.snd (Ann.fst (Ann.snd (Ann.snd (Ann.snd (Ann.snd an75)))))))))))))))))) (fun s => normC [1, 7, 9, 10, 25, 26, 27] s (loopN (F75_14 n m1) m2)) (xb75_13 n m1) rt75
noncomputable def L75_1 (n : Nat × Nat) (m : Nat) (part1 : ByteArray) (v25 : List Int) (v26 : Int) (v27 : Int) (begun7 : List Int) : Option R75 := loopN (F75_6 n) m { tm := [uu, .c (.str part1), uu, uu, uu, uu, uu, .own 7 none false, uu, uu, uu, uu, uu, uu, uu, uu, uu, uu, uu, uu, uu, uu, uu, uu, uu, .c (.sl (.int .u8) v25 false), .c (.int .i64 v26), .c (.int .i64 v27), uu, uu, uu, uu, uu, uu, uu, uu, uu, uu, uu, uu, uu, uu, uu, uu, uu, uu, uu, uu, uu, uu, uu, uu, uu, uu, uu, uu, uu, uu, uu, uu], hp := (upd emp 7 (.arr (.int .i64) begun7 false)) }
noncomputable def L75_2 (n : Nat × Nat) (m1 : Nat) (m : Nat) (part1 : ByteArray) (c9 : Int) (k10 : Int) (v25 : List Int) (v26 : Int) (v27 : Int) (begun7 : List Int) : Option R75 := loopN (F75_14 n m1) m { tm := [uu, .c (.str part1), uu, uu, uu, uu, uu, .own 7 none false, uu, .c (.int .u8 c9), .c (.int .i64 k10), uu, uu, uu, uu, uu, uu, uu, uu, uu, uu, uu, uu, uu, uu, .c (.sl (.int .u8) v25 false), .c (.int .i64 v26), .c (.int .i64 v27), uu, uu, uu, uu, uu, uu, uu, uu, uu, uu, uu, uu, uu, uu, uu, uu, uu, uu, uu, uu, uu, uu, uu, uu, uu, uu, uu, uu, uu, uu, uu, uu], hp := (upd emp 7 (.arr (.int .i64) begun7 false)) }
noncomputable def L75_3 (n : Nat × Nat) (m1 m2 : Nat) (part1 : ByteArray) (c9 : Int) (k10 : Int) (v25 : List Int) (v26 : Int) (v27 : Int) (begun7 : List Int) : Option R75 := loopN (fun _ => (kq75_17 n m1 m2)) n.2 { tm := [uu, .c (.str part1), uu, uu, uu, uu, uu, .own 7 none false, uu, .c (.int .u8 c9), .c (.int .i64 k10), uu, uu, uu, uu, uu, uu, uu, uu, uu, uu, uu, uu, uu, uu, .c (.sl (.int .u8) v25 false), .c (.int .i64 v26), .c (.int .i64 v27), uu, uu, uu, uu, uu, uu, uu, uu, uu, uu, uu, uu, uu, uu, uu, uu, uu, uu, uu, uu, uu, uu, uu, uu, uu, uu, uu, uu, uu, uu, uu, uu], hp := (upd emp 7 (.arr (.int .i64) begun7 false)) }
theorem L75_1_eq (n : Nat × Nat) (m1 : Nat) (part1 : ByteArray) (v25 : List Int) (v26 : Int) (v27 : Int) (begun7 : List Int) : L75_1 n (m1 + 1) part1 v25 v26 v27 begun7 =
 (bif decide (v27 < v26) then (idx v25 v27).bind fun x3' =>
      L75_2 n m1 n.1 part1 x3' (part1.size : Int) v25 v26 v27 begun7
 else (bif inB (part1.size : Int) begun7.length then (idx begun7 (part1.size : Int)).bind fun x4' =>
 some (x4', 0)
 else none)) := by kernel_rfl
theorem L75_2_eq (n : Nat × Nat) (m1 m2 : Nat) (part1 : ByteArray) (c9 : Int) (k10 : Int) (v25 : List Int) (v26 : Int) (v27 : Int) (begun7 : List Int) : L75_2 n m1 (m2 + 1) part1 c9 k10 v25 v26 v27 begun7 =
 (bif decide (k10 > 0) then (idx (strBytes part1) (wr .i64 (k10 - 1))).bind fun x5' =>
 (bif (x5' == c9) then (bif inB k10 begun7.length then (idx begun7 k10).bind fun x6' =>
 (bif inB (wr .i64 (k10 - 1)) begun7.length then (idx begun7 (wr .i64 (k10 - 1))).bind fun x7' =>
 (bif inB k10 begun7.length then (idx begun7 k10).bind fun x8' =>
              L75_3 n m1 m2 part1 c9 k10 v25 v26 v27 (begun7.set (Int.toNat k10) (wr .i64 (x6' + x7')))
 else none)
 else none)
 else none)
 else L75_3 n m1 m2 part1 c9 k10 v25 v26 v27 begun7)
 else L75_1 n m1 part1 v25 v26 (wr .i64 (v27 + 1)) begun7) := by kernel_rfl
theorem L75_3_raw (n : Nat × Nat) (m1 m2 : Nat) (part1 : ByteArray) (c9 : Int) (k10 : Int) (v25 : List Int) (v26 : Int) (v27 : Int) (begun7 : List Int) : (kq75_17 n m1 m2) { tm := [uu, .c (.str part1), uu, uu, uu, uu, uu, .own 7 none false, uu, .c (.int .u8 c9), .c (.int .i64 k10), uu, uu, uu, uu, uu, uu, uu, uu, uu, uu, uu, uu, uu, uu, .c (.sl (.int .u8) v25 false), .c (.int .i64 v26), .c (.int .i64 v27), uu, uu, uu, uu, uu, uu, uu, uu, uu, uu, uu, uu, uu, uu, uu, uu, uu, uu, uu, uu, uu, uu, uu, uu, uu, uu, uu, uu, uu, uu, uu, uu], hp := (upd emp 7 (.arr (.int .i64) begun7 false)) } =
    L75_2 n m1 m2 part1 c9 (wr .i64 (k10 - 1)) v25 v26 v27 begun7 := by kernel_rfl
noncomputable def S75 (n : Nat × Nat) (word0 : ByteArray) (part1 : ByteArray) : Option R75 := run (E75 n) c75 an75 rt75 (fun _ _ => none) rt75 { tm := [.c (.str word0), .c (.str part1), uu, uu, uu, uu, uu, uu, uu, uu, uu, uu, uu, uu, uu, uu, uu, uu, uu, uu, uu, uu, uu, uu, uu, uu, uu, uu, uu, uu, uu, uu, uu, uu, uu, uu, uu, uu, uu, uu, uu, uu, uu, uu, uu, uu, uu, uu, uu, uu, uu, uu, uu, uu, uu, uu, uu, uu, uu, uu], hp := emp }
theorem S75_eq (n : Nat × Nat) (word0 : ByteArray) (part1 : ByteArray) : S75 n word0 part1 =
 (S31 n [word0, part1]).bind fun r1' =>
 (bif (r1' != 0) then some (0, r1')
 else (bif decide (0 ≤ wr .i64 ((part1.size : Int) + 1)) && decide (wr .i64 ((part1.size : Int) + 1) ≤ wr .i64 ((part1.size : Int) + 1)) && decide (wr .i64 ((part1.size : Int) + 1) ≤ lim) then (bif inB 0 (List.replicate (Int.toNat (wr .i64 ((part1.size : Int) + 1))) (0 : Int)).length then (idx (List.replicate (Int.toNat (wr .i64 ((part1.size : Int) + 1))) (0 : Int)) 0).bind fun x2' =>
          L75_1 n n.1 part1 (strBytes word0) ((strBytes word0).length : Int) 0 ((List.replicate (Int.toNat (wr .i64 ((part1.size : Int) + 1))) (0 : Int)).set (Int.toNat 0) 1)
 else none)
 else none)) := by kernel_rfl
theorem S75_run (n : Nat × Nat) (xs : pksDen pk75) : S75 n xs.1 xs.2.1 = runG (E75 n) noScope c75 an75 (rtG rk75) (fun _ _ => none) (rtG rk75) (st0 pk75 xs Tryd.f75.ntmps) := by kernel_rfl
noncomputable def P75 (n : Nat × Nat) := phiOf pk75 rk75 (fun xs => S75 n xs.1 xs.2.1)
theorem call75 : CallOK Tryd.prog 75 := callOK_of Tryd.func75 (by kernel_rfl) (by kernel_rfl)
theorem env75 (n : Nat × Nat) : EnvOK Tryd.prog (E75 n) := envOK0 (consPhi_ok (FC31 n) call31 noPhi_ok) rfl rfl
theorem par75 (n : Nat × Nat) : EnvPar (E75 n) := envPar0 (consPhi_par phiOf_Par1 noPhi_par) rfl
theorem FC75 (n : Nat × Nat) : FCs Tryd.prog 75 (P75 n) := phiOf_FCs fun xs r h vs hv => FC.of_runG tabOK eqsOK (env75 n) (par75 n) mixed (fun _ p _ => noScope_ok p.1 p.2) Tryd.func75 (c := c75) (an := an75) (pks := pk75) (rks := rk75) (by kernel_rfl) (by kernel_rfl) hv ((S75_run n xs).symm.trans h)
abbrev R105 := Int
noncomputable def c105 : Code := bodyOf Tryd.f105
noncomputable def an105 : Ann := (.s .l (.s (.s .l (.j [0, 1] (.s .l (.j [0, 1] .l (.s .l (.j [0, 1] .l .l)))) .l)) (.s (.s .l (.j [] (.j [1, 22] (.s .l (.s (.j [1, 22, 23] .l .l) (.j [1, 22] (.s .l (.s .l (.j [1, 22] .l .l))) .l))) .l) .l)) .l)))
def pk105 : List PK := [.c .str, .c (.int .i64)]
def rk105 : List RK := [.c (.int .i64) 4]
noncomputable def rt105 (st : St) : Option R105 := rtG rk105 st
noncomputable def E105 (n : Nat × Nat) : Env := { T := tab, phi := (consPhi 65 (fun _ => true) (P65 n) noPhi), eff := fun _ => false, fuel := n.1, hold := n.2 }
noncomputable def kq105_6 (n : Nat × Nat) : St → Option R105 := run (E105 n) (cB (cB (cB c105))) (Ann.snd (Ann.snd (Ann.snd an105))) rt105 (fun _ _ => none) rt105
noncomputable def xb105_8 (n : Nat × Nat) : Nat → St → Option R105 := fun j s => bif Nat.beq j 1 then normC [] s (kq105_6 n) else (fun _ _ => none) j s
noncomputable def F105_9 (n : Nat × Nat) : (St → Option R105) → St → Option R105 := fun K s => run (E105 n) (cA (cA (cB (cA (cB (cB c105)))))) (Ann.fst (Ann.fst (Ann.snd (Ann.fst (Ann.snd (Ann.snd an105)))))) (fun s => normC [1, 22] s K) (xb105_8 n) rt105 s
noncomputable def L105_1 (n : Nat × Nat) (m : Nat) (letters1 : Int) (v22s : ByteArray) (v22p : Nat) : Option R105 := loopN (F105_9 n) m { tm := [uu, .c (.int .i64 letters1), uu, uu, uu, uu, uu, uu, uu, uu, uu, uu, uu, uu, uu, uu, uu, uu, uu, uu, uu, uu, .ptr 22 0, uu, uu, uu, uu, uu, uu, uu, uu], hp := (upd emp 22 (.iter v22s v22p)) }
theorem L105_1_eq (n : Nat × Nat) (m1 : Nat) (letters1 : Int) (v22s : ByteArray) (v22p : Nat) : L105_1 n (m1 + 1) letters1 v22s v22p =
 (bif Nat.blt v22p v22s.size then ((strBytes v22s)[v22p]?).bind fun x3' =>
 (bif decide (x3' < 128) then (bif decide (x3' ≥ wr .i32 (97 + (wr .i32 letters1))) then some 2
 else L105_1 n m1 letters1 v22s (v22p + 1))
 else none)
 else some 0) := by kernel_rfl
noncomputable def S105 (n : Nat × Nat) (word0 : ByteArray) (letters1 : Int) : Option R105 := run (E105 n) c105 an105 rt105 (fun _ _ => none) rt105 { tm := [.c (.str word0), .c (.int .i64 letters1), uu, uu, uu, uu, uu, uu, uu, uu, uu, uu, uu, uu, uu, uu, uu, uu, uu, uu, uu, uu, uu, uu, uu, uu, uu, uu, uu, uu, uu], hp := emp }
theorem S105_eq (n : Nat × Nat) (word0 : ByteArray) (letters1 : Int) : S105 n word0 letters1 =
 (S65 n word0).bind fun r1' =>
 (bif (r1' != 0) then some r1'
 else ((bif (decide (letters1 < 1) == false) then some (decide (letters1 > 6))
 else some true)).bind fun b2' =>
 (bif b2' then some 1
 else L105_1 n n.1 letters1 word0 0)) := by kernel_rfl
theorem S105_run (n : Nat × Nat) (xs : pksDen pk105) : S105 n xs.1 xs.2.1 = runG (E105 n) noScope c105 an105 (rtG rk105) (fun _ _ => none) (rtG rk105) (st0 pk105 xs Tryd.f105.ntmps) := by kernel_rfl
noncomputable def P105 (n : Nat × Nat) := phiOf pk105 rk105 (fun xs => S105 n xs.1 xs.2.1)
theorem call105 : CallOK Tryd.prog 105 := callOK_of Tryd.func105 (by kernel_rfl) (by kernel_rfl)
theorem env105 (n : Nat × Nat) : EnvOK Tryd.prog (E105 n) := envOK0 (consPhi_ok (FC65 n) call65 noPhi_ok) rfl rfl
theorem par105 (n : Nat × Nat) : EnvPar (E105 n) := envPar0 (consPhi_par phiOf_Par1 noPhi_par) rfl
theorem FC105 (n : Nat × Nat) : FCs Tryd.prog 105 (P105 n) := phiOf_FCs fun xs r h vs hv => FC.of_runG tabOK eqsOK (env105 n) (par105 n) mixed (fun _ p _ => noScope_ok p.1 p.2) Tryd.func105 (c := c105) (an := an105) (pks := pk105) (rks := rk105) (by kernel_rfl) (by kernel_rfl) hv ((S105_run n xs).symm.trans h)
abbrev R106 := List Int
noncomputable def c106 : Code := bodyOf Tryd.f106
noncomputable def an106 : Ann := (.s .l (.s .l (.s .l (.s (.s .l (.j [5] (.j [1, 5, 6, 11] (.s .l (.s (.j [1, 5, 6, 11, 12] .l .l) (.j [1, 5, 6, 11] (.s .l (.s .l (.s .l (.j [1, 5, 6, 11] .l .l)))) .l))) .l) .l)) .l))))
def pk106 : List PK := [.c .str, .c (.int .i64)]
def rk106 : List RK := [.own (.int .i64) 4]
noncomputable def rt106 (st : St) : Option R106 := rtG rk106 st
noncomputable def E106 (n : Nat × Nat) : Env := { T := tab, phi := noPhi, eff := fun _ => false, fuel := n.1, hold := n.2 }
noncomputable def kq106_1 (n : Nat × Nat) : St → Option R106 := run (E106 n) (cB (cB (cB (cB c106)))) (Ann.snd (Ann.snd (Ann.snd (Ann.snd an106)))) rt106 (fun _ _ => none) rt106
noncomputable def xb106_3 (n : Nat × Nat) : Nat → St → Option R106 := fun j s => bif Nat.beq j 0 then normC [5] s (kq106_1 n) else (fun _ _ => none) j s
noncomputable def F106_4 (n : Nat × Nat) : (St → Option R106) → St → Option R106 := fun K s => run (E106 n) (cA (cA (cB (cA (cB (cB (cB c106))))))) (Ann.fst (Ann.fst (Ann.snd (Ann.fst (Ann.snd (Ann.snd (Ann.snd an106))))))) (fun s => normC [1, 5, 6, 11] s K) (xb106_3 n) rt106 s
noncomputable def L106_1 (n : Nat × Nat) (m : Nat) (letters1 : Int) (out5 : List Int) (met6 : List (Int × Bool)) (v11s : ByteArray) (v11p : Nat) : Option R106 := loopN (F106_4 n) m { tm := [uu, .c (.int .i64 letters1), uu, uu, uu, .own 5 none false, .map 6, uu, uu, uu, uu, .ptr 11 0, uu, uu, uu, uu, uu, uu, uu, uu, uu, uu, uu, uu, uu, uu, uu, uu, uu], hp := (upd (upd (upd emp 11 (.iter v11s v11p)) 6 (.mp .i32 .bool met6)) 5 (.arr (.int .i64) out5 false)) }
theorem L106_1_eq (n : Nat × Nat) (m1 : Nat) (letters1 : Int) (out5 : List Int) (met6 : List (Int × Bool)) (v11s : ByteArray) (v11p : Nat) : L106_1 n (m1 + 1) letters1 out5 met6 v11s v11p =
 (bif Nat.blt v11p v11s.size then ((strBytes v11s)[v11p]?).bind fun x1' =>
 (bif decide (x1' < 128) then (bif (((aset met6 x1' true).length : Int) == letters1) then (bif decide (out5.length + [wr .i64 ((v11p : Int) + 1)].length ≤ lim) then L106_1 n m1 letters1 (out5 ++ [wr .i64 ((v11p : Int) + 1)]) [] v11s (v11p + 1)
 else none)
 else L106_1 n m1 letters1 out5 (aset met6 x1' true) v11s (v11p + 1))
 else none)
 else some out5) := by kernel_rfl
noncomputable def S106 (n : Nat × Nat) (word0 : ByteArray) (letters1 : Int) : Option R106 := run (E106 n) c106 an106 rt106 (fun _ _ => none) rt106 { tm := [.c (.str word0), .c (.int .i64 letters1), uu, uu, uu, uu, uu, uu, uu, uu, uu, uu, uu, uu, uu, uu, uu, uu, uu, uu, uu, uu, uu, uu, uu, uu, uu, uu, uu], hp := emp }
theorem S106_eq (n : Nat × Nat) (word0 : ByteArray) (letters1 : Int) : S106 n word0 letters1 =
    L106_1 n n.1 letters1 [] [] word0 0 := by kernel_rfl
theorem S106_run (n : Nat × Nat) (xs : pksDen pk106) : S106 n xs.1 xs.2.1 = runG (E106 n) noScope c106 an106 (rtG rk106) (fun _ _ => none) (rtG rk106) (st0 pk106 xs Tryd.f106.ntmps) := by kernel_rfl
noncomputable def P106 (n : Nat × Nat) := phiOf pk106 rk106 (fun xs => S106 n xs.1 xs.2.1)
theorem call106 : CallOK Tryd.prog 106 := callOK_of Tryd.func106 (by kernel_rfl) (by kernel_rfl)
theorem env106 (n : Nat × Nat) : EnvOK Tryd.prog (E106 n) := envOK0 noPhi_ok rfl rfl
theorem par106 (n : Nat × Nat) : EnvPar (E106 n) := envPar0 noPhi_par rfl
theorem FC106 (n : Nat × Nat) : FCs Tryd.prog 106 (P106 n) := phiOf_FCs fun xs r h vs hv => FC.of_runG tabOK eqsOK (env106 n) (par106 n) mixed (fun _ p _ => noScope_ok p.1 p.2) Tryd.func106 (c := c106) (an := an106) (pks := pk106) (rks := rk106) (by kernel_rfl) (by kernel_rfl) hv ((S106_run n xs).symm.trans h)
/- slices.Index[[]byte,byte] -/
abbrev R107 := Int
noncomputable def c107 : Code := bodyOf Tryd.f107
noncomputable def an107 : Ann := (.s .l (.s (.s .l (.j [] (.j [0, 1, 7, 8] (.s .l (.s (.j [0, 1, 7, 8] .l .l) (.s (.j [0, 1, 7, 8] (.s .l (.s .l (.j [0, 1, 7, 8] .l .l))) .l) .l))) .l) .l)) .l))
def pk107 : List PK := [.c (.sl (.int .u8)), .c (.int .u8)]
def rk107 : List RK := [.c (.int .i64) 4]
noncomputable def rt107 (st : St) : Option R107 := rtG rk107 st
noncomputable def E107 (n : Nat × Nat) : Env := { T := tab, phi := noPhi, eff := fun _ => false, fuel := n.1, hold := n.2 }
noncomputable def kq107_1 (n : Nat × Nat) : St → Option R107 := run (E107 n) (cB (cB c107)) (Ann.snd (Ann.snd an107)) rt107 (fun _ _ => none) rt107
noncomputable def xb107_3 (n : Nat × Nat) : Nat → St → Option R107 := fun j s => bif Nat.beq j 0 then normC [] s (kq107_1 n) else (fun _ _ => none) j s
noncomputable def F107_4 (n : Nat × Nat) : (St → Option R107) → St → Option R107 := fun K s => run (E107 n) (cA (cA (cB (cA (cB c107))))) (Ann.fst (Ann.fst (Ann.snd (Ann.fst (Ann.snd an107))))) (fun s => normC [0, 1, 7, 8] s K) (xb107_3 n) rt107 s
noncomputable def L107_1 (n : Nat × Nat) (m : Nat) (s0 : List Int) (v1 : Int) (v7 : Int) (v8 : Int) : Option R107 := loopN (F107_4 n) m { tm := [.c (.sl (.int .u8) s0 false), .c (.int .u8 v1), uu, uu, uu, uu, uu, .c (.int .i64 v7), .c (.int .i64 v8), uu, uu, uu, uu, uu, uu, uu, uu, uu, uu], hp := emp }
theorem L107_1_eq (n : Nat × Nat) (m1 : Nat) (s0 : List Int) (v1 : Int) (v7 : Int) (v8 : Int) : L107_1 n (m1 + 1) s0 v1 v7 v8 =
 (bif decide (v8 < v7) then (idx s0 v8).bind fun x1' =>
 (bif (v1 == x1') then some v8
 else L107_1 n m1 s0 v1 v7 (wr .i64 (v8 + 1)))
 else some (-1)) := by kernel_rfl
noncomputable def S107 (n : Nat × Nat) (s0 : List Int) (v1 : Int) : Option R107 := run (E107 n) c107 an107 rt107 (fun _ _ => none) rt107 { tm := [.c (.sl (.int .u8) s0 false), .c (.int .u8 v1), uu, uu, uu, uu, uu, uu, uu, uu, uu, uu, uu, uu, uu, uu, uu, uu, uu], hp := emp }
theorem S107_eq (n : Nat × Nat) (s0 : List Int) (v1 : Int) : S107 n s0 v1 =
    L107_1 n n.1 s0 v1 (s0.length : Int) 0 := by kernel_rfl
theorem S107_run (n : Nat × Nat) (xs : pksDen pk107) : S107 n xs.1 xs.2.1 = runG (E107 n) noScope c107 an107 (rtG rk107) (fun _ _ => none) (rtG rk107) (st0 pk107 xs Tryd.f107.ntmps) := by kernel_rfl
noncomputable def P107 (n : Nat × Nat) := phiOf pk107 rk107 (fun xs => S107 n xs.1 xs.2.1)
theorem call107 : CallOK Tryd.prog 107 := callOK_of Tryd.func107 (by kernel_rfl) (by kernel_rfl)
theorem env107 (n : Nat × Nat) : EnvOK Tryd.prog (E107 n) := envOK0 noPhi_ok rfl rfl
theorem par107 (n : Nat × Nat) : EnvPar (E107 n) := envPar0 noPhi_par rfl
theorem FC107 (n : Nat × Nat) : FCs Tryd.prog 107 (P107 n) := phiOf_FCs fun xs r h vs hv => FC.of_runG tabOK eqsOK (env107 n) (par107 n) mixed (fun _ p _ => noScope_ok p.1 p.2) Tryd.func107 (c := c107) (an := an107) (pks := pk107) (rks := rk107) (by kernel_rfl) (by kernel_rfl) hv ((S107_run n xs).symm.trans h)
abbrev R76 := ByteArray × Int
noncomputable def c76 : Code := bodyOf Tryd.f76
noncomputable def an76 : Ann := (.s .l (.s (.s .l (.s .l (.j [0, 1, 28, 29, 49, 50, 51, 52, 53, 54, 55, 56, 57, 58] .l .l))) (.s .l (.j [4, 5] (.j [0, 1, 7, 28, 29, 49, 50, 51, 52, 53, 54, 55, 56, 57, 58] (.j [0, 1, 7, 28, 29, 49, 50, 51, 52, 53, 54, 55, 56, 57, 58] (.s .l (.s .l (.s .l (.j [0, 1, 7, 28, 29, 49, 50, 51, 52, 53, 54, 55, 56, 57, 58] (.j [0, 1, 7, 8, 9, 10, 28, 29, 49, 50, 51, 52, 53, 54, 55, 56, 57, 58] (.s (.s .l (.j [0, 1, 7, 8, 9, 10, 28, 29, 49, 50, 51, 52, 53, 54, 55, 56, 57, 58] .l .l)) (.j [] (.j [0, 1, 7, 8, 9, 10, 28, 29, 49, 50, 51, 52, 53, 54, 55, 56, 57, 58] (.s .l (.j [0, 1, 7, 8, 9, 10, 28, 29, 49, 50, 51, 52, 53, 54, 55, 56, 57, 58] (.s .l (.j [0, 1, 7, 8, 9, 10, 28, 29, 49, 50, 51, 52, 53, 54, 55, 56, 57, 58] .l (.s .l (.j [0, 1, 7, 8, 9, 10, 28, 29, 49, 50, 51, 52, 53, 54, 55, 56, 57, 58] .l .l)))) .l)) .l) .l)) .l) .l)))) .l) .l) .l))))
def pk76 : List PK := [.c .str, .c (.int .i64)]
def rk76 : List RK := [.c .str 4, .c (.int .i64) 5]
noncomputable def rt76 (st : St) : Option R76 := rtG rk76 st
noncomputable def E76 (n : Nat × Nat) : Env := { T := tab, phi := (consPhi 105 (fun _ => true) (P105 n) (consPhi 106 (fun _ => true) (P106 n) (consPhi 107 (fun _ => true) (P107 n) noPhi))), eff := fun _ => false, fuel := n.1, hold := n.2 }
noncomputable def xb76_4 (n : Nat × Nat) : Nat → St → Option R76 := fun j s => bif Nat.beq j 0 then normC [4, 5] s rt76 else (fun _ _ => none) j s
noncomputable def F76_5 (n : Nat × Nat) : (St → Option R76) → St → Option R76 := fun K s => run (E76 n) (cA (cA (cB (cB (cB c76))))) (Ann.fst (Ann.fst (Ann.snd (Ann.snd (Ann.snd an76))))) (fun s => normC [0, 1, 7, 28, 29, 49, 50, 51, 52, 53, 54, 55, 56, 57, 58] s K) (xb76_4 n) rt76 s
noncomputable def kc76_6 (n : Nat × Nat) (m1 : Nat) : St → Option R76 := fun s => normC [0, 1, 7, 28, 29, 49, 50, 51, 52, 53, 54, 55, 56, 57, 58] s (fun s => normC [0, 1, 7, 28, 29, 49, 50, 51, 52, 53, 54, 55, 56, 57, 58] s (loopN (F76_5 n) m1))
noncomputable def xb76_7 (n : Nat × Nat) (m1 : Nat) : Nat → St → Option R76 := fun j s => bif Nat.beq j 1 then normC [0, 1, 7, 28, 29, 49, 50, 51, 52, 53, 54, 55, 56, 57, 58] s (fun s => normC [0, 1, 7, 28, 29, 49, 50, 51, 52, 53, 54, 55, 56, 57, 58] s (loopN (F76_5 n) m1)) else (xb76_4 n) j s
noncomputable def xb76_9 (n : Nat × Nat) (m1 : Nat) : Nat → St → Option R76 := fun j s => bif Nat.beq j 2 then normC [0, 1, 7, 28, 29, 49, 50, 51, 52, 53, 54, 55, 56, 57, 58] s (kc76_6 n m1) else (xb76_7 n m1) j s
noncomputable def F76_10 (n : Nat × Nat) (m1 : Nat) : (St → Option R76) → St → Option R76 := fun K s => run (E76 n) (cA (cA (cB (cB (cB (cA (cA (cA (cB (cB (cB c76))))))))))) (Ann.fst (Ann.fst (Ann.snd (Ann.snd (Ann.snd (Ann.fst (Ann.fst (Ann.fst (Ann.snd (Ann.snd (Ann.snd an76))))))))))) (fun s => normC [0, 1, 7, 8, 9, 10, 28, 29, 49, 50, 51, 52, 53, 54, 55, 56, 57, 58] s K) (xb76_9 n m1) rt76 s
noncomputable def kq76_13 (n : Nat × Nat) (m1 m2 : Nat) : St → Option R76 := run (E76 n) (cB (cB (cA (cA (cB (cB (cB (cA (cA (cA (cB (cB (cB c76))))))))))))) (Ann.snd (Ann.snd (Ann.fst (Ann.fst (Ann.snd (Ann.snd (Ann.snd (Ann.fst (Ann.fst (Ann.fst (Ann.snd (Ann.snd (Ann.snd an76))))))))))))) (fun s => normC [0, 1, 7, 8, 9, 10, 28, 29, 49, 50, 51, 52, 53, 54, 55, 56, 57, 58] s (loopN (F76_10 n m1) m2)) (xb76_9 n m1) rt76
noncomputable def L76_1 (n : Nat × Nat) (m : Nat) (word0 : ByteArray) (letters1 : Int) (out7 : List Int) : Option R76 := loopN (F76_5 n) m { tm := [.c (.str word0), .c (.int .i64 letters1), uu, uu, uu, uu, uu, .own 7 none false, uu, uu, uu, uu, uu, uu, uu, uu, uu, uu, uu, uu, uu, uu, uu, uu, uu, uu, uu, uu, uu, uu, uu, uu, uu, uu, uu, uu, uu, uu, uu, uu, uu, uu, uu, uu, uu, uu, uu, uu, uu, uu, uu, uu, uu, uu, uu, uu, uu, uu, uu, uu, uu, uu, uu, uu, uu, uu, uu, uu], hp := (upd emp 7 (.arr (.int .u8) out7 false)) }
noncomputable def L76_2 (n : Nat × Nat) (m1 : Nat) (m : Nat) (word0 : ByteArray) (letters1 : Int) (left8 : Int) (found9 : Bool) (c10 : Int) (out7 : List Int) : Option R76 := loopN (F76_10 n m1) m { tm := [.c (.str word0), .c (.int .i64 letters1), uu, uu, uu, uu, uu, .own 7 none false, .c (.int .i64 left8), .c (.bool found9), .c (.int .u8 c10), uu, uu, uu, uu, uu, uu, uu, uu, uu, uu, uu, uu, uu, uu, uu, uu, uu, uu, uu, uu, uu, uu, uu, uu, uu, uu, uu, uu, uu, uu, uu, uu, uu, uu, uu, uu, uu, uu, uu, uu, uu, uu, uu, uu, uu, uu, uu, uu, uu, uu, uu, uu, uu, uu, uu, uu, uu], hp := (upd emp 7 (.arr (.int .u8) out7 false)) }
noncomputable def L76_3 (n : Nat × Nat) (m1 m2 : Nat) (word0 : ByteArray) (letters1 : Int) (left8 : Int) (found9 : Bool) (c10 : Int) (out7 : List Int) : Option R76 := loopN (fun _ => (kq76_13 n m1 m2)) n.2 { tm := [.c (.str word0), .c (.int .i64 letters1), uu, uu, uu, uu, uu, .own 7 none false, .c (.int .i64 left8), .c (.bool found9), .c (.int .u8 c10), uu, uu, uu, uu, uu, uu, uu, uu, uu, uu, uu, uu, uu, uu, uu, uu, uu, uu, uu, uu, uu, uu, uu, uu, uu, uu, uu, uu, uu, uu, uu, uu, uu, uu, uu, uu, uu, uu, uu, uu, uu, uu, uu, uu, uu, uu, uu, uu, uu, uu, uu, uu, uu, uu, uu, uu, uu], hp := (upd emp 7 (.arr (.int .u8) out7 false)) }
theorem L76_1_eq (n : Nat × Nat) (m1 : Nat) (word0 : ByteArray) (letters1 : Int) (out7 : List Int) : L76_1 n (m1 + 1) word0 letters1 out7 =
 (S106 n word0 letters1).bind fun r2' =>
    L76_2 n m1 n.1 word0 letters1 (r2'.length : Int) false 97 out7 := by kernel_rfl
theorem L76_2_eq (n : Nat × Nat) (m1 m2 : Nat) (word0 : ByteArray) (letters1 : Int) (left8 : Int) (found9 : Bool) (c10 : Int) (out7 : List Int) : L76_2 n m1 (m2 + 1) word0 letters1 left8 found9 c10 out7 =
 ((bif (decide (c10 < wr .u8 (wr .i64 (97 + letters1))) == true) then some (!found9)
 else some false)).bind fun b3' =>
 (bif b3' then (S107 n (strBytes word0) c10).bind fun r4' =>
 (bif decide (r4' < 0) then (bif decide (out7.length + [c10].length ≤ lim) then some (strNums (out7 ++ [c10]), 0)
 else none)
 else ((bif (decide (left8 > 0) == true) then (bif bounds (some (wr .i64 (r4' + 1))) none none word0.size then (S106 n (strCut (some (wr .i64 (r4' + 1))) none word0) letters1).bind fun r5' =>
 some ((r5'.length : Int) == (wr .i64 (left8 - 1)))
 else none)
 else some false)).bind fun b6' =>
 (bif b6' then (bif decide (out7.length + [c10].length ≤ lim) then (bif bounds (some (wr .i64 (r4' + 1))) none none word0.size then L76_3 n m1 m2 (strCut (some (wr .i64 (r4' + 1))) none word0) letters1 left8 true c10 (out7 ++ [c10])
 else none)
 else none)
 else L76_3 n m1 m2 word0 letters1 left8 found9 c10 out7))
 else L76_1 n m1 word0 letters1 out7) := by kernel_rfl
theorem L76_3_raw (n : Nat × Nat) (m1 m2 : Nat) (word0 : ByteArray) (letters1 : Int) (left8 : Int) (found9 : Bool) (c10 : Int) (out7 : List Int) : (kq76_13 n m1 m2) { tm := [.c (.str word0), .c (.int .i64 letters1), uu, uu, uu, uu, uu, .own 7 none false, .c (.int .i64 left8), .c (.bool found9), .c (.int .u8 c10), uu, uu, uu, uu, uu, uu, uu, uu, uu, uu, uu, uu, uu, uu, uu, uu, uu, uu, uu, uu, uu, uu, uu, uu, uu, uu, uu, uu, uu, uu, uu, uu, uu, uu, uu, uu, uu, uu, uu, uu, uu, uu, uu, uu, uu, uu, uu, uu, uu, uu, uu, uu, uu, uu, uu, uu, uu], hp := (upd emp 7 (.arr (.int .u8) out7 false)) } =
    L76_2 n m1 m2 word0 letters1 left8 found9 (wr .u8 (c10 + 1)) out7 := by kernel_rfl
noncomputable def S76 (n : Nat × Nat) (word0 : ByteArray) (letters1 : Int) : Option R76 := run (E76 n) c76 an76 rt76 (fun _ _ => none) rt76 { tm := [.c (.str word0), .c (.int .i64 letters1), uu, uu, uu, uu, uu, uu, uu, uu, uu, uu, uu, uu, uu, uu, uu, uu, uu, uu, uu, uu, uu, uu, uu, uu, uu, uu, uu, uu, uu, uu, uu, uu, uu, uu, uu, uu, uu, uu, uu, uu, uu, uu, uu, uu, uu, uu, uu, uu, uu, uu, uu, uu, uu, uu, uu, uu, uu, uu, uu, uu, uu, uu, uu, uu, uu, uu], hp := emp }
theorem S76_eq (n : Nat × Nat) (word0 : ByteArray) (letters1 : Int) : S76 n word0 letters1 =
 (S105 n word0 letters1).bind fun r1' =>
 (bif (r1' != 0) then some ((⟨#[]⟩ : ByteArray), r1')
 else L76_1 n n.1 word0 letters1 []) := by kernel_rfl
theorem S76_run (n : Nat × Nat) (xs : pksDen pk76) : S76 n xs.1 xs.2.1 = runG (E76 n) noScope c76 an76 (rtG rk76) (fun _ _ => none) (rtG rk76) (st0 pk76 xs Tryd.f76.ntmps) := by kernel_rfl
noncomputable def P76 (n : Nat × Nat) := phiOf pk76 rk76 (fun xs => S76 n xs.1 xs.2.1)
theorem call76 : CallOK Tryd.prog 76 := callOK_of Tryd.func76 (by kernel_rfl) (by kernel_rfl)
theorem env76 (n : Nat × Nat) : EnvOK Tryd.prog (E76 n) := envOK0 (consPhi_ok (FC105 n) call105 (consPhi_ok (FC106 n) call106 (consPhi_ok (FC107 n) call107 noPhi_ok))) rfl rfl
theorem par76 (n : Nat × Nat) : EnvPar (E76 n) := envPar0 (consPhi_par phiOf_Par1 (consPhi_par phiOf_Par1 (consPhi_par phiOf_Par1 noPhi_par))) rfl
theorem FC76 (n : Nat × Nat) : FCs Tryd.prog 76 (P76 n) := phiOf_FCs fun xs r h vs hv => FC.of_runG tabOK eqsOK (env76 n) (par76 n) mixed (fun _ p _ => noScope_ok p.1 p.2) Tryd.func76 (c := c76) (an := an76) (pks := pk76) (rks := rk76) (by kernel_rfl) (by kernel_rfl) hv ((S76_run n xs).symm.trans h)
abbrev R45 := Bool
noncomputable def c45 : Code := bodyOf Tryd.f45
noncomputable def an45 : Ann := .l
def pk45 : List PK := []
def rk45 : List RK := [.c .bool 0]
noncomputable def rt45 (st : St) : Option R45 := rtG rk45 st
noncomputable def E45 (n : Nat × Nat) : Env := { T := tab, phi := (consPhi 32 (fun _ => true) (P32 n) (consPhi 75 (fun _ => true) (P75 n) (consPhi 76 (fun _ => true) (P76 n) noPhi))), eff := fun _ => false, fuel := n.1, hold := n.2 }
noncomputable def S45 (n : Nat × Nat) : Option R45 := run (E45 n) c45 an45 rt45 (fun _ _ => none) rt45 { tm := [uu, uu, uu, uu, uu, uu, uu, uu, uu, uu, uu, uu, uu, uu, uu, uu, uu, uu, uu, uu, uu, uu, uu, uu, uu, uu, uu, uu, uu, uu], hp := emp }
theorem S45_eq (n : Nat × Nat) : S45 n =
 (S75 n (⟨#[97, 98, 99, 97]⟩ : ByteArray) (⟨#[97]⟩ : ByteArray)).bind fun r1' =>
 (S76 n (⟨#[97, 98, 98, 97]⟩ : ByteArray) 2).bind fun r2' =>
 ((bif ((r1'.2 == 0) == true) then some (r2'.2 == 0)
 else some false)).bind fun b3' =>
 ((bif (b3' == true) then some (r1'.1 == 2)
 else some false)).bind fun b4' =>
 ((bif (b4' == true) then some (strEq r2'.1 (⟨#[97, 97, 97]⟩ : ByteArray))
 else some false)).bind fun b5' =>
 ((bif (b5' == true) then (S32 n (⟨#[100, 97, 121, 45, 98, 111, 111, 107]⟩ : ByteArray) (⟨#[121, 98, 107]⟩ : ByteArray)).bind fun r6' =>
 some r6'
 else some false)).bind fun b7' =>
 some b7' := by kernel_rfl
theorem S45_run (n : Nat × Nat) (xs : pksDen pk45) : S45 n = runG (E45 n) noScope c45 an45 (rtG rk45) (fun _ _ => none) (rtG rk45) (st0 pk45 xs Tryd.f45.ntmps) := by kernel_rfl
noncomputable def P45 (n : Nat × Nat) := phiOf pk45 rk45 (fun xs => S45 n)
theorem call45 : CallOK Tryd.prog 45 := callOK_of Tryd.func45 (by kernel_rfl) (by kernel_rfl)
theorem env45 (n : Nat × Nat) : EnvOK Tryd.prog (E45 n) := envOK0 (consPhi_ok (FC32 n) call32 (consPhi_ok (FC75 n) call75 (consPhi_ok (FC76 n) call76 noPhi_ok))) rfl rfl
theorem par45 (n : Nat × Nat) : EnvPar (E45 n) := envPar0 (consPhi_par phiOf_Par1 (consPhi_par phiOf_Par1 (consPhi_par phiOf_Par1 noPhi_par))) rfl
theorem FC45 (n : Nat × Nat) : FCs Tryd.prog 45 (P45 n) := phiOf_FCs fun xs r h vs hv => FC.of_runG tabOK eqsOK (env45 n) (par45 n) mixed (fun _ p _ => noScope_ok p.1 p.2) Tryd.func45 (c := c45) (an := an45) (pks := pk45) (rks := rk45) (by kernel_rfl) (by kernel_rfl) hv ((S45_run n xs).symm.trans h)
abbrev R16 := Bool
noncomputable def c16 : Code := bodyOf Tryd.f16
noncomputable def an16 : Ann := .l
def pk16 : List PK := []
def rk16 : List RK := [.c .bool 0]
noncomputable def rt16 (st : St) : Option R16 := rtG rk16 st
noncomputable def E16 (n : Nat × Nat) : Env := { T := tabL, phi := (consPhi 14 (fun _ => true) (P14 n) (consPhi 44 (fun _ => true) (P44 n) (consPhi 45 (fun _ => true) (P45 n) noPhi))), eff := fun g => Nat.beq g 44, fuel := n.1, hold := n.2 }
noncomputable def S16 (n : Nat × Nat) : Option R16 := run (E16 n) c16 an16 rt16 (fun _ _ => none) rt16 { tm := [uu, uu, uu, uu, uu, uu, uu, uu, uu, uu, uu, uu, uu, uu, uu, uu, uu, uu, uu, uu, uu, uu], hp := emp }
theorem S16_eq (n : Nat × Nat) : S16 n =
 (S44 n (3, [(0, 1), (1, 2)])).bind fun r1' =>
 ((bif ((r1'.2 == 0) == true) then (S14 n r1'.1 [0, 2]).bind fun r2' =>
 some r2'
 else some false)).bind fun b3' =>
 ((bif (b3' == true) then (S45 n).bind fun r4' =>
 some r4'
 else some false)).bind fun b5' =>
 some b5' := by kernel_rfl
theorem S16_run (n : Nat × Nat) (xs : pksDen pk16) : S16 n = runG (E16 n) noScope c16 an16 (rtG rk16) (fun _ _ => none) (rtG rk16) (st0 pk16 xs Tryd.f16.ntmps) := by kernel_rfl
noncomputable def P16 (n : Nat × Nat) := phiOf pk16 rk16 (fun xs => S16 n)
theorem call16 : CallOK Tryd.prog 16 := callOK_of Tryd.func16 (by kernel_rfl) (by kernel_rfl)
theorem env16 (n : Nat × Nat) : EnvOK Tryd.prog (E16 n) := envOK0 (consPhi_ok (FC14 n) call14 (consPhi_ok (FC44 n) call44 (consPhi_ok (FC45 n) call45 noPhi_ok))) rfl rfl
theorem par16 (n : Nat × Nat) : EnvPar (E16 n) := envPar0 (consPhi_par phiOf_Par1 (consPhi_par phiOf_Par1 (consPhi_par phiOf_Par1 noPhi_par))) rfl
theorem FC16 (n : Nat × Nat) : FCs Tryd.prog 16 (P16 n) := phiOf_FCs fun xs r h vs hv => FC.of_runG tabLOK eqsLOK (env16 n) (par16 n) mixed (fun _ p _ => noScope_ok p.1 p.2) Tryd.func16 (c := c16) (an := an16) (pks := pk16) (rks := rk16) (by kernel_rfl) (by kernel_rfl) hv ((S16_run n xs).symm.trans h)
/-D 14 -/
noncomputable def DF14_1 (n : Nat × Nat) (f1 : List Int → List Int → Int → Int → Option R14) (a0 : List Int) (b1 : List Int) (v12 : Int) (v13 : Int) : Option R14 :=
 (bif decide (v13 < v12) then (idx a0 v13).bind fun x1' =>
 (idx b1 v13).bind fun x2' =>
 (bif (x1' != x2') then some false
 else f1 a0 b1 v12 (wr .i64 (v13 + 1)))
 else some true)
noncomputable def DL14_1 (n : Nat × Nat) (m : Nat) : List Int → List Int → Int → Int → Option R14 := Nat.rec (motive := fun _ => List Int → List Int → Int → Int → Option R14) (fun _ _ _ _ => none) (fun _ ih => DF14_1 n ih) m
theorem DL14_1_succ (n : Nat × Nat) (m : Nat) : DL14_1 n (m + 1) = DF14_1 n (DL14_1 n m) := rfl
theorem DL14_1_eq (n : Nat × Nat) (hn : n.2 = 1) : ∀ m, L14_1 n m = DL14_1 n m
  | 0 => by funext a0 b1 v12 v13; kernel_rfl
  | m + 1 => by
    have ih := DL14_1_eq n hn m
    funext a0 b1 v12 v13; refine (L14_1_eq n m a0 b1 v12 v13).trans ?_
    rw [DL14_1_succ]
    unfold DF14_1
    (try simp only [ih]) <;> first | with_reducible rfl | rfl
noncomputable def D14 (n : Nat × Nat) (a0 : List Int) (b1 : List Int) : Option R14 :=
 (bif ((a0.length : Int) != (b1.length : Int)) then some false
 else DL14_1 n n.1 a0 b1 (a0.length : Int) 0)
theorem S14_D (n : Nat × Nat) (hn : n.2 = 1) : S14 n = D14 n := by
  funext a0 b1; refine (S14_eq n a0 b1).trans ?_
  unfold D14
  (try simp only [DL14_1_eq n hn]) <;> first | with_reducible rfl | rfl
/-D 117 -/
noncomputable def DF117_1 (n : Nat × Nat) (f1 : (List (Int × Int)) → Int → Int → Int → Int → Option R117) (s0 : List (Int × Int)) (v7 : Int) (v8 : Int) (v3_0 : Int) (v3_1 : Int) : Option R117 :=
 (bif decide (v8 < v7) then (idx s0 v8).bind fun x1' =>
 (bif ((v3_0 == x1'.1) && ((v3_1 == x1'.2) && true)) then some v8
 else f1 s0 v7 (wr .i64 (v8 + 1)) v3_0 v3_1)
 else some (-1))
noncomputable def DL117_1 (n : Nat × Nat) (m : Nat) : (List (Int × Int)) → Int → Int → Int → Int → Option R117 := Nat.rec (motive := fun _ => (List (Int × Int)) → Int → Int → Int → Int → Option R117) (fun _ _ _ _ _ => none) (fun _ ih => DF117_1 n ih) m
theorem DL117_1_succ (n : Nat × Nat) (m : Nat) : DL117_1 n (m + 1) = DF117_1 n (DL117_1 n m) := rfl
theorem DL117_1_eq (n : Nat × Nat) (hn : n.2 = 1) : ∀ m, L117_1 n m = DL117_1 n m
  | 0 => by funext s0 v7 v8 v3_0 v3_1; kernel_rfl
  | m + 1 => by
    have ih := DL117_1_eq n hn m
    funext s0 v7 v8 v3_0 v3_1; refine (L117_1_eq n m s0 v7 v8 v3_0 v3_1).trans ?_
    rw [DL117_1_succ]
    unfold DF117_1
    (try simp only [ih]) <;> first | with_reducible rfl | rfl
noncomputable def D117 (n : Nat × Nat) (s0 : List (Int × Int)) (v1 : Int × Int) : Option R117 :=
    DL117_1 n n.1 s0 (s0.length : Int) 0 v1.1 v1.2
theorem S117_D (n : Nat × Nat) (hn : n.2 = 1) : S117 n = D117 n := by
  funext s0 v1; refine (S117_eq n s0 v1).trans ?_
  unfold D117
  (try simp only [DL117_1_eq n hn]) <;> first | with_reducible rfl | rfl
/-D 90 -/
noncomputable def D90 (n : Nat × Nat) (s0 : List (Int × Int)) (v1 : Int × Int) : Option R90 :=
 (D117 n s0 v1).bind fun r1' =>
 some (decide (r1' ≥ 0))
theorem S90_D (n : Nat × Nat) (hn : n.2 = 1) : S90 n = D90 n := by
  funext s0 v1; refine (S90_eq n s0 v1).trans ?_
  unfold D90
  (try simp only [S117_D n hn]) <;> first | with_reducible rfl | rfl
/-D 66 -/
noncomputable def DF66_1 (n : Nat × Nat) (f1 : (List (Int × Int)) → Int → Int → Int → (List (Int × Int)) → Option R66) (v20 : List (Int × Int)) (v21 : Int) (v22 : Int) (b1_0 : Int) (b1_1 : List (Int × Int)) : Option R66 :=
 (bif decide (v22 < v21) then (idx v20 v22).bind fun x2' =>
 (bif inB 0 2 then (idx [x2'.1, x2'.2] 0).bind fun x3' =>
 (bif inB 1 2 then (idx [x2'.1, x2'.2] 1).bind fun x4' =>
 ((bif (decide ((if x4' < x3' then x4' else x3') < 0) == false) then (bif inB 0 2 then (idx [x2'.1, x2'.2] 0).bind fun x5' =>
 (bif inB 1 2 then (idx [x2'.1, x2'.2] 1).bind fun x6' =>
 some (decide ((if x6' > x5' then x6' else x5') ≥ b1_0))
 else none)
 else none)
 else some true)).bind fun b7' =>
 (bif b7' then some 2
 else (bif inB 0 2 then (idx [x2'.1, x2'.2] 0).bind fun x8' =>
 (bif inB 1 2 then (idx [x2'.1, x2'.2] 1).bind fun x9' =>
 (bif (x8' == x9') then some 5
 else (bif bounds none (some v22) none b1_1.length then (D90 n (b1_1.take (Int.toNat v22)) x2').bind fun r10' =>
 (bif r10' then some 6
 else f1 v20 v21 (wr .i64 (v22 + 1)) b1_0 b1_1)
 else none))
 else none)
 else none))
 else none)
 else none)
 else some 0)
noncomputable def DL66_1 (n : Nat × Nat) (m : Nat) : (List (Int × Int)) → Int → Int → Int → (List (Int × Int)) → Option R66 := Nat.rec (motive := fun _ => (List (Int × Int)) → Int → Int → Int → (List (Int × Int)) → Option R66) (fun _ _ _ _ _ => none) (fun _ ih => DF66_1 n ih) m
theorem DL66_1_succ (n : Nat × Nat) (m : Nat) : DL66_1 n (m + 1) = DF66_1 n (DL66_1 n m) := rfl
theorem DL66_1_eq (n : Nat × Nat) (hn : n.2 = 1) : ∀ m, L66_1 n m = DL66_1 n m
  | 0 => by funext v20 v21 v22 b1_0 b1_1; kernel_rfl
  | m + 1 => by
    have ih := DL66_1_eq n hn m
    funext v20 v21 v22 b1_0 b1_1; refine (L66_1_eq n m v20 v21 v22 b1_0 b1_1).trans ?_
    rw [DL66_1_succ]
    unfold DF66_1
    (try simp only [ih, S90_D n hn]) <;> first | with_reducible rfl | rfl
noncomputable def D66 (n : Nat × Nat) (b0 : Int × List (Int × Int)) : Option R66 :=
 ((bif (decide (b0.1 < 1) == false) then some (decide (b0.1 > 7))
 else some true)).bind fun b1' =>
 (bif b1' then some 1
 else (bif decide ((b0.2.length : Int) > 16) then some 3
 else DL66_1 n n.1 b0.2 (b0.2.length : Int) 0 b0.1 b0.2))
theorem S66_D (n : Nat × Nat) (hn : n.2 = 1) : S66 n = D66 n := by
  funext b0; refine (S66_eq n b0).trans ?_
  unfold D66
  (try simp only [DL66_1_eq n hn, S90_D n hn]) <;> first | with_reducible rfl | rfl
/-D 33 -/
noncomputable def DF33_1 (n : Nat × Nat) (f1 : (List (Int × Int)) → Int → Int → Int → Int → Int → Int → Int → Int → Int → Int → Int → Int → Int → Int → Int → Int → Int → Int → Option R33) (v18 : List (Int × Int)) (v19 : Int) (v20 : Int) (v2_0 : Int) (v2_1 : Int) (v2_2 : Int) (v2_3 : Int) (v2_4 : Int) (v2_5 : Int) (v2_6 : Int) (v2_7 : Int) (w4_0 : Int) (w4_1 : Int) (w4_2 : Int) (w4_3 : Int) (w4_4 : Int) (w4_5 : Int) (w4_6 : Int) (w4_7 : Int) : Option R33 :=
 (bif decide (v20 < v19) then (idx v18 v20).bind fun x2' =>
 (bif inB 0 2 then (idx [x2'.1, x2'.2] 0).bind fun x3' =>
 (bif inB x3' 7 then (idx [w4_1, w4_2, w4_3, w4_4, w4_5, w4_6, w4_7] x3').bind fun x4' =>
 (bif inB 1 2 then (idx [x2'.1, x2'.2] 1).bind fun x5' =>
 (bif decide (x5' < 0) then none
 else (bif inB x3' 7 then f1 v18 v19 (wr .i64 (v20 + 1)) v2_0 v2_1 v2_2 v2_3 v2_4 v2_5 v2_6 v2_7 w4_0 (bif (x3' == 0) then wr .u64 (BitVec.ofInt (IntKind.bits .u64) x4' ||| BitVec.ofInt (IntKind.bits .u64) (wr .u64 (1 * 2 ^ (min (Int.toNat x5') (IntKind.bits .u64))))).toNat else w4_1) (bif (x3' == 1) then wr .u64 (BitVec.ofInt (IntKind.bits .u64) x4' ||| BitVec.ofInt (IntKind.bits .u64) (wr .u64 (1 * 2 ^ (min (Int.toNat x5') (IntKind.bits .u64))))).toNat else w4_2) (bif (x3' == 2) then wr .u64 (BitVec.ofInt (IntKind.bits .u64) x4' ||| BitVec.ofInt (IntKind.bits .u64) (wr .u64 (1 * 2 ^ (min (Int.toNat x5') (IntKind.bits .u64))))).toNat else w4_3) (bif (x3' == 3) then wr .u64 (BitVec.ofInt (IntKind.bits .u64) x4' ||| BitVec.ofInt (IntKind.bits .u64) (wr .u64 (1 * 2 ^ (min (Int.toNat x5') (IntKind.bits .u64))))).toNat else w4_4) (bif (x3' == 4) then wr .u64 (BitVec.ofInt (IntKind.bits .u64) x4' ||| BitVec.ofInt (IntKind.bits .u64) (wr .u64 (1 * 2 ^ (min (Int.toNat x5') (IntKind.bits .u64))))).toNat else w4_5) (bif (x3' == 5) then wr .u64 (BitVec.ofInt (IntKind.bits .u64) x4' ||| BitVec.ofInt (IntKind.bits .u64) (wr .u64 (1 * 2 ^ (min (Int.toNat x5') (IntKind.bits .u64))))).toNat else w4_6) (bif (x3' == 6) then wr .u64 (BitVec.ofInt (IntKind.bits .u64) x4' ||| BitVec.ofInt (IntKind.bits .u64) (wr .u64 (1 * 2 ^ (min (Int.toNat x5') (IntKind.bits .u64))))).toNat else w4_7)
 else none))
 else none)
 else none)
 else none)
 else some ((w4_0, w4_1, w4_2, w4_3, w4_4, w4_5, w4_6, w4_7), 0))
noncomputable def DL33_1 (n : Nat × Nat) (m : Nat) : (List (Int × Int)) → Int → Int → Int → Int → Int → Int → Int → Int → Int → Int → Int → Int → Int → Int → Int → Int → Int → Int → Option R33 := Nat.rec (motive := fun _ => (List (Int × Int)) → Int → Int → Int → Int → Int → Int → Int → Int → Int → Int → Int → Int → Int → Int → Int → Int → Int → Int → Option R33) (fun _ _ _ _ _ _ _ _ _ _ _ _ _ _ _ _ _ _ _ => none) (fun _ ih => DF33_1 n ih) m
theorem DL33_1_succ (n : Nat × Nat) (m : Nat) : DL33_1 n (m + 1) = DF33_1 n (DL33_1 n m) := rfl
theorem DL33_1_eq (n : Nat × Nat) (hn : n.2 = 1) : ∀ m, L33_1 n m = DL33_1 n m
  | 0 => by funext v18 v19 v20 v2_0 v2_1 v2_2 v2_3 v2_4 v2_5 v2_6 v2_7 w4_0 w4_1 w4_2 w4_3 w4_4 w4_5 w4_6 w4_7; kernel_rfl
  | m + 1 => by
    have ih := DL33_1_eq n hn m
    funext v18 v19 v20 v2_0 v2_1 v2_2 v2_3 v2_4 v2_5 v2_6 v2_7 w4_0 w4_1 w4_2 w4_3 w4_4 w4_5 w4_6 w4_7; refine (L33_1_eq n m v18 v19 v20 v2_0 v2_1 v2_2 v2_3 v2_4 v2_5 v2_6 v2_7 w4_0 w4_1 w4_2 w4_3 w4_4 w4_5 w4_6 w4_7).trans ?_
    rw [DL33_1_succ]
    unfold DF33_1
    (try simp only [ih, S66_D n hn]) <;> first | with_reducible rfl | rfl
noncomputable def D33 (n : Nat × Nat) (b0 : Int × List (Int × Int)) : Option R33 :=
 (D66 n b0).bind fun r1' =>
 (bif (r1' != 0) then some ((b0.1, 0, 0, 0, 0, 0, 0, 0), r1')
 else DL33_1 n n.1 b0.2 (b0.2.length : Int) 0 0 0 0 0 0 0 0 0 b0.1 0 0 0 0 0 0 0)
theorem S33_D (n : Nat × Nat) (hn : n.2 = 1) : S33 n = D33 n := by
  funext b0; refine (S33_eq n b0).trans ?_
  unfold D33
  (try simp only [DL33_1_eq n hn, S66_D n hn]) <;> first | with_reducible rfl | rfl
/-D 34 -/
noncomputable def DL34_2 (n : Nat × Nat) (f1 : Int → Bool → List Int → Int → Int → Option R34) (choice1 : Int) (v5 : Bool) (v12 : List Int) (v13 : Int) (v14 : Int) : Option R34 :=
    f1 choice1 v5 v12 v13 (wr .i64 (v14 + 1))
theorem DL34_2_eq (n : Nat × Nat) (hn : n.2 = 1) (m1 : Nat) : L34_2 n m1 = DL34_2 n (L34_1 n m1) := by
  funext choice1 v5 v12 v13 v14; refine ((held_eq hn _).trans (L34_2_raw n m1 choice1 v5 v12 v13 v14)).trans ?_
  unfold DL34_2
  first | with_reducible rfl | rfl
noncomputable def DF34_1 (n : Nat × Nat) (f1 : Int → Bool → List Int → Int → Int → Option R34) (choice1 : Int) (v5 : Bool) (v12 : List Int) (v13 : Int) (v14 : Int) : Option R34 :=
 (bif decide (v14 < v13) then (idx v12 v14).bind fun x1' =>
 (bif decide (v14 < 0) then none
 else ((bif (((wr .u64 (BitVec.ofInt (IntKind.bits .u64) (Int.fdiv choice1 (2 ^ (min (Int.toNat v14) (IntKind.bits .u64)))) &&& BitVec.ofInt (IntKind.bits .u64) 1).toNat) == 1) == true) then some ((wr .u64 (BitVec.ofInt (IntKind.bits .u64) x1' &&& BitVec.ofInt (IntKind.bits .u64) choice1).toNat) != 0)
 else some false)).bind fun b2' =>
 (bif b2' then some 13
 else ((bif ((!((wr .u64 (BitVec.ofInt (IntKind.bits .u64) (Int.fdiv choice1 (2 ^ (min (Int.toNat v14) (IntKind.bits .u64)))) &&& BitVec.ofInt (IntKind.bits .u64) 1).toNat) == 1)) == true) then some ((wr .u64 (BitVec.ofInt (IntKind.bits .u64) x1' &&& BitVec.ofInt (IntKind.bits .u64) choice1).toNat) == 0)
 else some false)).bind fun b3' =>
 (bif b3' then DL34_2 n f1 choice1 true v12 v13 v14
 else DL34_2 n f1 choice1 v5 v12 v13 v14)))
 else (bif v5 then some 21
 else some 0))
noncomputable def DL34_1 (n : Nat × Nat) (m : Nat) : Int → Bool → List Int → Int → Int → Option R34 := Nat.rec (motive := fun _ => Int → Bool → List Int → Int → Int → Option R34) (fun _ _ _ _ _ => none) (fun _ ih => DF34_1 n ih) m
theorem DL34_1_succ (n : Nat × Nat) (m : Nat) : DL34_1 n (m + 1) = DF34_1 n (DL34_1 n m) := rfl
theorem DL34_1_eq (n : Nat × Nat) (hn : n.2 = 1) : ∀ m, L34_1 n m = DL34_1 n m
  | 0 => by funext choice1 v5 v12 v13 v14; kernel_rfl
  | m + 1 => by
    have ih := DL34_1_eq n hn m
    funext choice1 v5 v12 v13 v14; refine (L34_1_eq n m choice1 v5 v12 v13 v14).trans ?_
    rw [DL34_1_succ]
    unfold DF34_1
    (try simp only [ih, DL34_2_eq n hn]) <;> first | with_reducible rfl | rfl
noncomputable def D34 (n : Nat × Nat) (w0 : Int × Int × Int × Int × Int × Int × Int × Int) (choice1 : Int) : Option R34 :=
 (bif bounds none (some w0.1) none 7 then DL34_1 n n.1 choice1 false ([w0.2.1, w0.2.2.1, w0.2.2.2.1, w0.2.2.2.2.1, w0.2.2.2.2.2.1, w0.2.2.2.2.2.2.1, w0.2.2.2.2.2.2.2].take (Int.toNat w0.1)) (([w0.2.1, w0.2.2.1, w0.2.2.2.1, w0.2.2.2.2.1, w0.2.2.2.2.2.1, w0.2.2.2.2.2.2.1, w0.2.2.2.2.2.2.2].take (Int.toNat w0.1)).length : Int) 0
 else none)
theorem S34_D (n : Nat × Nat) (hn : n.2 = 1) : S34 n = D34 n := by
  funext w0 choice1; refine (S34_eq n w0 choice1).trans ?_
  unfold D34
  (try simp only [DL34_2_eq n hn, DL34_1_eq n hn]) <;> first | with_reducible rfl | rfl
/-D 73 -/
noncomputable def D73 (n : Nat × Nat) (x0 : Int) : Option R73 := HF73 x0
theorem S73_D (n : Nat × Nat) (hn : n.2 = 1) : S73 n = D73 n := by unfold S73 D73; rfl
/-D 41 -/
noncomputable def D41 (n : Nat × Nat) (x0 : Int) : Option R41 :=
 (D73 n x0).bind fun r1' =>
 some r1'
theorem S41_D (n : Nat × Nat) (hn : n.2 = 1) : S41 n = D41 n := by
  funext x0; refine (S41_eq n x0).trans ?_
  unfold D41
  (try simp only [S73_D n hn]) <;> first | with_reducible rfl | rfl
/-D 35 -/
noncomputable def DF35_1 (n : Nat × Nat) (f1 : Int → List Int → Option R35) (v0 : Int) (out3 : List Int) : Option R35 :=
 (bif (v0 != 0) then (D41 n v0).bind fun r1' =>
 (bif decide (out3.length + [r1'].length ≤ lim) then f1 (wr .u64 (BitVec.ofInt (IntKind.bits .u64) v0 &&& BitVec.ofInt (IntKind.bits .u64) (wr .u64 (v0 - 1))).toNat) (out3 ++ [r1'])
 else none)
 else some out3)
noncomputable def DL35_1 (n : Nat × Nat) (m : Nat) : Int → List Int → Option R35 := Nat.rec (motive := fun _ => Int → List Int → Option R35) (fun _ _ => none) (fun _ ih => DF35_1 n ih) m
theorem DL35_1_succ (n : Nat × Nat) (m : Nat) : DL35_1 n (m + 1) = DF35_1 n (DL35_1 n m) := rfl
theorem DL35_1_eq (n : Nat × Nat) (hn : n.2 = 1) : ∀ m, L35_1 n m = DL35_1 n m
  | 0 => by funext v0 out3; kernel_rfl
  | m + 1 => by
    have ih := DL35_1_eq n hn m
    funext v0 out3; refine (L35_1_eq n m v0 out3).trans ?_
    rw [DL35_1_succ]
    unfold DF35_1
    (try simp only [ih, S41_D n hn]) <;> first | with_reducible rfl | rfl
noncomputable def D35 (n : Nat × Nat) (v0 : Int) : Option R35 :=
    DL35_1 n n.1 v0 []
theorem S35_D (n : Nat × Nat) (hn : n.2 = 1) : S35 n = D35 n := by
  funext v0; refine (S35_eq n v0).trans ?_
  unfold D35
  (try simp only [DL35_1_eq n hn, S41_D n hn]) <;> first | with_reducible rfl | rfl
noncomputable def D36c37 (n : Nat × Nat) (x0 : List (List Int)) : Option R36c37 := HF36 x0
theorem S36c37_D (n : Nat × Nat) (hn : n.2 = 1) : S36c37 n = D36c37 n := rfl
/-D 11 -/
noncomputable def DL11_2 (n : Nat × Nat) (f1 : Int → Int → Int → Int → Int → Int → Int → Int → Int → Int → List (List Int) → Option R11) (v18 : Int) (v19 : Int) (w4_0 : Int) (w4_1 : Int) (w4_2 : Int) (w4_3 : Int) (w4_4 : Int) (w4_5 : Int) (w4_6 : Int) (w4_7 : Int) (out6 : List (List Int)) : Option R11 :=
    f1 v18 (wr .u64 (v19 + 1)) w4_0 w4_1 w4_2 w4_3 w4_4 w4_5 w4_6 w4_7 out6
theorem DL11_2_eq (n : Nat × Nat) (hn : n.2 = 1) (m1 : Nat) : L11_2 n m1 = DL11_2 n (L11_1 n m1) := by
  funext v18 v19 w4_0 w4_1 w4_2 w4_3 w4_4 w4_5 w4_6 w4_7 out6; refine ((held_eq hn _).trans (L11_2_raw n m1 v18 v19 w4_0 w4_1 w4_2 w4_3 w4_4 w4_5 w4_6 w4_7 out6)).trans ?_
  unfold DL11_2
  (try simp only [S33_D n hn, S34_D n hn, S35_D n hn, S36c37_D n hn]) <;> first | with_reducible rfl | rfl
noncomputable def DF11_1 (n : Nat × Nat) (f1 : Int → Int → Int → Int → Int → Int → Int → Int → Int → Int → List (List Int) → Option R11) (v18 : Int) (v19 : Int) (w4_0 : Int) (w4_1 : Int) (w4_2 : Int) (w4_3 : Int) (w4_4 : Int) (w4_5 : Int) (w4_6 : Int) (w4_7 : Int) (out6 : List (List Int)) : Option R11 :=
 (bif decide (v19 < v18) then (D34 n (w4_0, w4_1, w4_2, w4_3, w4_4, w4_5, w4_6, w4_7) v19).bind fun r2' =>
 (bif (r2' == 0) then (D35 n v19).bind fun r3' =>
 (bif decide (out6.length + [r3'].length ≤ lim) then DL11_2 n f1 v18 v19 w4_0 w4_1 w4_2 w4_3 w4_4 w4_5 w4_6 w4_7 (out6 ++ [r3'])
 else none)
 else DL11_2 n f1 v18 v19 w4_0 w4_1 w4_2 w4_3 w4_4 w4_5 w4_6 w4_7 out6)
 else (D36c37 n out6).bind fun r4' =>
 some (out6, 0))
noncomputable def DL11_1 (n : Nat × Nat) (m : Nat) : Int → Int → Int → Int → Int → Int → Int → Int → Int → Int → List (List Int) → Option R11 := Nat.rec (motive := fun _ => Int → Int → Int → Int → Int → Int → Int → Int → Int → Int → List (List Int) → Option R11) (fun _ _ _ _ _ _ _ _ _ _ _ => none) (fun _ ih => DF11_1 n ih) m
theorem DL11_1_succ (n : Nat × Nat) (m : Nat) : DL11_1 n (m + 1) = DF11_1 n (DL11_1 n m) := rfl
theorem DL11_1_eq (n : Nat × Nat) (hn : n.2 = 1) : ∀ m, L11_1 n m = DL11_1 n m
  | 0 => by funext v18 v19 w4_0 w4_1 w4_2 w4_3 w4_4 w4_5 w4_6 w4_7 out6; kernel_rfl
  | m + 1 => by
    have ih := DL11_1_eq n hn m
    funext v18 v19 w4_0 w4_1 w4_2 w4_3 w4_4 w4_5 w4_6 w4_7 out6; refine (L11_1_eq n m v18 v19 w4_0 w4_1 w4_2 w4_3 w4_4 w4_5 w4_6 w4_7 out6).trans ?_
    rw [DL11_1_succ]
    unfold DF11_1
    (try simp only [ih, DL11_2_eq n hn, S33_D n hn, S34_D n hn, S35_D n hn, S36c37_D n hn]) <;> first | with_reducible rfl | rfl
noncomputable def D11 (n : Nat × Nat) (b0 : Int × List (Int × Int)) : Option R11 :=
 (D33 n b0).bind fun r1' =>
 (bif (r1'.2 != 0) then some ([], r1'.2)
 else (bif decide (r1'.1.1 < 0) then none
 else DL11_1 n n.1 (wr .u64 (1 * 2 ^ (min (Int.toNat r1'.1.1) (IntKind.bits .u64)))) 0 r1'.1.1 r1'.1.2.1 r1'.1.2.2.1 r1'.1.2.2.2.1 r1'.1.2.2.2.2.1 r1'.1.2.2.2.2.2.1 r1'.1.2.2.2.2.2.2.1 r1'.1.2.2.2.2.2.2.2 []))
theorem S11_D (n : Nat × Nat) (hn : n.2 = 1) : S11 n = D11 n := by
  funext b0; refine (S11_eq n b0).trans ?_
  unfold D11
  (try simp only [DL11_2_eq n hn, DL11_1_eq n hn, S33_D n hn, S34_D n hn, S35_D n hn, S36c37_D n hn]) <;> first | with_reducible rfl | rfl
/-D 44 -/
noncomputable def D44 (n : Nat × Nat) (b0 : Int × List (Int × Int)) : Option R44 :=
 (D11 n b0).bind fun r1' =>
 (bif (r1'.2 != 0) then some ([], r1'.2)
 else (bif ((r1'.1.length : Int) == 0) then some ([], 12)
 else (bif inB 0 r1'.1.length then (idx r1'.1 0).bind fun x2' =>
 some (x2', 0)
 else none)))
theorem S44_D (n : Nat × Nat) (hn : n.2 = 1) : S44 n = D44 n := by
  funext b0; refine (S44_eq n b0).trans ?_
  unfold D44
  (try simp only [S11_D n hn]) <;> first | with_reducible rfl | rfl
/-D 32 -/
noncomputable def DL32_2 (n : Nat × Nat) (f1 : ByteArray → ByteArray → Int → Option R32) (word0 : ByteArray) (part1 : ByteArray) (i5 : Int) : Option R32 :=
    f1 word0 part1 (wr .i64 (i5 + 1))
theorem DL32_2_eq (n : Nat × Nat) (hn : n.2 = 1) (m1 : Nat) : L32_2 n m1 = DL32_2 n (L32_1 n m1) := by
  funext word0 part1 i5; refine ((held_eq hn _).trans (L32_2_raw n m1 word0 part1 i5)).trans ?_
  unfold DL32_2
  first | with_reducible rfl | rfl
noncomputable def DF32_1 (n : Nat × Nat) (f1 : ByteArray → ByteArray → Int → Option R32) (word0 : ByteArray) (part1 : ByteArray) (i5 : Int) : Option R32 :=
 ((bif (decide (i5 < (word0.size : Int)) == true) then some (!strEq part1 (⟨#[]⟩ : ByteArray))
 else some false)).bind fun b1' =>
 (bif b1' then (idx (strBytes word0) i5).bind fun x2' =>
 (idx (strBytes part1) 0).bind fun x3' =>
 (bif (x2' == x3') then (bif bounds (some 1) none none part1.size then DL32_2 n f1 word0 (strCut (some 1) none part1) i5
 else none)
 else DL32_2 n f1 word0 part1 i5)
 else some (strEq part1 (⟨#[]⟩ : ByteArray)))
noncomputable def DL32_1 (n : Nat × Nat) (m : Nat) : ByteArray → ByteArray → Int → Option R32 := Nat.rec (motive := fun _ => ByteArray → ByteArray → Int → Option R32) (fun _ _ _ => none) (fun _ ih => DF32_1 n ih) m
theorem DL32_1_succ (n : Nat × Nat) (m : Nat) : DL32_1 n (m + 1) = DF32_1 n (DL32_1 n m) := rfl
theorem DL32_1_eq (n : Nat × Nat) (hn : n.2 = 1) : ∀ m, L32_1 n m = DL32_1 n m
  | 0 => by funext word0 part1 i5; kernel_rfl
  | m + 1 => by
    have ih := DL32_1_eq n hn m
    funext word0 part1 i5; refine (L32_1_eq n m word0 part1 i5).trans ?_
    rw [DL32_1_succ]
    unfold DF32_1
    (try simp only [ih, DL32_2_eq n hn]) <;> first | with_reducible rfl | rfl
noncomputable def D32 (n : Nat × Nat) (word0 : ByteArray) (part1 : ByteArray) : Option R32 :=
    DL32_1 n n.1 word0 part1 0
theorem S32_D (n : Nat × Nat) (hn : n.2 = 1) : S32 n = D32 n := by
  funext word0 part1; refine (S32_eq n word0 part1).trans ?_
  unfold D32
  (try simp only [DL32_2_eq n hn, DL32_1_eq n hn]) <;> first | with_reducible rfl | rfl
/-D 65 -/
noncomputable def DF65_1 (n : Nat × Nat) (f1 : ByteArray → Nat → Option R65) (v9s : ByteArray) (v9p : Nat) : Option R65 :=
 (bif Nat.blt v9p v9s.size then ((strBytes v9s)[v9p]?).bind fun x1' =>
 (bif decide (x1' < 128) then ((bif (decide (x1' < 97) == false) then some (decide (x1' ≥ 103))
 else some true)).bind fun b2' =>
 (bif b2' then some 10
 else f1 v9s (v9p + 1))
 else none)
 else some 0)
noncomputable def DL65_1 (n : Nat × Nat) (m : Nat) : ByteArray → Nat → Option R65 := Nat.rec (motive := fun _ => ByteArray → Nat → Option R65) (fun _ _ => none) (fun _ ih => DF65_1 n ih) m
theorem DL65_1_succ (n : Nat × Nat) (m : Nat) : DL65_1 n (m + 1) = DF65_1 n (DL65_1 n m) := rfl
theorem DL65_1_eq (n : Nat × Nat) (hn : n.2 = 1) : ∀ m, L65_1 n m = DL65_1 n m
  | 0 => by funext v9s v9p; kernel_rfl
  | m + 1 => by
    have ih := DL65_1_eq n hn m
    funext v9s v9p; refine (L65_1_eq n m v9s v9p).trans ?_
    rw [DL65_1_succ]
    unfold DF65_1
    (try simp only [ih]) <;> first | with_reducible rfl | rfl
noncomputable def D65 (n : Nat × Nat) (word0 : ByteArray) : Option R65 :=
 (bif decide ((word0.size : Int) > 10) then some 19
 else DL65_1 n n.1 word0 0)
theorem S65_D (n : Nat × Nat) (hn : n.2 = 1) : S65 n = D65 n := by
  funext word0; refine (S65_eq n word0).trans ?_
  unfold D65
  (try simp only [DL65_1_eq n hn]) <;> first | with_reducible rfl | rfl
/-D 31 -/
noncomputable def DF31_1 (n : Nat × Nat) (f1 : List ByteArray → Int → Int → Option R31) (v6 : List ByteArray) (v7 : Int) (v8 : Int) : Option R31 :=
 (bif decide (v8 < v7) then (idx v6 v8).bind fun x1' =>
 (D65 n x1').bind fun r2' =>
 (bif (r2' != 0) then some r2'
 else f1 v6 v7 (wr .i64 (v8 + 1)))
 else some 0)
noncomputable def DL31_1 (n : Nat × Nat) (m : Nat) : List ByteArray → Int → Int → Option R31 := Nat.rec (motive := fun _ => List ByteArray → Int → Int → Option R31) (fun _ _ _ => none) (fun _ ih => DF31_1 n ih) m
theorem DL31_1_succ (n : Nat × Nat) (m : Nat) : DL31_1 n (m + 1) = DF31_1 n (DL31_1 n m) := rfl
theorem DL31_1_eq (n : Nat × Nat) (hn : n.2 = 1) : ∀ m, L31_1 n m = DL31_1 n m
  | 0 => by funext v6 v7 v8; kernel_rfl
  | m + 1 => by
    have ih := DL31_1_eq n hn m
    funext v6 v7 v8; refine (L31_1_eq n m v6 v7 v8).trans ?_
    rw [DL31_1_succ]
    unfold DF31_1
    (try simp only [ih, S65_D n hn]) <;> first | with_reducible rfl | rfl
noncomputable def D31 (n : Nat × Nat) (words0 : List ByteArray) : Option R31 :=
    DL31_1 n n.1 words0 (words0.length : Int) 0
theorem S31_D (n : Nat × Nat) (hn : n.2 = 1) : S31 n = D31 n := by
  funext words0; refine (S31_eq n words0).trans ?_
  unfold D31
  (try simp only [DL31_1_eq n hn, S65_D n hn]) <;> first | with_reducible rfl | rfl
/-D 75 -/
noncomputable def DL75_3 (n : Nat × Nat) (f1 : ByteArray → List Int → Int → Int → List Int → Option R75) (f2 : ByteArray → Int → Int → List Int → Int → Int → List Int → Option R75) (part1 : ByteArray) (c9 : Int) (k10 : Int) (v25 : List Int) (v26 : Int) (v27 : Int) (begun7 : List Int) : Option R75 :=
    f2 part1 c9 (wr .i64 (k10 - 1)) v25 v26 v27 begun7
theorem DL75_3_eq (n : Nat × Nat) (hn : n.2 = 1) (m1 m2 : Nat) : L75_3 n m1 m2 = DL75_3 n (L75_1 n m1) (L75_2 n m1 m2) := by
  funext part1 c9 k10 v25 v26 v27 begun7; refine ((held_eq hn _).trans (L75_3_raw n m1 m2 part1 c9 k10 v25 v26 v27 begun7)).trans ?_
  unfold DL75_3
  (try simp only [S31_D n hn]) <;> first | with_reducible rfl | rfl
noncomputable def DF75_2 (n : Nat × Nat) (f1 : ByteArray → List Int → Int → Int → List Int → Option R75) (f2 : ByteArray → Int → Int → List Int → Int → Int → List Int → Option R75) (part1 : ByteArray) (c9 : Int) (k10 : Int) (v25 : List Int) (v26 : Int) (v27 : Int) (begun7 : List Int) : Option R75 :=
 (bif decide (k10 > 0) then (idx (strBytes part1) (wr .i64 (k10 - 1))).bind fun x5' =>
 (bif (x5' == c9) then (bif inB k10 begun7.length then (idx begun7 k10).bind fun x6' =>
 (bif inB (wr .i64 (k10 - 1)) begun7.length then (idx begun7 (wr .i64 (k10 - 1))).bind fun x7' =>
 (bif inB k10 begun7.length then (idx begun7 k10).bind fun x8' =>
              DL75_3 n f1 f2 part1 c9 k10 v25 v26 v27 (begun7.set (Int.toNat k10) (wr .i64 (x6' + x7')))
 else none)
 else none)
 else none)
 else DL75_3 n f1 f2 part1 c9 k10 v25 v26 v27 begun7)
 else f1 part1 v25 v26 (wr .i64 (v27 + 1)) begun7)
noncomputable def DL75_2 (n : Nat × Nat) (f1 : ByteArray → List Int → Int → Int → List Int → Option R75) (m : Nat) : ByteArray → Int → Int → List Int → Int → Int → List Int → Option R75 := Nat.rec (motive := fun _ => ByteArray → Int → Int → List Int → Int → Int → List Int → Option R75) (fun _ _ _ _ _ _ _ => none) (fun _ ih => DF75_2 n f1 ih) m
theorem DL75_2_succ (n : Nat × Nat) (f1 : ByteArray → List Int → Int → Int → List Int → Option R75) (m : Nat) : DL75_2 n f1 (m + 1) = DF75_2 n f1 (DL75_2 n f1 m) := rfl
theorem DL75_2_eq (n : Nat × Nat) (hn : n.2 = 1) (m1 : Nat) : ∀ m, L75_2 n m1 m = DL75_2 n (L75_1 n m1) m
  | 0 => by funext part1 c9 k10 v25 v26 v27 begun7; kernel_rfl
  | m + 1 => by
    have ih := DL75_2_eq n hn m1 m
    funext part1 c9 k10 v25 v26 v27 begun7; refine (L75_2_eq n m1 m part1 c9 k10 v25 v26 v27 begun7).trans ?_
    rw [DL75_2_succ]
    unfold DF75_2
    (try simp only [ih, DL75_3_eq n hn, S31_D n hn]) <;> first | with_reducible rfl | rfl
noncomputable def DF75_1 (n : Nat × Nat) (f1 : ByteArray → List Int → Int → Int → List Int → Option R75) (part1 : ByteArray) (v25 : List Int) (v26 : Int) (v27 : Int) (begun7 : List Int) : Option R75 :=
 (bif decide (v27 < v26) then (idx v25 v27).bind fun x3' =>
      DL75_2 n f1 n.1 part1 x3' (part1.size : Int) v25 v26 v27 begun7
 else (bif inB (part1.size : Int) begun7.length then (idx begun7 (part1.size : Int)).bind fun x4' =>
 some (x4', 0)
 else none))
noncomputable def DL75_1 (n : Nat × Nat) (m : Nat) : ByteArray → List Int → Int → Int → List Int → Option R75 := Nat.rec (motive := fun _ => ByteArray → List Int → Int → Int → List Int → Option R75) (fun _ _ _ _ _ => none) (fun _ ih => DF75_1 n ih) m
theorem DL75_1_succ (n : Nat × Nat) (m : Nat) : DL75_1 n (m + 1) = DF75_1 n (DL75_1 n m) := rfl
theorem DL75_1_eq (n : Nat × Nat) (hn : n.2 = 1) : ∀ m, L75_1 n m = DL75_1 n m
  | 0 => by funext part1 v25 v26 v27 begun7; kernel_rfl
  | m + 1 => by
    have ih := DL75_1_eq n hn m
    funext part1 v25 v26 v27 begun7; refine (L75_1_eq n m part1 v25 v26 v27 begun7).trans ?_
    rw [DL75_1_succ]
    unfold DF75_1
    (try simp only [ih, DL75_3_eq n hn, DL75_2_eq n hn, S31_D n hn]) <;> first | with_reducible rfl | rfl
noncomputable def D75 (n : Nat × Nat) (word0 : ByteArray) (part1 : ByteArray) : Option R75 :=
 (D31 n [word0, part1]).bind fun r1' =>
 (bif (r1' != 0) then some (0, r1')
 else (bif decide (0 ≤ wr .i64 ((part1.size : Int) + 1)) && decide (wr .i64 ((part1.size : Int) + 1) ≤ wr .i64 ((part1.size : Int) + 1)) && decide (wr .i64 ((part1.size : Int) + 1) ≤ lim) then (bif inB 0 (List.replicate (Int.toNat (wr .i64 ((part1.size : Int) + 1))) (0 : Int)).length then (idx (List.replicate (Int.toNat (wr .i64 ((part1.size : Int) + 1))) (0 : Int)) 0).bind fun x2' =>
          DL75_1 n n.1 part1 (strBytes word0) ((strBytes word0).length : Int) 0 ((List.replicate (Int.toNat (wr .i64 ((part1.size : Int) + 1))) (0 : Int)).set (Int.toNat 0) 1)
 else none)
 else none))
theorem S75_D (n : Nat × Nat) (hn : n.2 = 1) : S75 n = D75 n := by
  funext word0 part1; refine (S75_eq n word0 part1).trans ?_
  unfold D75
  (try simp only [DL75_3_eq n hn, DL75_2_eq n hn, DL75_1_eq n hn, S31_D n hn]) <;> first | with_reducible rfl | rfl
/-D 105 -/
noncomputable def DF105_1 (n : Nat × Nat) (f1 : Int → ByteArray → Nat → Option R105) (letters1 : Int) (v22s : ByteArray) (v22p : Nat) : Option R105 :=
 (bif Nat.blt v22p v22s.size then ((strBytes v22s)[v22p]?).bind fun x3' =>
 (bif decide (x3' < 128) then (bif decide (x3' ≥ wr .i32 (97 + (wr .i32 letters1))) then some 2
 else f1 letters1 v22s (v22p + 1))
 else none)
 else some 0)
noncomputable def DL105_1 (n : Nat × Nat) (m : Nat) : Int → ByteArray → Nat → Option R105 := Nat.rec (motive := fun _ => Int → ByteArray → Nat → Option R105) (fun _ _ _ => none) (fun _ ih => DF105_1 n ih) m
theorem DL105_1_succ (n : Nat × Nat) (m : Nat) : DL105_1 n (m + 1) = DF105_1 n (DL105_1 n m) := rfl
theorem DL105_1_eq (n : Nat × Nat) (hn : n.2 = 1) : ∀ m, L105_1 n m = DL105_1 n m
  | 0 => by funext letters1 v22s v22p; kernel_rfl
  | m + 1 => by
    have ih := DL105_1_eq n hn m
    funext letters1 v22s v22p; refine (L105_1_eq n m letters1 v22s v22p).trans ?_
    rw [DL105_1_succ]
    unfold DF105_1
    (try simp only [ih, S65_D n hn]) <;> first | with_reducible rfl | rfl
noncomputable def D105 (n : Nat × Nat) (word0 : ByteArray) (letters1 : Int) : Option R105 :=
 (D65 n word0).bind fun r1' =>
 (bif (r1' != 0) then some r1'
 else ((bif (decide (letters1 < 1) == false) then some (decide (letters1 > 6))
 else some true)).bind fun b2' =>
 (bif b2' then some 1
 else DL105_1 n n.1 letters1 word0 0))
theorem S105_D (n : Nat × Nat) (hn : n.2 = 1) : S105 n = D105 n := by
  funext word0 letters1; refine (S105_eq n word0 letters1).trans ?_
  unfold D105
  (try simp only [DL105_1_eq n hn, S65_D n hn]) <;> first | with_reducible rfl | rfl
/-D 106 -/
noncomputable def DF106_1 (n : Nat × Nat) (f1 : Int → List Int → (List (Int × Bool)) → ByteArray → Nat → Option R106) (letters1 : Int) (out5 : List Int) (met6 : List (Int × Bool)) (v11s : ByteArray) (v11p : Nat) : Option R106 :=
 (bif Nat.blt v11p v11s.size then ((strBytes v11s)[v11p]?).bind fun x1' =>
 (bif decide (x1' < 128) then (bif (((aset met6 x1' true).length : Int) == letters1) then (bif decide (out5.length + [wr .i64 ((v11p : Int) + 1)].length ≤ lim) then f1 letters1 (out5 ++ [wr .i64 ((v11p : Int) + 1)]) [] v11s (v11p + 1)
 else none)
 else f1 letters1 out5 (aset met6 x1' true) v11s (v11p + 1))
 else none)
 else some out5)
noncomputable def DL106_1 (n : Nat × Nat) (m : Nat) : Int → List Int → (List (Int × Bool)) → ByteArray → Nat → Option R106 := Nat.rec (motive := fun _ => Int → List Int → (List (Int × Bool)) → ByteArray → Nat → Option R106) (fun _ _ _ _ _ => none) (fun _ ih => DF106_1 n ih) m
theorem DL106_1_succ (n : Nat × Nat) (m : Nat) : DL106_1 n (m + 1) = DF106_1 n (DL106_1 n m) := rfl
theorem DL106_1_eq (n : Nat × Nat) (hn : n.2 = 1) : ∀ m, L106_1 n m = DL106_1 n m
  | 0 => by funext letters1 out5 met6 v11s v11p; kernel_rfl
  | m + 1 => by
    have ih := DL106_1_eq n hn m
    funext letters1 out5 met6 v11s v11p; refine (L106_1_eq n m letters1 out5 met6 v11s v11p).trans ?_
    rw [DL106_1_succ]
    unfold DF106_1
    (try simp only [ih]) <;> first | with_reducible rfl | rfl
noncomputable def D106 (n : Nat × Nat) (word0 : ByteArray) (letters1 : Int) : Option R106 :=
    DL106_1 n n.1 letters1 [] [] word0 0
theorem S106_D (n : Nat × Nat) (hn : n.2 = 1) : S106 n = D106 n := by
  funext word0 letters1; refine (S106_eq n word0 letters1).trans ?_
  unfold D106
  (try simp only [DL106_1_eq n hn]) <;> first | with_reducible rfl | rfl
/-D 107 -/
noncomputable def DF107_1 (n : Nat × Nat) (f1 : List Int → Int → Int → Int → Option R107) (s0 : List Int) (v1 : Int) (v7 : Int) (v8 : Int) : Option R107 :=
 (bif decide (v8 < v7) then (idx s0 v8).bind fun x1' =>
 (bif (v1 == x1') then some v8
 else f1 s0 v1 v7 (wr .i64 (v8 + 1)))
 else some (-1))
noncomputable def DL107_1 (n : Nat × Nat) (m : Nat) : List Int → Int → Int → Int → Option R107 := Nat.rec (motive := fun _ => List Int → Int → Int → Int → Option R107) (fun _ _ _ _ => none) (fun _ ih => DF107_1 n ih) m
theorem DL107_1_succ (n : Nat × Nat) (m : Nat) : DL107_1 n (m + 1) = DF107_1 n (DL107_1 n m) := rfl
theorem DL107_1_eq (n : Nat × Nat) (hn : n.2 = 1) : ∀ m, L107_1 n m = DL107_1 n m
  | 0 => by funext s0 v1 v7 v8; kernel_rfl
  | m + 1 => by
    have ih := DL107_1_eq n hn m
    funext s0 v1 v7 v8; refine (L107_1_eq n m s0 v1 v7 v8).trans ?_
    rw [DL107_1_succ]
    unfold DF107_1
    (try simp only [ih]) <;> first | with_reducible rfl | rfl
noncomputable def D107 (n : Nat × Nat) (s0 : List Int) (v1 : Int) : Option R107 :=
    DL107_1 n n.1 s0 v1 (s0.length : Int) 0
theorem S107_D (n : Nat × Nat) (hn : n.2 = 1) : S107 n = D107 n := by
  funext s0 v1; refine (S107_eq n s0 v1).trans ?_
  unfold D107
  (try simp only [DL107_1_eq n hn]) <;> first | with_reducible rfl | rfl
/-D 76 -/
noncomputable def DL76_3 (n : Nat × Nat) (f1 : ByteArray → Int → List Int → Option R76) (f2 : ByteArray → Int → Int → Bool → Int → List Int → Option R76) (word0 : ByteArray) (letters1 : Int) (left8 : Int) (found9 : Bool) (c10 : Int) (out7 : List Int) : Option R76 :=
    f2 word0 letters1 left8 found9 (wr .u8 (c10 + 1)) out7
theorem DL76_3_eq (n : Nat × Nat) (hn : n.2 = 1) (m1 m2 : Nat) : L76_3 n m1 m2 = DL76_3 n (L76_1 n m1) (L76_2 n m1 m2) := by
  funext word0 letters1 left8 found9 c10 out7; refine ((held_eq hn _).trans (L76_3_raw n m1 m2 word0 letters1 left8 found9 c10 out7)).trans ?_
  unfold DL76_3
  (try simp only [S105_D n hn, S106_D n hn, S107_D n hn]) <;> first | with_reducible rfl | rfl
noncomputable def DF76_2 (n : Nat × Nat) (f1 : ByteArray → Int → List Int → Option R76) (f2 : ByteArray → Int → Int → Bool → Int → List Int → Option R76) (word0 : ByteArray) (letters1 : Int) (left8 : Int) (found9 : Bool) (c10 : Int) (out7 : List Int) : Option R76 :=
 ((bif (decide (c10 < wr .u8 (wr .i64 (97 + letters1))) == true) then some (!found9)
 else some false)).bind fun b3' =>
 (bif b3' then (D107 n (strBytes word0) c10).bind fun r4' =>
 (bif decide (r4' < 0) then (bif decide (out7.length + [c10].length ≤ lim) then some (strNums (out7 ++ [c10]), 0)
 else none)
 else ((bif (decide (left8 > 0) == true) then (bif bounds (some (wr .i64 (r4' + 1))) none none word0.size then (D106 n (strCut (some (wr .i64 (r4' + 1))) none word0) letters1).bind fun r5' =>
 some ((r5'.length : Int) == (wr .i64 (left8 - 1)))
 else none)
 else some false)).bind fun b6' =>
 (bif b6' then (bif decide (out7.length + [c10].length ≤ lim) then (bif bounds (some (wr .i64 (r4' + 1))) none none word0.size then DL76_3 n f1 f2 (strCut (some (wr .i64 (r4' + 1))) none word0) letters1 left8 true c10 (out7 ++ [c10])
 else none)
 else none)
 else DL76_3 n f1 f2 word0 letters1 left8 found9 c10 out7))
 else f1 word0 letters1 out7)
noncomputable def DL76_2 (n : Nat × Nat) (f1 : ByteArray → Int → List Int → Option R76) (m : Nat) : ByteArray → Int → Int → Bool → Int → List Int → Option R76 := Nat.rec (motive := fun _ => ByteArray → Int → Int → Bool → Int → List Int → Option R76) (fun _ _ _ _ _ _ => none) (fun _ ih => DF76_2 n f1 ih) m
theorem DL76_2_succ (n : Nat × Nat) (f1 : ByteArray → Int → List Int → Option R76) (m : Nat) : DL76_2 n f1 (m + 1) = DF76_2 n f1 (DL76_2 n f1 m) := rfl
theorem DL76_2_eq (n : Nat × Nat) (hn : n.2 = 1) (m1 : Nat) : ∀ m, L76_2 n m1 m = DL76_2 n (L76_1 n m1) m
  | 0 => by funext word0 letters1 left8 found9 c10 out7; kernel_rfl
  | m + 1 => by
    have ih := DL76_2_eq n hn m1 m
    funext word0 letters1 left8 found9 c10 out7; refine (L76_2_eq n m1 m word0 letters1 left8 found9 c10 out7).trans ?_
    rw [DL76_2_succ]
    unfold DF76_2
    (try simp only [ih, DL76_3_eq n hn, S105_D n hn, S106_D n hn, S107_D n hn]) <;> first | with_reducible rfl | rfl
noncomputable def DF76_1 (n : Nat × Nat) (f1 : ByteArray → Int → List Int → Option R76) (word0 : ByteArray) (letters1 : Int) (out7 : List Int) : Option R76 :=
 (D106 n word0 letters1).bind fun r2' =>
    DL76_2 n f1 n.1 word0 letters1 (r2'.length : Int) false 97 out7
noncomputable def DL76_1 (n : Nat × Nat) (m : Nat) : ByteArray → Int → List Int → Option R76 := Nat.rec (motive := fun _ => ByteArray → Int → List Int → Option R76) (fun _ _ _ => none) (fun _ ih => DF76_1 n ih) m
theorem DL76_1_succ (n : Nat × Nat) (m : Nat) : DL76_1 n (m + 1) = DF76_1 n (DL76_1 n m) := rfl
theorem DL76_1_eq (n : Nat × Nat) (hn : n.2 = 1) : ∀ m, L76_1 n m = DL76_1 n m
  | 0 => by funext word0 letters1 out7; kernel_rfl
  | m + 1 => by
    have ih := DL76_1_eq n hn m
    funext word0 letters1 out7; refine (L76_1_eq n m word0 letters1 out7).trans ?_
    rw [DL76_1_succ]
    unfold DF76_1
    (try simp only [ih, DL76_3_eq n hn, DL76_2_eq n hn, S105_D n hn, S106_D n hn, S107_D n hn]) <;> first | with_reducible rfl | rfl
noncomputable def D76 (n : Nat × Nat) (word0 : ByteArray) (letters1 : Int) : Option R76 :=
 (D105 n word0 letters1).bind fun r1' =>
 (bif (r1' != 0) then some ((⟨#[]⟩ : ByteArray), r1')
 else DL76_1 n n.1 word0 letters1 [])
theorem S76_D (n : Nat × Nat) (hn : n.2 = 1) : S76 n = D76 n := by
  funext word0 letters1; refine (S76_eq n word0 letters1).trans ?_
  unfold D76
  (try simp only [DL76_3_eq n hn, DL76_2_eq n hn, DL76_1_eq n hn, S105_D n hn, S106_D n hn, S107_D n hn]) <;> first | with_reducible rfl | rfl
/-D 45 -/
noncomputable def D45 (n : Nat × Nat) : Option R45 :=
 (D75 n (⟨#[97, 98, 99, 97]⟩ : ByteArray) (⟨#[97]⟩ : ByteArray)).bind fun r1' =>
 (D76 n (⟨#[97, 98, 98, 97]⟩ : ByteArray) 2).bind fun r2' =>
 ((bif ((r1'.2 == 0) == true) then some (r2'.2 == 0)
 else some false)).bind fun b3' =>
 ((bif (b3' == true) then some (r1'.1 == 2)
 else some false)).bind fun b4' =>
 ((bif (b4' == true) then some (strEq r2'.1 (⟨#[97, 97, 97]⟩ : ByteArray))
 else some false)).bind fun b5' =>
 ((bif (b5' == true) then (D32 n (⟨#[100, 97, 121, 45, 98, 111, 111, 107]⟩ : ByteArray) (⟨#[121, 98, 107]⟩ : ByteArray)).bind fun r6' =>
 some r6'
 else some false)).bind fun b7' =>
 some b7'
theorem S45_D (n : Nat × Nat) (hn : n.2 = 1) : S45 n = D45 n := by
  refine (S45_eq n).trans ?_
  unfold D45
  (try simp only [S32_D n hn, S75_D n hn, S76_D n hn]) <;> first | with_reducible rfl | rfl
/-D 16 -/
noncomputable def D16 (n : Nat × Nat) : Option R16 :=
 (D44 n (3, [(0, 1), (1, 2)])).bind fun r1' =>
 ((bif ((r1'.2 == 0) == true) then (D14 n r1'.1 [0, 2]).bind fun r2' =>
 some r2'
 else some false)).bind fun b3' =>
 ((bif (b3' == true) then (D45 n).bind fun r4' =>
 some r4'
 else some false)).bind fun b5' =>
 some b5'
theorem S16_D (n : Nat × Nat) (hn : n.2 = 1) : S16 n = D16 n := by
  refine (S16_eq n).trans ?_
  unfold D16
  (try simp only [S14_D n hn, S44_D n hn, S45_D n hn]) <;> first | with_reducible rfl | rfl
def M : Nat × Nat := (100000, 1)
theorem sees_ok : D16 M = some true := by kernel_rfl
theorem by_u8 {n : Int} (h : Wf (.int .u8) n) : 0 ≤ n ∧ n ≤ 255 := by
  have h : (Lit.int .u8 n).wf = true := h
  simp only [Lit.wf, Bool.and_eq_true, decide_eq_true_eq] at h
  exact h
theorem tmod_small (k : Nat) (hk : 0 < k) {m : Int} (h : 0 ≤ m ∧ m ≤ 255) : ∃ a : Nat, a < k ∧ Int.tmod (wr .i64 m) (k : Int) = (a : Int) := by
  obtain ⟨x, rfl⟩ := Int.eq_ofNat_of_zero_le h.1
  have e : wr .i64 (x : Int) = (x : Int) := by
    show IntKind.i64.wrap _ = _
    rw [IntKind.wrap_i64]
    omega
  rw [e]
  exact ⟨x % k, Nat.mod_lt _ hk, (Int.ofNat_tmod x k).symm⟩
/-- A book of references that is a strict order. -/
structure Ord (b : Int × List (Int × Int)) : Prop where
  lo : 1 ≤ b.1
  hi : b.1 ≤ 7
  len : b.2.length ≤ 16
  rng : ∀ p ∈ b.2, 0 ≤ p.1 ∧ p.1 < b.1 ∧ 0 ≤ p.2 ∧ p.2 < b.1
  irr : ∀ p ∈ b.2, p.1 ≠ p.2
  nodup : b.2.Nodup
  trans : ∀ p ∈ b.2, ∀ q ∈ b.2, p.2 = q.1 → (p.1, q.2) ∈ b.2
def okB (b : Int × List (Int × Int)) : Bool :=
  decide (1 ≤ b.1) && decide (b.1 ≤ 7) && decide (b.2.length ≤ 16) && decide (∀ p ∈ b.2, 0 ≤ p.1 ∧ p.1 < b.1 ∧ 0 ≤ p.2 ∧ p.2 < b.1) && decide (∀ p ∈ b.2, p.1 ≠ p.2) && decide b.2.Nodup && decide (∀ p ∈ b.2, ∀ q ∈ b.2, p.2 = q.1 → (p.1, q.2) ∈ b.2)
theorem okB_iff (b : Int × List (Int × Int)) : okB b = true ↔ Ord b := by
  unfold okB
  simp only [Bool.and_eq_true, decide_eq_true_eq]
  exact ⟨fun ⟨⟨⟨⟨⟨⟨h1, h2⟩, h3⟩, h4⟩, h5⟩, h6⟩, h7⟩ => ⟨h1, h2, h3, h4, h5, h6, h7⟩, fun h => ⟨⟨⟨⟨⟨⟨h.lo, h.hi⟩, h.len⟩, h.rng⟩, h.irr⟩, h.nodup⟩, h.trans⟩⟩
def HF12 (b : Int × List (Int × Int)) : Option (Int × Int) := bif okB b then some (0, 0) else none
theorem wr_w {x : Int} (h0 : -1000000 ≤ x) (h1 : x ≤ 1000000) : wr .i64 x = x := by
  show IntKind.i64.wrap _ = _
  rw [IntKind.wrap_i64]
  omega
theorem dup_loop (n : Nat × Nat) (s : List (Int × Int)) (v : Int × Int) (hs : s.length ≤ 100) (hv : v ∉ s) : ∀ (d i m : Nat), i + d = s.length → d < m → DL117_1 n m s (s.length : Int) (i : Int) v.1 v.2 = some (-1)
  | 0, i, m, hi, hm => by
    obtain ⟨m, rfl⟩ : ∃ j, m = j + 1 := ⟨m - 1, by omega⟩
    rw [DL117_1_succ]
    unfold DF117_1
    rw [show decide ((i : Int) < (s.length : Int)) = false by simp; omega, cond_false]
  | d + 1, i, m, hi, hm => by
    obtain ⟨m, rfl⟩ : ∃ j, m = j + 1 := ⟨m - 1, by omega⟩
    rw [DL117_1_succ]
    unfold DF117_1
    have hlt : i < s.length := by omega
    have e1 : idx s (i : Int) = some s[i] := by
      unfold idx
      rw [if_pos (by omega), Int.toNat_natCast, List.getElem?_eq_getElem hlt]
    have hne : ((v.1 == s[i].1) && ((v.2 == s[i].2) && true)) = false := by
      rw [← Bool.not_eq_true, Bool.and_true, Bool.and_eq_true, beq_iff_eq, beq_iff_eq]
      rintro ⟨a, b⟩
      exact hv ((Prod.ext a b : v = s[i]) ▸ List.getElem_mem _)
    rw [show decide ((i : Int) < (s.length : Int)) = true by simp; omega, cond_true, e1, Option.bind_some, hne, cond_false, wr_w (by omega) (by omega)]
    exact dup_loop n s v hs hv d (i + 1) m (by omega) (by omega)
theorem dup_eq {n : Nat × Nat} (hn : 200 ≤ n.1) (s : List (Int × Int)) (v : Int × Int) (hs : s.length ≤ 100) (hv : v ∉ s) : D90 n s v = some false := by
  unfold D90 D117
  rw [show DL117_1 n n.1 s (s.length : Int) 0 v.1 v.2 = some (-1) from dup_loop n s v hs hv s.length 0 n.1 (by omega) (by omega)]
  rfl
theorem boundsI {k n : Nat} (h : k ≤ n) : bounds none (some (k : Int)) none n = true := by
  unfold bounds
  simp
  omega
theorem check_loop {n : Nat × Nat} (hn : 200 ≤ n.1) {b : Int × List (Int × Int)} (h : Ord b) : ∀ (d i m : Nat), i + d = b.2.length → d < m → DL66_1 n m b.2 (b.2.length : Int) (i : Int) b.1 b.2 = some 0
  | 0, i, m, hi, hm => by
    obtain ⟨m, rfl⟩ : ∃ j, m = j + 1 := ⟨m - 1, by omega⟩
    rw [DL66_1_succ]
    unfold DF66_1
    rw [show decide ((i : Int) < (b.2.length : Int)) = false by simp; omega, cond_false]
  | d + 1, i, m, hi, hm => by
    obtain ⟨m, rfl⟩ : ∃ j, m = j + 1 := ⟨m - 1, by omega⟩
    have hl := h.len
    have hlt : i < b.2.length := by omega
    have e1 : idx b.2 (i : Int) = some b.2[i] := by
      unfold idx
      rw [if_pos (by omega), Int.toNat_natCast, List.getElem?_eq_getElem hlt]
    obtain ⟨r1, r2, r3, r4⟩ := h.rng b.2[i] (List.getElem_mem _)
    have hne := h.irr b.2[i] (List.getElem_mem _)
    have hni : b.2[i] ∉ b.2.take i := fun hm => by
      obtain ⟨k, hk, e⟩ := List.getElem_of_mem hm
      rw [List.getElem_take] at e
      rw [List.length_take] at hk
      exact List.pairwise_iff_getElem.1 h.nodup k i (by omega) hlt (by omega) e
    rw [DL66_1_succ]
    unfold DF66_1
    rw [show decide ((i : Int) < (b.2.length : Int)) = true by simp; omega, cond_true, e1, Option.bind_some]
    generalize b.2[i] = p at r1 r2 r3 r4 hne hni
    have i0 : idx [p.1, p.2] 0 = some p.1 := rfl
    have i1 : idx [p.1, p.2] 1 = some p.2 := rfl
    rw [show inB 0 2 = true from rfl, show inB 1 2 = true from rfl]
    simp only [cond_true, i0, i1, Option.bind_some]
    rw [show decide ((if p.2 < p.1 then p.2 else p.1) < 0) = false by rw [decide_eq_false_iff_not]; split <;> omega, show decide ((if p.2 > p.1 then p.2 else p.1) ≥ b.1) = false by rw [decide_eq_false_iff_not]; split <;> omega]
    rw [show (p.1 == p.2) = false by rw [← Bool.not_eq_true, beq_iff_eq]; exact hne, boundsI (by omega), Int.toNat_natCast, dup_eq hn _ _ (by rw [List.length_take]; omega) hni, wr_w (by omega) (by omega)]
    exact check_loop hn h d (i + 1) m (by omega) (by omega)
def orE (x c : Int) : Int := (wr .u64 (BitVec.ofInt (IntKind.bits .u64) x ||| BitVec.ofInt (IntKind.bits .u64) (wr .u64 (1 * 2 ^ (min (Int.toNat c) (IntKind.bits .u64))))).toNat)
theorem or_tab : ((List.range 128).all fun a => (List.range 7).all fun c => orE (a : Int) (c : Int) == ((a ||| 2 ^ c : Nat) : Int)) = true := by decide +kernel
theorem or_bit {a c : Nat} (ha : a < 128) (hc : c < 7) : orE (a : Int) (c : Int) = ((a ||| 2 ^ c : Nat) : Int) := by
  have := List.all_eq_true.1 (List.all_eq_true.1 or_tab a (List.mem_range.2 ha)) c (List.mem_range.2 hc)
  simpa using this
/-- A web's row takes one more. -/
def addR (m : Nat → Nat) (a c : Nat) : Nat → Nat := fun i => if i = a then m i ||| 2 ^ c else m i
abbrev tupR (k : Int) (m : Nat → Nat) : Int × Int × Int × Int × Int × Int × Int × Int := (k, (m 0 : Int), (m 1 : Int), (m 2 : Int), (m 3 : Int), (m 4 : Int), (m 5 : Int), (m 6 : Int))
def rowsOf (l : List (Int × Int)) : Nat → Nat := l.foldl (fun m p => addR m p.1.toNat p.2.toNat) (fun _ => 0)
theorem rows_bit : ∀ (l : List (Int × Int)) (m : Nat → Nat) (i j : Nat), (∀ p ∈ l, 0 ≤ p.1 ∧ 0 ≤ p.2) → ((l.foldl (fun m p => addR m p.1.toNat p.2.toNat) m) i).testBit j = ((m i).testBit j || decide (((i : Int), (j : Int)) ∈ l))
  | [], m, i, j, _ => by simp
  | p :: l, m, i, j, h => by
    have hp := h p (by simp)
    rw [List.foldl_cons, rows_bit l _ i j (fun q hq => h q (by simp [hq]))]
    unfold addR
    by_cases e : i = p.1.toNat
    · rw [if_pos e, Nat.testBit_or, Nat.testBit_two_pow, Bool.or_assoc]
      congr 1
      by_cases e2 : p.2.toNat = j
      · have : ((i : Int), (j : Int)) = p := Prod.ext (by simp; omega) (by simp; omega)
        simp [e2, this]
      · have : ((i : Int), (j : Int)) ≠ p := fun e3 => e2 (by rw [← e3]; simp)
        simp [e2, this]
    · rw [if_neg e]
      have : ((i : Int), (j : Int)) ≠ p := fun e3 => e (by rw [← e3]; simp)
      simp [this]
theorem addR_lt {m : Nat → Nat} (hm : ∀ i, m i < 128) {a c : Nat} (hc : c < 7) : ∀ i, addR m a c i < 128 := fun i => by
  unfold addR
  split
  · exact Nat.or_lt_two_pow (n := 7) (hm i) (Nat.pow_lt_pow_right (by decide) hc)
  · exact hm i
theorem woven_loop (n : Nat × Nat) (v : Int × Int × Int × Int × Int × Int × Int × Int) (l : List (Int × Int)) (hl : l.length ≤ 16) (k : Int) (hr : ∀ p ∈ l, 0 ≤ p.1 ∧ p.1 < 7 ∧ 0 ≤ p.2 ∧ p.2 < 7) : ∀ (d i f : Nat) (m : Nat → Nat), i + d = l.length → d < f → (∀ i, m i < 128) →
    DL33_1 n f l (l.length : Int) (i : Int) v.1 v.2.1 v.2.2.1 v.2.2.2.1 v.2.2.2.2.1 v.2.2.2.2.2.1 v.2.2.2.2.2.2.1 v.2.2.2.2.2.2.2 k (m 0 : Int) (m 1 : Int) (m 2 : Int) (m 3 : Int) (m 4 : Int) (m 5 : Int) (m 6 : Int) = some (tupR k ((l.drop i).foldl (fun m p => addR m p.1.toNat p.2.toNat) m), 0)
  | 0, i, f, m, hi, hf, hm => by
    obtain ⟨f, rfl⟩ : ∃ j, f = j + 1 := ⟨f - 1, by omega⟩
    rw [DL33_1_succ]
    unfold DF33_1
    rw [show decide ((i : Int) < (l.length : Int)) = false by simp; omega, cond_false, List.drop_of_length_le (by omega)]
    rfl
  | d + 1, i, f, m, hi, hf, hm => by
    obtain ⟨f, rfl⟩ : ∃ j, f = j + 1 := ⟨f - 1, by omega⟩
    have hlt : i < l.length := by omega
    have e1 : idx l (i : Int) = some l[i] := by
      unfold idx
      rw [if_pos (by omega), Int.toNat_natCast, List.getElem?_eq_getElem hlt]
    obtain ⟨r1, r2, r3, r4⟩ := hr l[i] (List.getElem_mem _)
    rw [DL33_1_succ, List.drop_eq_getElem_cons hlt, List.foldl_cons]
    unfold DF33_1
    rw [show decide ((i : Int) < (l.length : Int)) = true by simp; omega, cond_true, e1, Option.bind_some]
    generalize l[i] = p at r1 r2 r3 r4
    obtain ⟨a, c⟩ := p
    simp only at r1 r2 r3 r4 ⊢
    obtain ⟨a, rfl⟩ := Int.eq_ofNat_of_zero_le r1
    obtain ⟨c, rfl⟩ := Int.eq_ofNat_of_zero_le r3
    have ha : a < 7 := by omega
    have hc : c < 7 := by omega
    have ih := woven_loop n v l hl k hr d (i + 1) f (addR m a c) (by omega) (by omega) (addR_lt hm hc)
    rw [Int.toNat_natCast, Int.toNat_natCast, ← ih]
    have i0 : idx [(a : Int), (c : Int)] 0 = some (a : Int) := rfl
    have i1 : idx [(a : Int), (c : Int)] 1 = some (c : Int) := rfl
    have ib : inB (a : Int) 7 = true := by unfold inB; simp; omega
    have ir : idx [(m 0 : Int), (m 1 : Int), (m 2 : Int), (m 3 : Int), (m 4 : Int), (m 5 : Int), (m 6 : Int)] (a : Int) = some (m a : Int) := by
      unfold idx
      rw [if_pos (by omega), Int.toNat_natCast]
      match a, ha with
      | 0, _ => rfl
      | 1, _ => rfl
      | 2, _ => rfl
      | 3, _ => rfl
      | 4, _ => rfl
      | 5, _ => rfl
      | 6, _ => rfl
    have ho := or_bit (hm a) hc
    unfold orE at ho
    rw [show inB 0 2 = true from rfl, show inB 1 2 = true from rfl, cond_true, i0, Option.bind_some, ib, cond_true, ir, Option.bind_some, cond_true, i1, Option.bind_some, show decide ((c : Int) < 0) = false by simp, cond_false, cond_true, ho, wr_w (by omega) (by omega)]
    match a, ha with
    | 0, _ => rfl
    | 1, _ => rfl
    | 2, _ => rfl
    | 3, _ => rfl
    | 4, _ => rfl
    | 5, _ => rfl
    | 6, _ => rfl
theorem check_eq {n : Nat × Nat} (hn : 200 ≤ n.1) {b : Int × List (Int × Int)} (h : Ord b) : D66 n b = some 0 := by
  have h1 := h.lo
  have h2 := h.hi
  have h3 := h.len
  unfold D66
  rw [show decide (b.1 < 1) = false by simp; omega, show decide (b.1 > 7) = false by simp; omega, show decide ((b.2.length : Int) > 16) = false by simp; omega]
  exact check_loop hn h b.2.length 0 n.1 (by omega) (by omega)
theorem web_eq {n : Nat × Nat} (hn : 200 ≤ n.1) {b : Int × List (Int × Int)} (h : Ord b) : D33 n b = some (tupR b.1 (rowsOf b.2), 0) := by
  have h3 := h.len
  have hr : ∀ p ∈ b.2, 0 ≤ p.1 ∧ p.1 < 7 ∧ 0 ≤ p.2 ∧ p.2 < 7 := fun p hp => by
    have := h.rng p hp
    have := h.hi
    omega
  have := woven_loop n (0, 0, 0, 0, 0, 0, 0, 0) b.2 h3 b.1 hr b.2.length 0 n.1 (fun _ => 0) (by omega) (by omega) (fun _ => by omega)
  unfold D33
  rw [check_eq hn h, Option.bind_some]
  exact this
theorem rows_lt {b : Int × List (Int × Int)} (h : Ord b) (i : Nat) : rowsOf b.2 i < 128 := by
  have : ∀ (l : List (Int × Int)) (m : Nat → Nat), (∀ p ∈ l, 0 ≤ p.2 ∧ p.2 < 7) → (∀ i, m i < 128) → ∀ i, (l.foldl (fun m p => addR m p.1.toNat p.2.toNat) m) i < 128 := by
    intro l
    induction l with
    | nil => intro m _ hm; exact hm
    | cons p l ih =>
      intro m hl hm
      have := hl p (by simp)
      exact ih _ (fun q hq => hl q (by simp [hq])) (addR_lt hm (by omega))
  refine this b.2 _ (fun p hp => ?_) (fun _ => by omega) i
  have := h.rng p hp
  have := h.hi
  omega
theorem rows_ref {b : Int × List (Int × Int)} (h : Ord b) (i j : Nat) : (rowsOf b.2 i).testBit j = decide (((i : Int), (j : Int)) ∈ b.2) := by
  unfold rowsOf
  rw [rows_bit b.2 _ i j (fun p hp => by have := h.rng p hp; omega)]
  simp
end Go.Proofs.YtkfkbebinhkdlaaDoor
set_option linter.unusedVariables false
set_option linter.unusedSimpArgs false
set_option maxRecDepth 100000
namespace Go.Proofs.YtkfkbebinhkdlaaDoor
open Go.RowKit Go.Shelf Go.Vi
def n1 : Nat × Nat := (1000, 1)
theorem fcs_FC12 {pks : List PK} {rks : List RK} {S : pksDen pks → Option (rksDen rks)} {g : FuncId} (h : FCs Tryd.prog g (phiOf pks rks S)) {xs : pksDen pks} {r : rksDen rks} {vs : List V} (hv : pksArg pks vs = some xs) (hs : S xs = some r) :
    FC Tryd.prog g vs (rets rks r) := by
  obtain ⟨ret, h1, h2⟩ := h vs _ some (rets rks r) (by unfold phiOf; rw [hv]; simp only [Option.bind_some, hs])
  cases h1
  exact h2
theorem tz_all : ((List.range 128).all fun u => decide (u = 0) || (List.range 7).any fun t => u.testBit t && decide (D41 n1 (u : Int) = some (t : Int))) = true := by kernel_rfl
theorem tz_get {u : Nat} (h0 : u ≠ 0) (hu : u < 128) : ∃ t : Nat, t < 7 ∧ u.testBit t = true ∧ D41 n1 (u : Int) = some (t : Int) := by
  have h := List.all_eq_true.1 tz_all u (List.mem_range.2 hu)
  rw [Bool.or_eq_true, decide_eq_true_eq] at h
  obtain ⟨t, ht, h2⟩ := List.any_eq_true.1 (h.resolve_left h0)
  rw [Bool.and_eq_true, decide_eq_true_eq] at h2
  exact ⟨t, List.mem_range.1 ht, h2.1, h2.2⟩
/-- A call that gives one number. -/
theorem fc_num {g : FuncId} {vs : List V} {k : IntKind} {z : Int} {ty : Nat} (h : FC Tryd.prog g vs (rets [.c (.int k) ty] z)) {w : World} {A : Nat → Prop} {args : List Value} (hA : ∀ b, A b → b < w.heap.size) (hv : All2 (VR noGam w A emp) vs args) (hgl : GlobOK w A) :
    Calls Tryd.prog g args.toArray w fun x w2 => x = .returned (.int k z) ∧ Below w.heap.size w w2 := by
  refine (h w A args hA hv hgl).mono ?_
  intro x w2 hx
  cases x with
  | returned u =>
    obtain ⟨hG, is, us, rfl, hR⟩ := hx
    match is, us, hR with
    | [i], [u], ⟨hu, _, _⟩ =>
      have hu : u = .int k z := hu
      exact ⟨by rw [hu]; rfl, ⟨hG.os, hG.tape, hG.output, hG.size, hG.blk⟩⟩
    | [], [], hR => exact hR.elim
    | [], _ :: _, hR => exact hR.elim
    | [_], [], hR => exact hR.elim
    | [_], _ :: _ :: _, hR => exact hR.2.2.elim
    | _ :: _ :: _, [], hR => exact hR.elim
    | _ :: _ :: _, [_], hR => exact hR.2.2.elim
    | _ :: _ :: _, _ :: _ :: _, hR => exact hR.2.2.elim
  | _ => exact hx.elim
theorem bit_in {b : Int × List (Int × Int)} (h : Ord b) (i j : Nat) : (rowsOf b.2 i).testBit j = true ↔ ((i : Int), (j : Int)) ∈ b.2 := by
  rw [rows_ref h i j, decide_eq_true_eq]
theorem rows_irr {b : Int × List (Int × Int)} (h : Ord b) (i : Nat) : (rowsOf b.2 i).testBit i = false := by
  cases hb : (rowsOf b.2 i).testBit i with
  | false => rfl
  | true => exact absurd rfl (h.irr _ ((bit_in h i i).1 hb))
theorem rows_trans {b : Int × List (Int × Int)} (h : Ord b) (i j l : Nat) (h1 : (rowsOf b.2 i).testBit j = true) (h2 : (rowsOf b.2 j).testBit l = true) : (rowsOf b.2 i).testBit l = true :=
  (bit_in h i l).2 (h.trans _ ((bit_in h i j).1 h1) _ ((bit_in h j l).1 h2) rfl)
theorem web_vals {n : Nat} {m : Nat → Nat} {w2 : World} {A1 : Nat → Prop} (ws : List Value) (h : All2 (CR w2 A1) (cells (.pair (.int .i64) (.pair (.int .u64) (.pair (.int .u64) (.pair (.int .u64) (.pair (.int .u64) (.pair (.int .u64) (.pair (.int .u64) (.int .u64)))))))) (tupR n m)) ws) : Value.agg ws.toArray = .agg (webI n m) := by
  match ws, h with
  | [v0, v1, v2, v3, v4, v5, v6, v7], ⟨h0, h1, h2, h3, h4, h5, h6, h7, _⟩ =>
    have h0 : v0 = .int .i64 n := h0
    have h1 : v1 = .int .u64 (m 0) := h1
    have h2 : v2 = .int .u64 (m 1) := h2
    have h3 : v3 = .int .u64 (m 2) := h3
    have h4 : v4 = .int .u64 (m 3) := h4
    have h5 : v5 = .int .u64 (m 4) := h5
    have h6 : v6 = .int .u64 (m 5) := h6
    have h7 : v7 = .int .u64 (m 6) := h7
    subst h0 h1 h2 h3 h4 h5 h6 h7
    rfl
theorem HC12 (n : Nat × Nat) (xs : pksDen [.c (.pair (.int .i64) (.sl (.pair (.int .i64) (.int .i64))))]) (r : rksDen [.c (.int .i64) 0, .c (.int .i64) 0]) (h : HF12 xs.1 = some r) (vs : List V) (hv : pksArg [.c (.pair (.int .i64) (.sl (.pair (.int .i64) (.int .i64))))] vs = some xs) :
    FC Tryd.prog 12 vs (rets [.c (.int .i64) 0, .c (.int .i64) 0] r) := by
  obtain ⟨⟨k, zs⟩, ⟨⟩⟩ := xs
  unfold HF12 at h
  obtain ⟨hd, h⟩ := cond_some h rfl
  have hO : Ord (k, zs) := (okB_iff _).1 hd
  cases h
  obtain ⟨k, rfl⟩ := Int.eq_ofNat_of_zero_le (Int.le_trans (show (0 : Int) ≤ 1 by decide) hO.lo)
  have hk1 : (1 : Int) ≤ (k : Int) := hO.lo
  have hk7 : (k : Int) ≤ 7 := hO.hi
  intro w A0 args hA hargs hgl
  have hv2 := pksArg_VR _ _ _ _ hv hargs
  match args, hv2 with
  | [v1], ⟨g0, _⟩ =>
    obtain ⟨us, rfl, hus⟩ := g0
    match us, hus with
    | [u1, u2], ⟨h1, h2, _⟩ =>
      have h1 : u1 = .int .i64 k := h1
      subst h1
      have h2 : CR w A0 (.sl (.pair (.int .i64) (.int .i64)) zs false) u2 := h2
      obtain ⟨a, cap, rfl, hcap, _, hr⟩ := id h2
      have hmon : ∀ {W : World}, Below w.heap.size w W → ∀ b, A0 b → A0 b ∧ W.heap[b]? = w.heap[b]? := fun hB b hb => ⟨hb, hB.block b (hA b hb)⟩
      have hwv : ∀ W, Below w.heap.size w W → Calls Tryd.prog 33 #[.agg #[.int .i64 k, .slice a zs.length cap]] W fun e W' => e = .returned (.tuple #[.agg (webI k (rowsOf zs)), .int .i64 0]) ∧ Below W.heap.size W W' := fun W hW => by
        have hc := fcs_FC12 (rks := rk33) (FC33 n1) (vs := [.agg [.int .i64 (k : Int), .sl (.pair (.int .i64) (.int .i64)) zs false]]) (xs := (((k : Int), zs), ())) rfl ((congrFun (S33_D n1 rfl) _).trans (web_eq (n := n1) (by decide) hO))
          W A0 [.agg #[.int .i64 k, .slice a zs.length cap]] (fun b hb => Nat.lt_of_lt_of_le (hA b hb) hW.size) ⟨⟨[_, _], rfl, rfl, CR.mono (hmon hW) _ _ h2, trivial⟩, trivial⟩ (hgl.mono hW.size (hmon hW))
        refine hc.mono ?_
        intro x w2 hx
        cases x with
        | returned u =>
          obtain ⟨hG, is, us, rfl, hR⟩ := hx
          match is, us, hR with
          | [i1, i2], [u1, u2], ⟨⟨ws, hu, hws⟩, _, hu2, _, _⟩ =>
            have hu2 : u2 = .int .i64 0 := hu2
            have hu := hu.trans (web_vals ws hws)
            subst hu hu2
            exact ⟨rfl, ⟨hG.os, hG.tape, hG.output, hG.size, hG.blk⟩⟩
          | [], [], hR => exact hR.elim
          | [], _ :: _, hR => exact hR.elim
          | [_], [], hR => exact hR.elim
          | [_], [_], hR => exact hR.2.2.elim
          | [_], _ :: _ :: _, hR => exact hR.2.2.elim
          | _ :: _ :: _, [], hR => exact hR.elim
          | _ :: _ :: _, [_], hR => exact hR.2.2.elim
          | [_, _], _ :: _ :: _ :: _, hR => exact hR.2.2.2.2.elim
          | _ :: _ :: _ :: _, [_, _], hR => exact hR.2.2.2.2.elim
          | _ :: _ :: _ :: _, _ :: _ :: _ :: _, hR => exact hR.2.2.2.2.elim
        | _ => exact hx.elim
      have htz : ∀ W, Below w.heap.size w W → ∀ u : Nat, u ≠ 0 → u < 128 → ∃ t : Nat, t < 7 ∧ u.testBit t = true ∧ Calls Tryd.prog 41 #[.int .u64 u] W fun e W' => e = .returned (.int .i64 t) ∧ Below W.heap.size W W' := fun W hW u h0 hu => by
        obtain ⟨t, ht, hut, hd⟩ := tz_get h0 hu
        exact ⟨t, ht, hut, fc_num (fcs_FC12 (rks := rk41) (FC41 n1) (vs := [.c (.int .u64 (u : Int))]) (xs := ((u : Int), ())) rfl ((congrFun (S41_D n1 rfl) _).trans hd)) (args := [.int .u64 u]) (fun b hb => Nat.lt_of_lt_of_le (hA b hb) hW.size) ⟨rfl, trivial⟩ (hgl.mono hW.size (hmon hW))⟩
      have key := number_in k zs.length cap a w fun W1 hW1 => counted_in k zs.length cap a (rowsOf zs) W1 (fun W hW => hwv W (hW1.trans (hW.mono hW1.size))) fun W g hW => circles_in w.heap.size k (rowsOf zs) w W g (by omega) (by omega) (rows_lt hO) (Nat.le_trans hW1.size hW.size) (hW1.trans (hW.mono hW1.size))
        fun k' pb L cap' s x wb ib sb cur pc W2 a1 a2 a3 a4 a5 a6 a7 a8 a9 a10 a11 a12 =>
          circ_in w.heap.size wb ib sb k (rowsOf zs) cur (rows_lt hO) (rows_irr hO) (rows_trans hO) (Below w.heap.size w) (fun pb L w3 W3 b1 b2 b3 b4 => b4.low b1 b2 b3) htz (k' + 1) k' pb L cap' s x pc W2 (by omega) a1 a2 a3 a4 a5 a6 a7 a8 a9 a10 a11 a12
      refine key.mono ?_
      rintro e W' ⟨rfl, hB⟩
      exact ⟨Grows.of_below hB, [.emp, .emp], [_, _], rfl, rfl, fun b c h => (by cases h), rfl, fun b c h => (by cases h), trivial⟩
end Go.Proofs.YtkfkbebinhkdlaaDoor
set_option linter.unusedVariables false
set_option linter.unusedSimpArgs false
set_option maxRecDepth 100000
namespace Go.Proofs.YtkfkbebinhkdlaaDoor
open Go.Vi
abbrev R12 := Int × Int
def pk12 : List PK := [.c (.pair (.int .i64) (.sl (.pair (.int .i64) (.int .i64))))]
def rk12 : List RK := [.c (.int .i64) 0, .c (.int .i64) 0]
noncomputable def S12 (n : Nat × Nat) (b0 : Int × List (Int × Int)) : Option R12 := HF12 b0
noncomputable def P12 (n : Nat × Nat) := phiOf pk12 rk12 (fun xs => S12 n xs.1)
theorem call12 : CallOK Tryd.prog 12 := callOK_of Tryd.func12 (by kernel_rfl) (by kernel_rfl)
theorem FC12 (n : Nat × Nat) : FCs Tryd.prog 12 (P12 n) := phiOf_FCs fun xs r h vs hv => HC12 n xs r h vs hv
/- math/bits.Mul64 -/
abbrev R104 := Int × Int
noncomputable def c104 : Code := bodyOf Tryd.f104
noncomputable def an104 : Ann := .l
def pk104 : List PK := [.c (.int .u64), .c (.int .u64)]
def rk104 : List RK := [.c (.int .u64) 4, .c (.int .u64) 5]
noncomputable def rt104 (st : St) : Option R104 := rtG rk104 st
noncomputable def E104 (n : Nat × Nat) : Env := { T := tab, phi := noPhi, eff := fun _ => false, fuel := n.1, hold := n.2 }
noncomputable def S104 (n : Nat × Nat) (x0 : Int) (y1 : Int) : Option R104 := run (E104 n) c104 an104 rt104 (fun _ _ => none) rt104 { tm := [.c (.int .u64 x0), .c (.int .u64 y1), uu, uu, uu, uu, uu, uu, uu, uu, uu, uu, uu, uu, uu, uu, uu, uu, uu, uu, uu, uu, uu, uu, uu, uu, uu, uu, uu, uu, uu, uu, uu, uu, uu, uu, uu, uu, uu, uu, uu, uu, uu, uu, uu, uu, uu, uu, uu, uu, uu], hp := emp }
theorem S104_eq (n : Nat × Nat) (x0 : Int) (y1 : Int) : S104 n x0 y1 =
 (bif decide (32 < 0) then none
 else (bif decide (32 < 0) then none
 else (bif decide (32 < 0) then none
 else (bif decide (32 < 0) then none
 else (bif decide (32 < 0) then none
 else some (wr .u64 ((wr .u64 ((wr .u64 ((Int.fdiv x0 (2 ^ (min (Int.toNat 32) (IntKind.bits .u64)))) * (Int.fdiv y1 (2 ^ (min (Int.toNat 32) (IntKind.bits .u64)))))) + (Int.fdiv (wr .u64 ((wr .u64 ((Int.fdiv x0 (2 ^ (min (Int.toNat 32) (IntKind.bits .u64)))) * (wr .u64 (BitVec.ofInt (IntKind.bits .u64) y1 &&& BitVec.ofInt (IntKind.bits .u64) 4294967295).toNat))) + (Int.fdiv (wr .u64 ((wr .u64 (BitVec.ofInt (IntKind.bits .u64) x0 &&& BitVec.ofInt (IntKind.bits .u64) 4294967295).toNat) * (wr .u64 (BitVec.ofInt (IntKind.bits .u64) y1 &&& BitVec.ofInt (IntKind.bits .u64) 4294967295).toNat))) (2 ^ (min (Int.toNat 32) (IntKind.bits .u64)))))) (2 ^ (min (Int.toNat 32) (IntKind.bits .u64)))))) + (Int.fdiv (wr .u64 ((wr .u64 (BitVec.ofInt (IntKind.bits .u64) (wr .u64 ((wr .u64 ((Int.fdiv x0 (2 ^ (min (Int.toNat 32) (IntKind.bits .u64)))) * (wr .u64 (BitVec.ofInt (IntKind.bits .u64) y1 &&& BitVec.ofInt (IntKind.bits .u64) 4294967295).toNat))) + (Int.fdiv (wr .u64 ((wr .u64 (BitVec.ofInt (IntKind.bits .u64) x0 &&& BitVec.ofInt (IntKind.bits .u64) 4294967295).toNat) * (wr .u64 (BitVec.ofInt (IntKind.bits .u64) y1 &&& BitVec.ofInt (IntKind.bits .u64) 4294967295).toNat))) (2 ^ (min (Int.toNat 32) (IntKind.bits .u64)))))) &&& BitVec.ofInt (IntKind.bits .u64) 4294967295).toNat) + (wr .u64 ((wr .u64 (BitVec.ofInt (IntKind.bits .u64) x0 &&& BitVec.ofInt (IntKind.bits .u64) 4294967295).toNat) * (Int.fdiv y1 (2 ^ (min (Int.toNat 32) (IntKind.bits .u64)))))))) (2 ^ (min (Int.toNat 32) (IntKind.bits .u64))))), wr .u64 (x0 * y1))))))) := by kernel_rfl
theorem S104_run (n : Nat × Nat) (xs : pksDen pk104) : S104 n xs.1 xs.2.1 = runG (E104 n) noScope c104 an104 (rtG rk104) (fun _ _ => none) (rtG rk104) (st0 pk104 xs Tryd.f104.ntmps) := by kernel_rfl
noncomputable def P104 (n : Nat × Nat) := phiOf pk104 rk104 (fun xs => S104 n xs.1 xs.2.1)
theorem call104 : CallOK Tryd.prog 104 := callOK_of Tryd.func104 (by kernel_rfl) (by kernel_rfl)
theorem env104 (n : Nat × Nat) : EnvOK Tryd.prog (E104 n) := envOK0 noPhi_ok rfl rfl
theorem par104 (n : Nat × Nat) : EnvPar (E104 n) := envPar0 noPhi_par rfl
theorem FC104 (n : Nat × Nat) : FCs Tryd.prog 104 (P104 n) := phiOf_FCs fun xs r h vs hv => FC.of_runG tabOK eqsOK (env104 n) (par104 n) mixed (fun _ p _ => noScope_ok p.1 p.2) Tryd.func104 (c := c104) (an := an104) (pks := pk104) (rks := rk104) (by kernel_rfl) (by kernel_rfl) hv ((S104_run n xs).symm.trans h)
/- math/bits.Mul -/
abbrev R71 := Int × Int
noncomputable def c71 : Code := bodyOf Tryd.f71
noncomputable def an71 : Ann := (.s .l (.s (.j [0, 1] .l .l) .l))
def pk71 : List PK := [.c (.int .u64), .c (.int .u64)]
def rk71 : List RK := [.c (.int .u64) 4, .c (.int .u64) 5]
noncomputable def rt71 (st : St) : Option R71 := rtG rk71 st
noncomputable def E71 (n : Nat × Nat) : Env := { T := tab, phi := (consPhi 104 (fun _ => true) (P104 n) noPhi), eff := fun _ => false, fuel := n.1, hold := n.2 }
noncomputable def S71 (n : Nat × Nat) (x0 : Int) (y1 : Int) : Option R71 := run (E71 n) c71 an71 rt71 (fun _ _ => none) rt71 { tm := [.c (.int .u64 x0), .c (.int .u64 y1), uu, uu, uu, uu, uu, uu, uu, uu, uu, uu, uu, uu, uu, uu, uu, uu, uu, uu, uu, uu, uu, uu, uu, uu, uu, uu, uu, uu], hp := emp }
theorem S71_eq (n : Nat × Nat) (x0 : Int) (y1 : Int) : S71 n x0 y1 =
 (S104 n x0 y1).bind fun r1' =>
 some (r1'.1, r1'.2) := by kernel_rfl
theorem S71_run (n : Nat × Nat) (xs : pksDen pk71) : S71 n xs.1 xs.2.1 = runG (E71 n) noScope c71 an71 (rtG rk71) (fun _ _ => none) (rtG rk71) (st0 pk71 xs Tryd.f71.ntmps) := by kernel_rfl
noncomputable def P71 (n : Nat × Nat) := phiOf pk71 rk71 (fun xs => S71 n xs.1 xs.2.1)
theorem call71 : CallOK Tryd.prog 71 := callOK_of Tryd.func71 (by kernel_rfl) (by kernel_rfl)
theorem env71 (n : Nat × Nat) : EnvOK Tryd.prog (E71 n) := envOK0 (consPhi_ok (FC104 n) call104 noPhi_ok) rfl rfl
theorem par71 (n : Nat × Nat) : EnvPar (E71 n) := envPar0 (consPhi_par phiOf_Par1 noPhi_par) rfl
theorem FC71 (n : Nat × Nat) : FCs Tryd.prog 71 (P71 n) := phiOf_FCs fun xs r h vs hv => FC.of_runG tabOK eqsOK (env71 n) (par71 n) mixed (fun _ p _ => noScope_ok p.1 p.2) Tryd.func71 (c := c71) (an := an71) (pks := pk71) (rks := rk71) (by kernel_rfl) (by kernel_rfl) hv ((S71_run n xs).symm.trans h)
/- slices.Repeat[[]int,int] -/
abbrev R40 := List Int
noncomputable def c40 : Code := bodyOf Tryd.f40
noncomputable def an40 : Ann := (.s .l (.s (.s .l (.j [0, 1, 24, 25] .l .l)) (.s .l (.s (.s .l (.j [0, 6] .l .l)) (.s .l (.s .l (.s (.j [7] (.j [7, 8] (.s (.s .l (.j [7, 8] .l .l)) (.j [7, 8] .l .l)) .l) .l) .l)))))))
def pk40 : List PK := [.c (.sl (.int .i64)), .c (.int .i64)]
def rk40 : List RK := [.own (.int .i64) 4]
noncomputable def rt40 (st : St) : Option R40 := rtG rk40 st
noncomputable def E40 (n : Nat × Nat) : Env := { T := tab, phi := (consPhi 71 (fun _ => true) (P71 n) noPhi), eff := fun _ => false, fuel := n.1, hold := n.2 }
noncomputable def kq40_5 (n : Nat × Nat) : St → Option R40 := run (E40 n) (cB (cB (cB (cB (cB (cB (cB c40))))))) (Ann.snd (Ann.snd (Ann.snd (Ann.snd (Ann.snd (Ann.snd (Ann.snd an40))))))) rt40 (fun _ _ => none) rt40
noncomputable def xb40_7 (n : Nat × Nat) : Nat → St → Option R40 := fun j s => bif Nat.beq j 0 then normC [7] s (kq40_5 n) else (fun _ _ => none) j s
noncomputable def F40_8 (n : Nat × Nat) : (St → Option R40) → St → Option R40 := fun K s => run (E40 n) (cA (cA (cA (cB (cB (cB (cB (cB (cB c40))))))))) (Ann.fst (Ann.fst (Ann.fst (Ann.snd (Ann.snd (Ann.snd (Ann.snd (Ann.snd (Ann.snd an40))))))))) (fun s => normC [7, 8] s K) (xb40_7 n) rt40 s
noncomputable def L40_1 (n : Nat × Nat) (m : Nat) (v8 : Int) (newslice7 : List Int) : Option R40 := loopN (F40_8 n) m { tm := [uu, uu, uu, uu, uu, uu, uu, .own 7 none false, .c (.int .i64 v8), uu, uu, uu, uu, uu, uu, uu, uu, uu, uu, uu, uu, uu, uu, uu, uu, uu, uu, uu, uu, uu, uu, uu, uu, uu, uu, uu, uu, uu, uu, uu, uu, uu, uu, uu, uu, uu, uu, uu], hp := (upd emp 7 (.arr (.int .i64) newslice7 false)) }
theorem L40_1_eq (n : Nat × Nat) (m1 : Nat) (v8 : Int) (newslice7 : List Int) : L40_1 n (m1 + 1) v8 newslice7 =
 (bif decide (v8 < (newslice7.length : Int)) then (bif bounds (some v8) none none newslice7.length then (bif bounds none (some v8) none newslice7.length then L40_1 n m1 (wr .i64 (v8 + ((min ((newslice7.drop (0 + 0)).take ((Int.toNat v8) - 0)).length ((newslice7.drop (0 + (Int.toNat v8))).take (newslice7.length - (Int.toNat v8))).length : Nat) : Int))) (newslice7.take (0 + (Int.toNat v8)) ++ ((newslice7.drop (0 + 0)).take ((Int.toNat v8) - 0)).take (min ((newslice7.drop (0 + 0)).take ((Int.toNat v8) - 0)).length ((newslice7.drop (0 + (Int.toNat v8))).take (newslice7.length - (Int.toNat v8))).length) ++ newslice7.drop ((0 + (Int.toNat v8)) + min ((newslice7.drop (0 + 0)).take ((Int.toNat v8) - 0)).length ((newslice7.drop (0 + (Int.toNat v8))).take (newslice7.length - (Int.toNat v8))).length))
 else none)
 else none)
 else some newslice7) := by kernel_rfl
noncomputable def S40 (n : Nat × Nat) (x0 : List Int) (count1 : Int) : Option R40 := run (E40 n) c40 an40 rt40 (fun _ _ => none) rt40 { tm := [.c (.sl (.int .i64) x0 false), .c (.int .i64 count1), uu, uu, uu, uu, uu, uu, uu, uu, uu, uu, uu, uu, uu, uu, uu, uu, uu, uu, uu, uu, uu, uu, uu, uu, uu, uu, uu, uu, uu, uu, uu, uu, uu, uu, uu, uu, uu, uu, uu, uu, uu, uu, uu, uu, uu, uu], hp := emp }
theorem S40_eq (n : Nat × Nat) (x0 : List Int) (count1 : Int) : S40 n x0 count1 =
 (bif decide (count1 < 0) then none
 else (S71 n (wr .u64 (x0.length : Int)) (wr .u64 count1)).bind fun r1' =>
 ((bif (decide (r1'.1 > 0) == false) then some (decide (r1'.2 > 9223372036854775807))
 else some true)).bind fun b2' =>
 (bif b2' then none
 else (bif decide (0 ≤ wr .i64 r1'.2) && decide (wr .i64 r1'.2 ≤ wr .i64 r1'.2) && decide (wr .i64 r1'.2 ≤ lim) then L40_1 n n.1 ((min x0.length (List.replicate (Int.toNat (wr .i64 r1'.2)) (0 : Int)).length : Nat) : Int) ((List.replicate (Int.toNat (wr .i64 r1'.2)) (0 : Int)).take 0 ++ x0.take (min x0.length (List.replicate (Int.toNat (wr .i64 r1'.2)) (0 : Int)).length) ++ (List.replicate (Int.toNat (wr .i64 r1'.2)) (0 : Int)).drop (0 + min x0.length (List.replicate (Int.toNat (wr .i64 r1'.2)) (0 : Int)).length))
 else none))) := by kernel_rfl
theorem S40_run (n : Nat × Nat) (xs : pksDen pk40) : S40 n xs.1 xs.2.1 = runG (E40 n) noScope c40 an40 (rtG rk40) (fun _ _ => none) (rtG rk40) (st0 pk40 xs Tryd.f40.ntmps) := by kernel_rfl
noncomputable def P40 (n : Nat × Nat) := phiOf pk40 rk40 (fun xs => S40 n xs.1 xs.2.1)
theorem call40 : CallOK Tryd.prog 40 := callOK_of Tryd.func40 (by kernel_rfl) (by kernel_rfl)
theorem env40 (n : Nat × Nat) : EnvOK Tryd.prog (E40 n) := envOK0 (consPhi_ok (FC71 n) call71 noPhi_ok) rfl rfl
theorem par40 (n : Nat × Nat) : EnvPar (E40 n) := envPar0 (consPhi_par phiOf_Par1 noPhi_par) rfl
theorem FC40 (n : Nat × Nat) : FCs Tryd.prog 40 (P40 n) := phiOf_FCs fun xs r h vs hv => FC.of_runG tabOK eqsOK (env40 n) (par40 n) mixed (fun _ p _ => noScope_ok p.1 p.2) Tryd.func40 (c := c40) (an := an40) (pks := pk40) (rks := rk40) (by kernel_rfl) (by kernel_rfl) hv ((S40_run n xs).symm.trans h)
/- slices.Index[[]int,int] -/
abbrev R74 := Int
noncomputable def c74 : Code := bodyOf Tryd.f74
noncomputable def an74 : Ann := (.s .l (.s (.s .l (.j [] (.j [0, 1, 7, 8] (.s .l (.s (.j [0, 1, 7, 8] .l .l) (.s (.j [0, 1, 7, 8] (.s .l (.s .l (.j [0, 1, 7, 8] .l .l))) .l) .l))) .l) .l)) .l))
def pk74 : List PK := [.c (.sl (.int .i64)), .c (.int .i64)]
def rk74 : List RK := [.c (.int .i64) 4]
noncomputable def rt74 (st : St) : Option R74 := rtG rk74 st
noncomputable def E74 (n : Nat × Nat) : Env := { T := tab, phi := noPhi, eff := fun _ => false, fuel := n.1, hold := n.2 }
noncomputable def kq74_1 (n : Nat × Nat) : St → Option R74 := run (E74 n) (cB (cB c74)) (Ann.snd (Ann.snd an74)) rt74 (fun _ _ => none) rt74
noncomputable def xb74_3 (n : Nat × Nat) : Nat → St → Option R74 := fun j s => bif Nat.beq j 0 then normC [] s (kq74_1 n) else (fun _ _ => none) j s
noncomputable def F74_4 (n : Nat × Nat) : (St → Option R74) → St → Option R74 := fun K s => run (E74 n) (cA (cA (cB (cA (cB c74))))) (Ann.fst (Ann.fst (Ann.snd (Ann.fst (Ann.snd an74))))) (fun s => normC [0, 1, 7, 8] s K) (xb74_3 n) rt74 s
noncomputable def L74_1 (n : Nat × Nat) (m : Nat) (s0 : List Int) (v1 : Int) (v7 : Int) (v8 : Int) : Option R74 := loopN (F74_4 n) m { tm := [.c (.sl (.int .i64) s0 false), .c (.int .i64 v1), uu, uu, uu, uu, uu, .c (.int .i64 v7), .c (.int .i64 v8), uu, uu, uu, uu, uu, uu, uu, uu, uu, uu], hp := emp }
theorem L74_1_eq (n : Nat × Nat) (m1 : Nat) (s0 : List Int) (v1 : Int) (v7 : Int) (v8 : Int) : L74_1 n (m1 + 1) s0 v1 v7 v8 =
 (bif decide (v8 < v7) then (idx s0 v8).bind fun x1' =>
 (bif (v1 == x1') then some v8
 else L74_1 n m1 s0 v1 v7 (wr .i64 (v8 + 1)))
 else some (-1)) := by kernel_rfl
noncomputable def S74 (n : Nat × Nat) (s0 : List Int) (v1 : Int) : Option R74 := run (E74 n) c74 an74 rt74 (fun _ _ => none) rt74 { tm := [.c (.sl (.int .i64) s0 false), .c (.int .i64 v1), uu, uu, uu, uu, uu, uu, uu, uu, uu, uu, uu, uu, uu, uu, uu, uu, uu], hp := emp }
theorem S74_eq (n : Nat × Nat) (s0 : List Int) (v1 : Int) : S74 n s0 v1 =
    L74_1 n n.1 s0 v1 (s0.length : Int) 0 := by kernel_rfl
theorem S74_run (n : Nat × Nat) (xs : pksDen pk74) : S74 n xs.1 xs.2.1 = runG (E74 n) noScope c74 an74 (rtG rk74) (fun _ _ => none) (rtG rk74) (st0 pk74 xs Tryd.f74.ntmps) := by kernel_rfl
noncomputable def P74 (n : Nat × Nat) := phiOf pk74 rk74 (fun xs => S74 n xs.1 xs.2.1)
theorem call74 : CallOK Tryd.prog 74 := callOK_of Tryd.func74 (by kernel_rfl) (by kernel_rfl)
theorem env74 (n : Nat × Nat) : EnvOK Tryd.prog (E74 n) := envOK0 noPhi_ok rfl rfl
theorem par74 (n : Nat × Nat) : EnvPar (E74 n) := envPar0 noPhi_par rfl
theorem FC74 (n : Nat × Nat) : FCs Tryd.prog 74 (P74 n) := phiOf_FCs fun xs r h vs hv => FC.of_runG tabOK eqsOK (env74 n) (par74 n) mixed (fun _ p _ => noScope_ok p.1 p.2) Tryd.func74 (c := c74) (an := an74) (pks := pk74) (rks := rk74) (by kernel_rfl) (by kernel_rfl) hv ((S74_run n xs).symm.trans h)
/- slices.Contains[[]int,int] -/
abbrev R42 := Bool
noncomputable def c42 : Code := bodyOf Tryd.f42
noncomputable def an42 : Ann := .l
def pk42 : List PK := [.c (.sl (.int .i64)), .c (.int .i64)]
def rk42 : List RK := [.c .bool 4]
noncomputable def rt42 (st : St) : Option R42 := rtG rk42 st
noncomputable def E42 (n : Nat × Nat) : Env := { T := tab, phi := (consPhi 74 (fun _ => true) (P74 n) noPhi), eff := fun _ => false, fuel := n.1, hold := n.2 }
noncomputable def S42 (n : Nat × Nat) (s0 : List Int) (v1 : Int) : Option R42 := run (E42 n) c42 an42 rt42 (fun _ _ => none) rt42 { tm := [.c (.sl (.int .i64) s0 false), .c (.int .i64 v1), uu, uu, uu, uu, uu, uu, uu], hp := emp }
theorem S42_eq (n : Nat × Nat) (s0 : List Int) (v1 : Int) : S42 n s0 v1 =
 (S74 n s0 v1).bind fun r1' =>
 some (decide (r1' ≥ 0)) := by kernel_rfl
theorem S42_run (n : Nat × Nat) (xs : pksDen pk42) : S42 n xs.1 xs.2.1 = runG (E42 n) noScope c42 an42 (rtG rk42) (fun _ _ => none) (rtG rk42) (st0 pk42 xs Tryd.f42.ntmps) := by kernel_rfl
noncomputable def P42 (n : Nat × Nat) := phiOf pk42 rk42 (fun xs => S42 n xs.1 xs.2.1)
theorem call42 : CallOK Tryd.prog 42 := callOK_of Tryd.func42 (by kernel_rfl) (by kernel_rfl)
theorem env42 (n : Nat × Nat) : EnvOK Tryd.prog (E42 n) := envOK0 (consPhi_ok (FC74 n) call74 noPhi_ok) rfl rfl
theorem par42 (n : Nat × Nat) : EnvPar (E42 n) := envPar0 (consPhi_par phiOf_Par1 noPhi_par) rfl
theorem FC42 (n : Nat × Nat) : FCs Tryd.prog 42 (P42 n) := phiOf_FCs fun xs r h vs hv => FC.of_runG tabOK eqsOK (env42 n) (par42 n) mixed (fun _ p _ => noScope_ok p.1 p.2) Tryd.func42 (c := c42) (an := an42) (pks := pk42) (rks := rk42) (by kernel_rfl) (by kernel_rfl) hv ((S42_run n xs).symm.trans h)
abbrev R13 := List Int × Int
noncomputable def c13 : Code := bodyOf Tryd.f13
noncomputable def an13 : Ann := (.s .l (.s .l (.q [(4, 0, 2)] (.s (.s .l (.j [4, 45, 46, 47, 48] .l .l)) (.s .l (.s .l (.s (.s .l (.j [6] (.j [4, 6, 7, 26, 27, 45, 46, 47, 48] (.s .l (.s (.j [4, 6, 7, 26, 27, 45, 46, 47, 48] .l .l) (.s (.j [4, 6, 7, 26, 27, 45, 46, 47, 48] (.s .l (.j [4, 6, 7, 26, 27, 45, 46, 47, 48] (.j [4, 6, 7, 26, 27, 32, 33, 34, 45, 46, 47, 48] (.s .l (.s (.j [4, 6, 7, 26, 27, 32, 33, 34, 45, 46, 47, 48] .l .l) (.j [] (.j [4, 6, 7, 26, 27, 32, 33, 34, 45, 46, 47, 48] (.s .l (.s (.s .l (.j [4, 6, 7, 8, 9, 26, 27, 32, 33, 34, 45, 46, 47, 48] .l .l)) (.s .l (.s (.s .l (.j [4, 6, 7, 8, 10, 26, 27, 32, 33, 34, 45, 46, 47, 48] (.j [4, 6, 7, 8, 10, 26, 27, 32, 33, 34, 45, 46, 47, 48, 51, 52, 53] (.s .l (.s (.j [4, 6, 7, 8, 10, 26, 27, 32, 33, 34, 45, 46, 47, 48, 51, 52, 53] .l .l) (.s (.j [4, 6, 7, 8, 10, 26, 27, 32, 33, 34, 45, 46, 47, 48, 51, 52, 53] .l .l) .l))) .l) .l)) .l)))) .l) .l))) .l) .l)) .l) .l))) .l) .l)) (.s (.s .l (.j [6] .l .l)) .l))))))))
def pk13 : List PK := [.c (.pair (.int .i64) (.sl (.pair (.int .i64) (.int .i64))))]
def rk13 : List RK := [.own (.int .i64) 2, .c (.int .i64) 3]
noncomputable def rt13 (st : St) : Option R13 := rtG rk13 st
noncomputable def E13 (n : Nat × Nat) : Env := { T := tab, phi := (consPhi 33 (fun _ => true) (P33 n) (consPhi 35 (fun _ => true) (P35 n) (consPhi 40 (fun _ => true) (P40 n) (consPhi 41 (fun _ => true) (P41 n) (consPhi 42 (fun _ => true) (P42 n) noPhi))))), eff := fun _ => false, fuel := n.1, hold := n.2 }
noncomputable def kq13_3 (n : Nat × Nat) : St → Option R13 := run (E13 n) (cB (cB (cB (cB (cB (cB c13)))))) (Ann.snd (Ann.snd (Ann.snd (Ann.snd (Ann.unq (Ann.snd (Ann.snd an13))))))) rt13 (fun _ _ => none) rt13
noncomputable def xb13_5 (n : Nat × Nat) : Nat → St → Option R13 := fun j s => bif Nat.beq j 0 then normC [6] s (kq13_3 n) else (fun _ _ => none) j s
noncomputable def F13_6 (n : Nat × Nat) : (St → Option R13) → St → Option R13 := fun K s => run (E13 n) (cA (cA (cB (cA (cB (cB (cB (cB (cB c13))))))))) (Ann.fst (Ann.fst (Ann.snd (Ann.fst (Ann.snd (Ann.snd (Ann.snd (Ann.unq (Ann.snd (Ann.snd an13)))))))))) (fun s => normC [4, 6, 7, 26, 27, 45, 46, 47, 48] s K) (xb13_5 n) rt13 s
noncomputable def kq13_9 (n : Nat × Nat) (m1 : Nat) : St → Option R13 := run (E13 n) (cB (cB (cB (cA (cA (cB (cA (cB (cB (cB (cB (cB c13)))))))))))) (Ann.snd (Ann.snd (Ann.snd (Ann.fst (Ann.fst (Ann.snd (Ann.fst (Ann.snd (Ann.snd (Ann.snd (Ann.unq (Ann.snd (Ann.snd an13))))))))))))) (fun s => normC [4, 6, 7, 26, 27, 45, 46, 47, 48] s (loopN (F13_6 n) m1)) (xb13_5 n) rt13
noncomputable def kc13_10 (n : Nat × Nat) (m1 : Nat) : St → Option R13 := fun s => normC [4, 6, 7, 26, 27, 45, 46, 47, 48] s (kq13_9 n m1)
noncomputable def xb13_11 (n : Nat × Nat) (m1 : Nat) : Nat → St → Option R13 := fun j s => bif Nat.beq j 1 then normC [4, 6, 7, 26, 27, 45, 46, 47, 48] s (kq13_9 n m1) else (xb13_5 n) j s
noncomputable def xb13_13 (n : Nat × Nat) (m1 : Nat) : Nat → St → Option R13 := fun j s => bif Nat.beq j 2 then normC [4, 6, 7, 26, 27, 45, 46, 47, 48] s (kc13_10 n m1) else (xb13_11 n m1) j s
noncomputable def F13_14 (n : Nat × Nat) (m1 : Nat) : (St → Option R13) → St → Option R13 := fun K s => run (E13 n) (cA (cA (cB (cA (cA (cB (cB (cA (cA (cB (cA (cB (cB (cB (cB (cB c13)))))))))))))))) (Ann.fst (Ann.fst (Ann.snd (Ann.fst (Ann.fst (Ann.snd (Ann.snd (Ann.fst (Ann.fst (Ann.snd (Ann.fst (Ann.snd (Ann.snd (Ann.snd (Ann.unq (Ann.snd (Ann.snd an13))))))))))))))))) (fun s => normC [4, 6, 7, 26, 27, 32, 33, 34, 45, 46, 47, 48] s K) (xb13_13 n m1) rt13 s
noncomputable def kq13_19 (n : Nat × Nat) (m1 m2 : Nat) : St → Option R13 := run (E13 n) (cB (cB (cB (cA (cA (cB (cA (cA (cB (cB (cA (cA (cB (cA (cB (cB (cB (cB (cB c13))))))))))))))))))) (Ann.snd (Ann.snd (Ann.snd (Ann.fst (Ann.fst (Ann.snd (Ann.fst (Ann.fst (Ann.snd (Ann.snd (Ann.fst (Ann.fst (Ann.snd (Ann.fst (Ann.snd (Ann.snd (Ann.snd (Ann.unq (Ann.snd (Ann.snd an13)))))))))))))))))))) (fun s => normC [4, 6, 7, 26, 27, 32, 33, 34, 45, 46, 47, 48] s (loopN (F13_14 n m1) m2)) (xb13_13 n m1) rt13
noncomputable def kc13_20 (n : Nat × Nat) (m1 m2 : Nat) : St → Option R13 := fun s => normC [4, 6, 7, 26, 27, 32, 33, 34, 45, 46, 47, 48] s (loopN (fun _ => (kq13_19 n m1 m2)) n.2)
noncomputable def xb13_21 (n : Nat × Nat) (m1 m2 : Nat) : Nat → St → Option R13 := fun j s => bif Nat.beq j 3 then normC [4, 6, 7, 26, 27, 32, 33, 34, 45, 46, 47, 48] s (loopN (fun _ => (kq13_19 n m1 m2)) n.2) else (xb13_13 n m1) j s
noncomputable def kq13_24 (n : Nat × Nat) (m1 m2 : Nat) : St → Option R13 := run (E13 n) (cB (cB (cB (cB (cA (cA (cB (cB (cA (cA (cB (cA (cA (cB (cB (cA (cA (cB (cA (cB (cB (cB (cB (cB c13)))))))))))))))))))))))) (Ann.snd (Ann.snd (Ann.snd (Ann.snd (Ann.fst (Ann.fst (Ann.snd (Ann.snd (Ann.fst (Ann.fst (Ann.snd (Ann.fst (Ann.fst (Ann.snd (Ann.snd (Ann.fst (Ann.fst (Ann.snd (Ann.fst (Ann.snd (Ann.snd (Ann.snd (Ann.unq (Ann.snd (Ann.snd an13))))))))))))))))))))))))) (kc13_20 n m1 m2) (xb13_21 n m1 m2) rt13
noncomputable def xb13_26 (n : Nat × Nat) (m1 m2 : Nat) : Nat → St → Option R13 := fun j s => bif Nat.beq j 4 then normC [4, 6, 7, 8, 10, 26, 27, 32, 33, 34, 45, 46, 47, 48] s (kq13_24 n m1 m2) else (xb13_21 n m1 m2) j s
noncomputable def F13_27 (n : Nat × Nat) (m1 m2 : Nat) : (St → Option R13) → St → Option R13 := fun K s => run (E13 n) (cA (cA (cB (cA (cB (cB (cB (cA (cA (cB (cB (cA (cA (cB (cA (cA (cB (cB (cA (cA (cB (cA (cB (cB (cB (cB (cB c13))))))))))))))))))))))))))) (Ann.fst (Ann.fst (Ann.snd (Ann.fst (Ann.snd (Ann.snd (Ann.snd (Ann.fst (Ann.fst (Ann.snd (Ann.snd (Ann.fst (Ann.fst (Ann.snd (Ann.fst (Ann.fst (Ann.snd (Ann.snd (Ann.fst (Ann.fst (Ann.snd (Ann.fst (Ann.snd (Ann.snd (Ann.snd (Ann.unq (Ann.snd (Ann.snd an13)))))))))))))))))))))))))))) (fun s => normC [4, 6, 7, 8, 10, 26, 27, 32, 33, 34, 45, 46, 47, 48, 51, 52, 53] s K) (xb13_26 n m1 m2) rt13 s
noncomputable def L13_1 (n : Nat × Nat) (m : Nat) (w4_0 : Int) (w4_1 : Int) (w4_2 : Int) (w4_3 : Int) (w4_4 : Int) (w4_5 : Int) (w4_6 : Int) (w4_7 : Int) (known7 : Int) (v26 : Int) (v27 : Int) (out6 : List Int) : Option R13 := loopN (F13_6 n) m { tm := [uu, uu, uu, uu, .iptr [.int .i64 w4_0, .int .u64 w4_1, .int .u64 w4_2, .int .u64 w4_3, .int .u64 w4_4, .int .u64 w4_5, .int .u64 w4_6, .int .u64 w4_7], uu, .own 6 none false, .c (.int .u64 known7), uu, uu, uu, uu, uu, uu, uu, uu, uu, uu, uu, uu, uu, uu, uu, uu, uu, uu, .c (.int .i64 v26), .c (.int .i64 v27), uu, uu, uu, uu, uu, uu, uu, uu, uu, uu, uu, uu, uu, uu, uu, uu, uu, uu, uu, uu, uu, uu, uu, uu, uu, uu, uu, uu, uu, uu, uu, uu, uu, uu, uu, uu, uu, uu, uu, uu, uu, uu, uu, uu, uu, uu, uu, uu, uu, uu, uu, uu], hp := (upd emp 6 (.arr (.int .i64) out6 false)) }
noncomputable def L13_2 (n : Nat × Nat) (m1 : Nat) (m : Nat) (w4_0 : Int) (w4_1 : Int) (w4_2 : Int) (w4_3 : Int) (w4_4 : Int) (w4_5 : Int) (w4_6 : Int) (w4_7 : Int) (known7 : Int) (v26 : Int) (v27 : Int) (v32 : List Int) (v33 : Int) (v34 : Int) (out6 : List Int) : Option R13 := loopN (F13_14 n m1) m { tm := [uu, uu, uu, uu, .iptr [.int .i64 w4_0, .int .u64 w4_1, .int .u64 w4_2, .int .u64 w4_3, .int .u64 w4_4, .int .u64 w4_5, .int .u64 w4_6, .int .u64 w4_7], uu, .own 6 none false, .c (.int .u64 known7), uu, uu, uu, uu, uu, uu, uu, uu, uu, uu, uu, uu, uu, uu, uu, uu, uu, uu, .c (.int .i64 v26), .c (.int .i64 v27), uu, uu, uu, uu, .c (.sl (.int .u64) v32 false), .c (.int .i64 v33), .c (.int .i64 v34), uu, uu, uu, uu, uu, uu, uu, uu, uu, uu, uu, uu, uu, uu, uu, uu, uu, uu, uu, uu, uu, uu, uu, uu, uu, uu, uu, uu, uu, uu, uu, uu, uu, uu, uu, uu, uu, uu, uu, uu, uu, uu, uu, uu, uu], hp := (upd emp 6 (.arr (.int .i64) out6 false)) }
noncomputable def L13_3 (n : Nat × Nat) (m1 m2 : Nat) (w4_0 : Int) (w4_1 : Int) (w4_2 : Int) (w4_3 : Int) (w4_4 : Int) (w4_5 : Int) (w4_6 : Int) (w4_7 : Int) (known7 : Int) (v26 : Int) (v27 : Int) (v32 : List Int) (v33 : Int) (v34 : Int) (out6 : List Int) : Option R13 := loopN (fun _ => (kq13_19 n m1 m2)) n.2 { tm := [uu, uu, uu, uu, .iptr [.int .i64 w4_0, .int .u64 w4_1, .int .u64 w4_2, .int .u64 w4_3, .int .u64 w4_4, .int .u64 w4_5, .int .u64 w4_6, .int .u64 w4_7], uu, .own 6 none false, .c (.int .u64 known7), uu, uu, uu, uu, uu, uu, uu, uu, uu, uu, uu, uu, uu, uu, uu, uu, uu, uu, .c (.int .i64 v26), .c (.int .i64 v27), uu, uu, uu, uu, .c (.sl (.int .u64) v32 false), .c (.int .i64 v33), .c (.int .i64 v34), uu, uu, uu, uu, uu, uu, uu, uu, uu, uu, uu, uu, uu, uu, uu, uu, uu, uu, uu, uu, uu, uu, uu, uu, uu, uu, uu, uu, uu, uu, uu, uu, uu, uu, uu, uu, uu, uu, uu, uu, uu, uu, uu, uu, uu], hp := (upd emp 6 (.arr (.int .i64) out6 false)) }
noncomputable def L13_4 (n : Nat × Nat) (m1 m2 : Nat) (m : Nat) (w4_0 : Int) (w4_1 : Int) (w4_2 : Int) (w4_3 : Int) (w4_4 : Int) (w4_5 : Int) (w4_6 : Int) (w4_7 : Int) (known7 : Int) (x8 : Int) (v10 : Int) (v26 : Int) (v27 : Int) (v32 : List Int) (v33 : Int) (v34 : Int) (v52 : Int) (v53 : Int) (out6 : List Int) (v51 : List Int) : Option R13 := loopN (F13_27 n m1 m2) m { tm := [uu, uu, uu, uu, .iptr [.int .i64 w4_0, .int .u64 w4_1, .int .u64 w4_2, .int .u64 w4_3, .int .u64 w4_4, .int .u64 w4_5, .int .u64 w4_6, .int .u64 w4_7], uu, .own 6 none false, .c (.int .u64 known7), .c (.int .i64 x8), uu, .c (.int .u64 v10), uu, uu, uu, uu, uu, uu, uu, uu, uu, uu, uu, uu, uu, uu, uu, .c (.int .i64 v26), .c (.int .i64 v27), uu, uu, uu, uu, .c (.sl (.int .u64) v32 false), .c (.int .i64 v33), .c (.int .i64 v34), uu, uu, uu, uu, uu, uu, uu, uu, uu, uu, uu, uu, uu, uu, uu, uu, .own 51 none false, .c (.int .i64 v52), .c (.int .i64 v53), uu, uu, uu, uu, uu, uu, uu, uu, uu, uu, uu, uu, uu, uu, uu, uu, uu, uu, uu, uu, uu, uu, uu, uu, uu, uu], hp := (upd (upd emp 51 (.arr (.int .i64) v51 false)) 6 (.arr (.int .i64) out6 false)) }
theorem L13_1_eq (n : Nat × Nat) (m1 : Nat) (w4_0 : Int) (w4_1 : Int) (w4_2 : Int) (w4_3 : Int) (w4_4 : Int) (w4_5 : Int) (w4_6 : Int) (w4_7 : Int) (known7 : Int) (v26 : Int) (v27 : Int) (out6 : List Int) : L13_1 n (m1 + 1) w4_0 w4_1 w4_2 w4_3 w4_4 w4_5 w4_6 w4_7 known7 v26 v27 out6 =
 (bif decide (v27 < v26) then (bif bounds none (some w4_0) none 7 then L13_2 n m1 n.1 w4_0 w4_1 w4_2 w4_3 w4_4 w4_5 w4_6 w4_7 known7 v26 v27 ([w4_1, w4_2, w4_3, w4_4, w4_5, w4_6, w4_7].take (Int.toNat w4_0)) (([w4_1, w4_2, w4_3, w4_4, w4_5, w4_6, w4_7].take (Int.toNat w4_0)).length : Int) 0 out6
 else none)
 else (S42 n out6 (-1)).bind fun r3' =>
 (bif r3' then some ([], 13)
 else some (out6, 0))) := by kernel_rfl
theorem L13_2_eq (n : Nat × Nat) (m1 m2 : Nat) (w4_0 : Int) (w4_1 : Int) (w4_2 : Int) (w4_3 : Int) (w4_4 : Int) (w4_5 : Int) (w4_6 : Int) (w4_7 : Int) (known7 : Int) (v26 : Int) (v27 : Int) (v32 : List Int) (v33 : Int) (v34 : Int) (out6 : List Int) : L13_2 n m1 (m2 + 1) w4_0 w4_1 w4_2 w4_3 w4_4 w4_5 w4_6 w4_7 known7 v26 v27 v32 v33 v34 out6 =
 (bif decide (v34 < v33) then (idx v32 v34).bind fun x4' =>
 (bif decide (v34 < 0) then none
 else ((bif (((wr .u64 (BitVec.ofInt (IntKind.bits .u64) (Int.fdiv known7 (2 ^ (min (Int.toNat v34) (IntKind.bits .u64)))) &&& BitVec.ofInt (IntKind.bits .u64) 1).toNat) == 1) == false) then some ((wr .u64 (BitVec.ofInt (IntKind.bits .u64) x4' &&& ~~~BitVec.ofInt (IntKind.bits .u64) known7).toNat) != 0)
 else some true)).bind fun b5' =>
 (bif b5' then L13_3 n m1 m2 w4_0 w4_1 w4_2 w4_3 w4_4 w4_5 w4_6 w4_7 known7 v26 v27 v32 v33 v34 out6
 else (S35 n x4').bind fun r6' =>
          L13_4 n m1 m2 n.1 w4_0 w4_1 w4_2 w4_3 w4_4 w4_5 w4_6 w4_7 known7 v34 0 v26 v27 v32 v33 v34 (r6'.length : Int) 0 out6 r6'))
 else L13_1 n m1 w4_0 w4_1 w4_2 w4_3 w4_4 w4_5 w4_6 w4_7 known7 v26 (wr .i64 (v27 + 1)) out6) := by kernel_rfl
theorem L13_3_raw (n : Nat × Nat) (m1 m2 : Nat) (w4_0 : Int) (w4_1 : Int) (w4_2 : Int) (w4_3 : Int) (w4_4 : Int) (w4_5 : Int) (w4_6 : Int) (w4_7 : Int) (known7 : Int) (v26 : Int) (v27 : Int) (v32 : List Int) (v33 : Int) (v34 : Int) (out6 : List Int) : (kq13_19 n m1 m2) { tm := [uu, uu, uu, uu, .iptr [.int .i64 w4_0, .int .u64 w4_1, .int .u64 w4_2, .int .u64 w4_3, .int .u64 w4_4, .int .u64 w4_5, .int .u64 w4_6, .int .u64 w4_7], uu, .own 6 none false, .c (.int .u64 known7), uu, uu, uu, uu, uu, uu, uu, uu, uu, uu, uu, uu, uu, uu, uu, uu, uu, uu, .c (.int .i64 v26), .c (.int .i64 v27), uu, uu, uu, uu, .c (.sl (.int .u64) v32 false), .c (.int .i64 v33), .c (.int .i64 v34), uu, uu, uu, uu, uu, uu, uu, uu, uu, uu, uu, uu, uu, uu, uu, uu, uu, uu, uu, uu, uu, uu, uu, uu, uu, uu, uu, uu, uu, uu, uu, uu, uu, uu, uu, uu, uu, uu, uu, uu, uu, uu, uu, uu, uu], hp := (upd emp 6 (.arr (.int .i64) out6 false)) } =
    L13_2 n m1 m2 w4_0 w4_1 w4_2 w4_3 w4_4 w4_5 w4_6 w4_7 known7 v26 v27 v32 v33 (wr .i64 (v34 + 1)) out6 := by kernel_rfl
theorem L13_4_eq (n : Nat × Nat) (m1 m2 m3 : Nat) (w4_0 : Int) (w4_1 : Int) (w4_2 : Int) (w4_3 : Int) (w4_4 : Int) (w4_5 : Int) (w4_6 : Int) (w4_7 : Int) (known7 : Int) (x8 : Int) (v10 : Int) (v26 : Int) (v27 : Int) (v32 : List Int) (v33 : Int) (v34 : Int) (v52 : Int) (v53 : Int) (out6 : List Int) (v51 : List Int) : L13_4 n m1 m2 (m3 + 1) w4_0 w4_1 w4_2 w4_3 w4_4 w4_5 w4_6 w4_7 known7 x8 v10 v26 v27 v32 v33 v34 v52 v53 out6 v51 =
 (bif decide (v53 < v52) then (bif inB v53 v51.length then (idx v51 v53).bind fun x7' =>
 (bif inB x7' out6.length then (idx out6 x7').bind fun x8' =>
 (bif decide (x8' < 0) then none
 else L13_4 n m1 m2 m3 w4_0 w4_1 w4_2 w4_3 w4_4 w4_5 w4_6 w4_7 known7 x8 (wr .u64 (BitVec.ofInt (IntKind.bits .u64) v10 ||| BitVec.ofInt (IntKind.bits .u64) (wr .u64 (1 * 2 ^ (min (Int.toNat x8') (IntKind.bits .u64))))).toNat) v26 v27 v32 v33 v34 v52 (wr .i64 (v53 + 1)) out6 v51)
 else none)
 else none)
 else (S41 n (wr .u64 (BitVec.ofInt (IntKind.bits .u64) (if IntKind.signed .u64 then -1 else IntKind.max .u64) ^^^ BitVec.ofInt (IntKind.bits .u64) v10).toNat)).bind fun r9' =>
 (bif inB x8 out6.length then (idx out6 x8).bind fun x10' =>
 (bif decide (x8 < 0) then none
 else L13_3 n m1 m2 w4_0 w4_1 w4_2 w4_3 w4_4 w4_5 w4_6 w4_7 (wr .u64 (BitVec.ofInt (IntKind.bits .u64) known7 ||| BitVec.ofInt (IntKind.bits .u64) (wr .u64 (1 * 2 ^ (min (Int.toNat x8) (IntKind.bits .u64))))).toNat) v26 v27 v32 v33 v34 (out6.set (Int.toNat x8) r9'))
 else none)) := by kernel_rfl
noncomputable def S13 (n : Nat × Nat) (b0 : Int × List (Int × Int)) : Option R13 := run (E13 n) c13 an13 rt13 (fun _ _ => none) rt13 { tm := [.agg [.int .i64 b0.1, .sl (.pair (.int .i64) (.int .i64)) b0.2 false], uu, uu, uu, uu, uu, uu, uu, uu, uu, uu, uu, uu, uu, uu, uu, uu, uu, uu, uu, uu, uu, uu, uu, uu, uu, uu, uu, uu, uu, uu, uu, uu, uu, uu, uu, uu, uu, uu, uu, uu, uu, uu, uu, uu, uu, uu, uu, uu, uu, uu, uu, uu, uu, uu, uu, uu, uu, uu, uu, uu, uu, uu, uu, uu, uu, uu, uu, uu, uu, uu, uu, uu, uu, uu, uu, uu, uu, uu, uu], hp := emp }
theorem S13_eq (n : Nat × Nat) (b0 : Int × List (Int × Int)) : S13 n b0 =
 (S33 n b0).bind fun r1' =>
 (bif (r1'.2 != 0) then some ([], r1'.2)
 else (S40 n [-1] r1'.1.1).bind fun r2' =>
      L13_1 n n.1 r1'.1.1 r1'.1.2.1 r1'.1.2.2.1 r1'.1.2.2.2.1 r1'.1.2.2.2.2.1 r1'.1.2.2.2.2.2.1 r1'.1.2.2.2.2.2.2.1 r1'.1.2.2.2.2.2.2.2 0 r1'.1.1 0 r2') := by kernel_rfl
theorem S13_run (n : Nat × Nat) (xs : pksDen pk13) : S13 n xs.1 = runG (E13 n) noScope c13 an13 (rtG rk13) (fun _ _ => none) (rtG rk13) (st0 pk13 xs Tryd.f13.ntmps) := by kernel_rfl
noncomputable def P13 (n : Nat × Nat) := phiOf pk13 rk13 (fun xs => S13 n xs.1)
theorem call13 : CallOK Tryd.prog 13 := callOK_of Tryd.func13 (by kernel_rfl) (by kernel_rfl)
theorem env13 (n : Nat × Nat) : EnvOK Tryd.prog (E13 n) := envOK0 (consPhi_ok (FC33 n) call33 (consPhi_ok (FC35 n) call35 (consPhi_ok (FC40 n) call40 (consPhi_ok (FC41 n) call41 (consPhi_ok (FC42 n) call42 noPhi_ok))))) rfl rfl
theorem par13 (n : Nat × Nat) : EnvPar (E13 n) := envPar0 (consPhi_par phiOf_Par1 (consPhi_par phiOf_Par1 (consPhi_par phiOf_Par1 (consPhi_par phiOf_Par1 (consPhi_par phiOf_Par1 noPhi_par))))) rfl
theorem FC13 (n : Nat × Nat) : FCs Tryd.prog 13 (P13 n) := phiOf_FCs fun xs r h vs hv => FC.of_runG tabOK eqsOK (env13 n) (par13 n) mixed (fun _ p _ => noScope_ok p.1 p.2) Tryd.func13 (c := c13) (an := an13) (pks := pk13) (rks := rk13) (by kernel_rfl) (by kernel_rfl) hv ((S13_run n xs).symm.trans h)
abbrev R9 := Bool × Int
noncomputable def c9 : Code := bodyOf Tryd.f9
noncomputable def an9 : Ann := (.s .l (.s (.s .l (.s .l (.j [0, 1] .l .l))) .l))
def pk9 : List PK := [.c .str, .c .str]
def rk9 : List RK := [.c .bool 4, .c (.int .i64) 5]
noncomputable def rt9 (st : St) : Option R9 := rtG rk9 st
noncomputable def E9 (n : Nat × Nat) : Env := { T := tab, phi := (consPhi 31 (fun _ => true) (P31 n) (consPhi 32 (fun _ => true) (P32 n) noPhi)), eff := fun _ => false, fuel := n.1, hold := n.2 }
noncomputable def S9 (n : Nat × Nat) (word0 : ByteArray) (part1 : ByteArray) : Option R9 := run (E9 n) c9 an9 rt9 (fun _ _ => none) rt9 { tm := [.c (.str word0), .c (.str part1), uu, uu, uu, uu, uu, uu, uu, uu, uu, uu, uu, uu, uu, uu, uu], hp := emp }
theorem S9_eq (n : Nat × Nat) (word0 : ByteArray) (part1 : ByteArray) : S9 n word0 part1 =
 (S31 n [word0, part1]).bind fun r1' =>
 (bif (r1' != 0) then some (false, r1')
 else (S32 n word0 part1).bind fun r2' =>
 some (r2', 0)) := by kernel_rfl
theorem S9_run (n : Nat × Nat) (xs : pksDen pk9) : S9 n xs.1 xs.2.1 = runG (E9 n) noScope c9 an9 (rtG rk9) (fun _ _ => none) (rtG rk9) (st0 pk9 xs Tryd.f9.ntmps) := by kernel_rfl
noncomputable def P9 (n : Nat × Nat) := phiOf pk9 rk9 (fun xs => S9 n xs.1 xs.2.1)
theorem call9 : CallOK Tryd.prog 9 := callOK_of Tryd.func9 (by kernel_rfl) (by kernel_rfl)
theorem env9 (n : Nat × Nat) : EnvOK Tryd.prog (E9 n) := envOK0 (consPhi_ok (FC31 n) call31 (consPhi_ok (FC32 n) call32 noPhi_ok)) rfl rfl
theorem par9 (n : Nat × Nat) : EnvPar (E9 n) := envPar0 (consPhi_par phiOf_Par1 (consPhi_par phiOf_Par1 noPhi_par)) rfl
theorem FC9 (n : Nat × Nat) : FCs Tryd.prog 9 (P9 n) := phiOf_FCs fun xs r h vs hv => FC.of_runG tabOK eqsOK (env9 n) (par9 n) mixed (fun _ p _ => noScope_ok p.1 p.2) Tryd.func9 (c := c9) (an := an9) (pks := pk9) (rks := rk9) (by kernel_rfl) (by kernel_rfl) hv ((S9_run n xs).symm.trans h)
abbrev R10 := Bool
noncomputable def c10 : Code := bodyOf Tryd.f10
noncomputable def an10 : Ann := (.s .l (.s (.s .l (.j [1] (.j [0, 1, 7, 14, 15, 16, 17, 18, 19] (.s .l (.s (.j [0, 1, 7, 8, 14, 15, 16, 17, 18, 19] .l .l) (.j [0, 1, 7, 14, 15, 16, 17, 18, 19] (.s .l (.s .l (.j [0, 1, 7, 14, 15, 16, 17, 18, 19] .l .l))) .l))) .l) .l)) .l))
def pk10 : List PK := [.c .str, .c .str]
def rk10 : List RK := [.c .bool 4]
noncomputable def rt10 (st : St) : Option R10 := rtG rk10 st
noncomputable def E10 (n : Nat × Nat) : Env := { T := tab, phi := noPhi, eff := fun _ => false, fuel := n.1, hold := n.2 }
noncomputable def kq10_1 (n : Nat × Nat) : St → Option R10 := run (E10 n) (cB (cB c10)) (Ann.snd (Ann.snd an10)) rt10 (fun _ _ => none) rt10
noncomputable def xb10_3 (n : Nat × Nat) : Nat → St → Option R10 := fun j s => bif Nat.beq j 0 then normC [1] s (kq10_1 n) else (fun _ _ => none) j s
noncomputable def F10_4 (n : Nat × Nat) : (St → Option R10) → St → Option R10 := fun K s => run (E10 n) (cA (cA (cB (cA (cB c10))))) (Ann.fst (Ann.fst (Ann.snd (Ann.fst (Ann.snd an10))))) (fun s => normC [0, 1, 7, 14, 15, 16, 17, 18, 19] s K) (xb10_3 n) rt10 s
noncomputable def L10_1 (n : Nat × Nat) (m : Nat) (word0 : ByteArray) (p1 : ByteArray) (v7s : ByteArray) (v7p : Nat) : Option R10 := loopN (F10_4 n) m { tm := [.c (.str word0), .c (.str p1), uu, uu, uu, uu, uu, .ptr 7 0, uu, uu, uu, uu, uu, uu, uu, uu, uu, uu, uu, uu, uu, uu, uu, uu, uu], hp := (upd emp 7 (.iter v7s v7p)) }
theorem L10_1_eq (n : Nat × Nat) (m1 : Nat) (word0 : ByteArray) (p1 : ByteArray) (v7s : ByteArray) (v7p : Nat) : L10_1 n (m1 + 1) word0 p1 v7s v7p =
 (bif Nat.blt v7p v7s.size then ((strBytes v7s)[v7p]?).bind fun x1' =>
 (bif decide (x1' < 128) then ((bif ((!strEq p1 (⟨#[]⟩ : ByteArray)) == true) then (idx (strBytes word0) (v7p : Int)).bind fun x2' =>
 (idx (strBytes p1) 0).bind fun x3' =>
 some (x2' == x3')
 else some false)).bind fun b4' =>
 (bif b4' then (bif bounds (some 1) none none p1.size then L10_1 n m1 word0 (strCut (some 1) none p1) v7s (v7p + 1)
 else none)
 else L10_1 n m1 word0 p1 v7s (v7p + 1))
 else none)
 else some (strEq p1 (⟨#[]⟩ : ByteArray))) := by kernel_rfl
noncomputable def S10 (n : Nat × Nat) (word0 : ByteArray) (p1 : ByteArray) : Option R10 := run (E10 n) c10 an10 rt10 (fun _ _ => none) rt10 { tm := [.c (.str word0), .c (.str p1), uu, uu, uu, uu, uu, uu, uu, uu, uu, uu, uu, uu, uu, uu, uu, uu, uu, uu, uu, uu, uu, uu, uu], hp := emp }
theorem S10_eq (n : Nat × Nat) (word0 : ByteArray) (p1 : ByteArray) : S10 n word0 p1 =
    L10_1 n n.1 word0 p1 word0 0 := by kernel_rfl
theorem S10_run (n : Nat × Nat) (xs : pksDen pk10) : S10 n xs.1 xs.2.1 = runG (E10 n) noScope c10 an10 (rtG rk10) (fun _ _ => none) (rtG rk10) (st0 pk10 xs Tryd.f10.ntmps) := by kernel_rfl
noncomputable def P10 (n : Nat × Nat) := phiOf pk10 rk10 (fun xs => S10 n xs.1 xs.2.1)
theorem call10 : CallOK Tryd.prog 10 := callOK_of Tryd.func10 (by kernel_rfl) (by kernel_rfl)
theorem env10 (n : Nat × Nat) : EnvOK Tryd.prog (E10 n) := envOK0 noPhi_ok rfl rfl
theorem par10 (n : Nat × Nat) : EnvPar (E10 n) := envPar0 noPhi_par rfl
theorem FC10 (n : Nat × Nat) : FCs Tryd.prog 10 (P10 n) := phiOf_FCs fun xs r h vs hv => FC.of_runG tabOK eqsOK (env10 n) (par10 n) mixed (fun _ p _ => noScope_ok p.1 p.2) Tryd.func10 (c := c10) (an := an10) (pks := pk10) (rks := rk10) (by kernel_rfl) (by kernel_rfl) hv ((S10_run n xs).symm.trans h)
/- (headword/see.web).set -/
abbrev R43 := Int × Int
noncomputable def c43 : Code := bodyOf Tryd.f43
noncomputable def an43 : Ann := (.s .l (.s .l (.s (.s .l (.j [6] (.j [2, 6, 7, 10, 11, 12, 20, 21, 22, 23] (.s .l (.s (.j [2, 6, 7, 10, 11, 12, 20, 21, 22, 23] .l .l) (.s (.j [2, 6, 7, 10, 11, 12, 20, 21, 22, 23] (.s .l (.s (.j [2, 6, 9, 10, 11, 12, 20, 21, 22, 23] (.s .l (.j [2, 6, 9, 10, 11, 12, 20, 21, 22, 23] .l (.s .l (.j [2, 6, 9, 10, 11, 12, 20, 21, 22, 23] .l .l)))) .l) .l)) .l) .l))) .l) .l)) .l)))
def pk43 : List PK := [.c (.pair (.int .i64) (.pair (.int .u64) (.pair (.int .u64) (.pair (.int .u64) (.pair (.int .u64) (.pair (.int .u64) (.pair (.int .u64) (.int .u64)))))))), .c (.sl (.int .i64))]
def rk43 : List RK := [.c (.int .u64) 4, .c (.int .i64) 5]
noncomputable def rt43 (st : St) : Option R43 := rtG rk43 st
noncomputable def E43 (n : Nat × Nat) : Env := { T := tab, phi := noPhi, eff := fun _ => false, fuel := n.1, hold := n.2 }
noncomputable def kq43_1 (n : Nat × Nat) : St → Option R43 := run (E43 n) (cB (cB (cB c43))) (Ann.snd (Ann.snd (Ann.snd an43))) rt43 (fun _ _ => none) rt43
noncomputable def xb43_3 (n : Nat × Nat) : Nat → St → Option R43 := fun j s => bif Nat.beq j 0 then normC [6] s (kq43_1 n) else (fun _ _ => none) j s
noncomputable def F43_4 (n : Nat × Nat) : (St → Option R43) → St → Option R43 := fun K s => run (E43 n) (cA (cA (cB (cA (cB (cB c43)))))) (Ann.fst (Ann.fst (Ann.snd (Ann.fst (Ann.snd (Ann.snd an43)))))) (fun s => normC [2, 6, 7, 10, 11, 12, 20, 21, 22, 23] s K) (xb43_3 n) rt43 s
noncomputable def L43_1 (n : Nat × Nat) (m : Nat) (out6 : Int) (v7 : Int) (v10 : List Int) (v11 : Int) (v12 : Int) (w2_0 : Int) (w2_1 : Int) (w2_2 : Int) (w2_3 : Int) (w2_4 : Int) (w2_5 : Int) (w2_6 : Int) (w2_7 : Int) : Option R43 := loopN (F43_4 n) m { tm := [uu, uu, .ptr 2 0, uu, uu, uu, .c (.int .u64 out6), .c (.int .i64 v7), uu, uu, .c (.sl (.int .i64) v10 false), .c (.int .i64 v11), .c (.int .i64 v12), uu, uu, uu, uu, uu, uu, uu, uu, uu, uu, uu, uu, uu, uu, uu, uu, uu, uu, uu, uu, uu, uu, uu], hp := (upd emp 2 (.box [.int .i64 w2_0, .int .u64 w2_1, .int .u64 w2_2, .int .u64 w2_3, .int .u64 w2_4, .int .u64 w2_5, .int .u64 w2_6, .int .u64 w2_7])) }
theorem L43_1_eq (n : Nat × Nat) (m1 : Nat) (out6 : Int) (v7 : Int) (v10 : List Int) (v11 : Int) (v12 : Int) (w2_0 : Int) (w2_1 : Int) (w2_2 : Int) (w2_3 : Int) (w2_4 : Int) (w2_5 : Int) (w2_6 : Int) (w2_7 : Int) : L43_1 n (m1 + 1) out6 v7 v10 v11 v12 w2_0 w2_1 w2_2 w2_3 w2_4 w2_5 w2_6 w2_7 =
 (bif decide (v12 < v11) then (idx v10 v12).bind fun x1' =>
 ((bif (decide (x1' < 0) == false) then some (decide (x1' ≥ w2_0))
 else some true)).bind fun b2' =>
 (bif b2' then some (0, 2)
 else (bif decide (x1' ≤ v7) then some (0, 7)
 else (bif decide (x1' < 0) then none
 else L43_1 n m1 (wr .u64 (BitVec.ofInt (IntKind.bits .u64) out6 ||| BitVec.ofInt (IntKind.bits .u64) (wr .u64 (1 * 2 ^ (min (Int.toNat x1') (IntKind.bits .u64))))).toNat) x1' v10 v11 (wr .i64 (v12 + 1)) w2_0 w2_1 w2_2 w2_3 w2_4 w2_5 w2_6 w2_7)))
 else some (out6, 0)) := by kernel_rfl
noncomputable def S43 (n : Nat × Nat) (w0 : Int × Int × Int × Int × Int × Int × Int × Int) (l1 : List Int) : Option R43 := run (E43 n) c43 an43 rt43 (fun _ _ => none) rt43 { tm := [.agg [.int .i64 w0.1, .int .u64 w0.2.1, .int .u64 w0.2.2.1, .int .u64 w0.2.2.2.1, .int .u64 w0.2.2.2.2.1, .int .u64 w0.2.2.2.2.2.1, .int .u64 w0.2.2.2.2.2.2.1, .int .u64 w0.2.2.2.2.2.2.2], .c (.sl (.int .i64) l1 false), uu, uu, uu, uu, uu, uu, uu, uu, uu, uu, uu, uu, uu, uu, uu, uu, uu, uu, uu, uu, uu, uu, uu, uu, uu, uu, uu, uu, uu, uu, uu, uu, uu, uu], hp := emp }
theorem S43_eq (n : Nat × Nat) (w0 : Int × Int × Int × Int × Int × Int × Int × Int) (l1 : List Int) : S43 n w0 l1 =
    L43_1 n n.1 0 (-1) l1 (l1.length : Int) 0 w0.1 w0.2.1 w0.2.2.1 w0.2.2.2.1 w0.2.2.2.2.1 w0.2.2.2.2.2.1 w0.2.2.2.2.2.2.1 w0.2.2.2.2.2.2.2 := by kernel_rfl
theorem S43_run (n : Nat × Nat) (xs : pksDen pk43) : S43 n xs.1 xs.2.1 = runG (E43 n) noScope c43 an43 (rtG rk43) (fun _ _ => none) (rtG rk43) (st0 pk43 xs Tryd.f43.ntmps) := by kernel_rfl
noncomputable def P43 (n : Nat × Nat) := phiOf pk43 rk43 (fun xs => S43 n xs.1 xs.2.1)
theorem call43 : CallOK Tryd.prog 43 := callOK_of Tryd.func43 (by kernel_rfl) (by kernel_rfl)
theorem env43 (n : Nat × Nat) : EnvOK Tryd.prog (E43 n) := envOK0 noPhi_ok rfl rfl
theorem par43 (n : Nat × Nat) : EnvPar (E43 n) := envPar0 noPhi_par rfl
theorem FC43 (n : Nat × Nat) : FCs Tryd.prog 43 (P43 n) := phiOf_FCs fun xs r h vs hv => FC.of_runG tabOK eqsOK (env43 n) (par43 n) mixed (fun _ p _ => noScope_ok p.1 p.2) Tryd.func43 (c := c43) (an := an43) (pks := pk43) (rks := rk43) (by kernel_rfl) (by kernel_rfl) hv ((S43_run n xs).symm.trans h)
abbrev R15 := List Int × Int
noncomputable def c15 : Code := bodyOf Tryd.f15
noncomputable def an15 : Ann := (.s .l (.s .l (.q [(8, 0, 2)] (.s (.j [1, 2, 8, 45, 46, 47, 48] (.s .l (.j [1, 2, 8, 45, 46, 47, 48] .l (.s .l (.j [1, 2, 8, 45, 46, 47, 48] .l .l)))) .l) (.s .l (.s (.j [2, 8, 10] (.s .l (.j [2, 8, 10] .l (.s .l (.j [2, 8, 10] .l .l)))) .l) (.s .l (.s (.j [2, 8, 11] (.j [2, 8, 11] (.s (.s .l (.j [2, 8, 11] .l .l)) (.j [2, 8, 11] (.s .l (.s .l (.s (.s .l (.j [2, 8, 11, 12, 13] (.j [2, 8, 11, 12, 13, 72, 73, 74] (.s .l (.s (.j [2, 8, 11, 12, 13, 72, 73, 74] .l .l) (.j [] (.j [2, 8, 11, 12, 13, 72, 73, 74] (.s .l (.s .l (.j [2, 8, 11, 12, 13, 72, 73, 74] .l .l))) .l) .l))) .l) .l)) (.s (.s .l (.j [2, 8, 11, 13] .l .l)) .l)))) .l)) .l) .l) (.s .l (.s (.s .l (.j [16] (.j [2, 8, 11, 16, 17] (.s (.s .l (.j [2, 8, 11, 16, 17] .l .l)) (.s (.j [2, 8, 11, 16, 17] .l .l) .l)) .l) .l)) .l))))))))))
def pk15 : List PK := [.c (.pair (.int .i64) (.sl (.pair (.int .i64) (.int .i64)))), .c (.sl (.int .i64)), .c (.int .i64)]
def rk15 : List RK := [.own (.int .i64) 6, .c (.int .i64) 7]
noncomputable def rt15 (st : St) : Option R15 := rtG rk15 st
noncomputable def E15 (n : Nat × Nat) : Env := { T := tab, phi := (consPhi 33 (fun _ => true) (P33 n) (consPhi 41 (fun _ => true) (P41 n) (consPhi 43 (fun _ => true) (P43 n) noPhi))), eff := fun _ => false, fuel := n.1, hold := n.2 }
noncomputable def kq15_11 (n : Nat × Nat) : St → Option R15 := run (E15 n) (cB (cB (cB (cB (cB (cB (cB c15))))))) (Ann.snd (Ann.snd (Ann.snd (Ann.snd (Ann.snd (Ann.unq (Ann.snd (Ann.snd an15)))))))) rt15 (fun _ _ => none) rt15
noncomputable def xb15_13 (n : Nat × Nat) : Nat → St → Option R15 := fun j s => bif Nat.beq j 2 then normC [2, 8, 11] s (kq15_11 n) else (fun _ _ => none) j s
noncomputable def F15_14 (n : Nat × Nat) : (St → Option R15) → St → Option R15 := fun K s => run (E15 n) (cA (cA (cA (cB (cB (cB (cB (cB (cB c15))))))))) (Ann.fst (Ann.fst (Ann.fst (Ann.snd (Ann.snd (Ann.snd (Ann.snd (Ann.unq (Ann.snd (Ann.snd an15)))))))))) (fun s => normC [2, 8, 11] s K) (xb15_13 n) rt15 s
noncomputable def kc15_17 (n : Nat × Nat) (m1 : Nat) : St → Option R15 := fun s => normC [2, 8, 11] s (fun s => normC [2, 8, 11] s (loopN (F15_14 n) m1))
noncomputable def xb15_18 (n : Nat × Nat) (m1 : Nat) : Nat → St → Option R15 := fun j s => bif Nat.beq j 3 then normC [2, 8, 11] s (fun s => normC [2, 8, 11] s (loopN (F15_14 n) m1)) else (xb15_13 n) j s
noncomputable def kq15_19 (n : Nat × Nat) (m1 : Nat) : St → Option R15 := run (E15 n) (cB (cB (cB (cA (cB (cA (cA (cA (cB (cB (cB (cB (cB (cB c15)))))))))))))) (Ann.snd (Ann.snd (Ann.snd (Ann.fst (Ann.snd (Ann.fst (Ann.fst (Ann.fst (Ann.snd (Ann.snd (Ann.snd (Ann.snd (Ann.unq (Ann.snd (Ann.snd an15))))))))))))))) (kc15_17 n m1) (xb15_18 n m1) rt15
noncomputable def xb15_21 (n : Nat × Nat) (m1 : Nat) : Nat → St → Option R15 := fun j s => bif Nat.beq j 4 then normC [2, 8, 11, 12, 13] s (kq15_19 n m1) else (xb15_18 n m1) j s
noncomputable def F15_22 (n : Nat × Nat) (m1 : Nat) : (St → Option R15) → St → Option R15 := fun K s => run (E15 n) (cA (cA (cB (cA (cB (cB (cA (cB (cA (cA (cA (cB (cB (cB (cB (cB (cB c15))))))))))))))))) (Ann.fst (Ann.fst (Ann.snd (Ann.fst (Ann.snd (Ann.snd (Ann.fst (Ann.snd (Ann.fst (Ann.fst (Ann.fst (Ann.snd (Ann.snd (Ann.snd (Ann.snd (Ann.unq (Ann.snd (Ann.snd an15)))))))))))))))))) (fun s => normC [2, 8, 11, 12, 13, 72, 73, 74] s K) (xb15_21 n m1) rt15 s
noncomputable def kq15_23 (n : Nat × Nat) : St → Option R15 := run (E15 n) (cB (cB (cB (cB (cB (cB (cB (cB (cB c15))))))))) (Ann.snd (Ann.snd (Ann.snd (Ann.snd (Ann.snd (Ann.snd (Ann.snd (Ann.unq (Ann.snd (Ann.snd an15)))))))))) rt15 (fun _ _ => none) rt15
noncomputable def xb15_25 (n : Nat × Nat) : Nat → St → Option R15 := fun j s => bif Nat.beq j 6 then normC [16] s (kq15_23 n) else (fun _ _ => none) j s
noncomputable def F15_26 (n : Nat × Nat) : (St → Option R15) → St → Option R15 := fun K s => run (E15 n) (cA (cA (cB (cA (cB (cB (cB (cB (cB (cB (cB (cB c15)))))))))))) (Ann.fst (Ann.fst (Ann.snd (Ann.fst (Ann.snd (Ann.snd (Ann.snd (Ann.snd (Ann.snd (Ann.snd (Ann.unq (Ann.snd (Ann.snd an15))))))))))))) (fun s => normC [2, 8, 11, 16, 17] s K) (xb15_25 n) rt15 s
noncomputable def kq15_29 (n : Nat × Nat) (m1 m2 : Nat) : St → Option R15 := run (E15 n) (cB (cB (cB (cA (cA (cB (cA (cB (cB (cA (cB (cA (cA (cA (cB (cB (cB (cB (cB (cB c15)))))))))))))))))))) (Ann.snd (Ann.snd (Ann.snd (Ann.fst (Ann.fst (Ann.snd (Ann.fst (Ann.snd (Ann.snd (Ann.fst (Ann.snd (Ann.fst (Ann.fst (Ann.fst (Ann.snd (Ann.snd (Ann.snd (Ann.snd (Ann.unq (Ann.snd (Ann.snd an15))))))))))))))))))))) (fun s => normC [2, 8, 11, 12, 13, 72, 73, 74] s (loopN (F15_22 n m1) m2)) (xb15_21 n m1) rt15
noncomputable def L15_1 (n : Nat × Nat) (m : Nat) (word2 : Int) (w8_0 : Int) (w8_1 : Int) (w8_2 : Int) (w8_3 : Int) (w8_4 : Int) (w8_5 : Int) (w8_6 : Int) (w8_7 : Int) (near11 : List Int) : Option R15 := loopN (F15_14 n) m { tm := [uu, uu, .c (.int .i64 word2), uu, uu, uu, uu, uu, .iptr [.int .i64 w8_0, .int .u64 w8_1, .int .u64 w8_2, .int .u64 w8_3, .int .u64 w8_4, .int .u64 w8_5, .int .u64 w8_6, .int .u64 w8_7], uu, uu, .own 11 none false, uu, uu, uu, uu, uu, uu, uu, uu, uu, uu, uu, uu, uu, uu, uu, uu, uu, uu, uu, uu, uu, uu, uu, uu, uu, uu, uu, uu, uu, uu, uu, uu, uu, uu, uu, uu, uu, uu, uu, uu, uu, uu, uu, uu, uu, uu, uu, uu, uu, uu, uu, uu, uu, uu, uu, uu, uu, uu, uu, uu, uu, uu, uu, uu, uu, uu, uu, uu, uu, uu, uu, uu, uu, uu, uu, uu, uu, uu, uu, uu, uu, uu, uu, uu, uu, uu, uu, uu, uu, uu, uu, uu, uu, uu, uu, uu, uu, uu, uu, uu, uu, uu, uu, uu, uu, uu, uu], hp := (upd emp 11 (.arr (.int .u64) near11 false)) }
noncomputable def L15_2 (n : Nat × Nat) (m1 : Nat) (m : Nat) (word2 : Int) (w8_0 : Int) (w8_1 : Int) (w8_2 : Int) (w8_3 : Int) (w8_4 : Int) (w8_5 : Int) (w8_6 : Int) (w8_7 : Int) (now12 : Int) (wide13 : Int) (v72 : List Int) (v73 : Int) (v74 : Int) (near11 : List Int) : Option R15 := loopN (F15_22 n m1) m { tm := [uu, uu, .c (.int .i64 word2), uu, uu, uu, uu, uu, .iptr [.int .i64 w8_0, .int .u64 w8_1, .int .u64 w8_2, .int .u64 w8_3, .int .u64 w8_4, .int .u64 w8_5, .int .u64 w8_6, .int .u64 w8_7], uu, uu, .own 11 none false, .c (.int .u64 now12), .c (.int .u64 wide13), uu, uu, uu, uu, uu, uu, uu, uu, uu, uu, uu, uu, uu, uu, uu, uu, uu, uu, uu, uu, uu, uu, uu, uu, uu, uu, uu, uu, uu, uu, uu, uu, uu, uu, uu, uu, uu, uu, uu, uu, uu, uu, uu, uu, uu, uu, uu, uu, uu, uu, uu, uu, uu, uu, uu, uu, uu, uu, .c (.sl (.int .u64) v72 false), .c (.int .i64 v73), .c (.int .i64 v74), uu, uu, uu, uu, uu, uu, uu, uu, uu, uu, uu, uu, uu, uu, uu, uu, uu, uu, uu, uu, uu, uu, uu, uu, uu, uu, uu, uu, uu, uu, uu, uu, uu, uu, uu, uu, uu, uu, uu, uu, uu, uu, uu, uu], hp := (upd emp 11 (.arr (.int .u64) near11 false)) }
noncomputable def L15_3 (n : Nat × Nat) (m : Nat) (word2 : Int) (w8_0 : Int) (w8_1 : Int) (w8_2 : Int) (w8_3 : Int) (w8_4 : Int) (w8_5 : Int) (w8_6 : Int) (w8_7 : Int) (i17 : Int) (near11 : List Int) (out16 : List Int) : Option R15 := loopN (F15_26 n) m { tm := [uu, uu, .c (.int .i64 word2), uu, uu, uu, uu, uu, .iptr [.int .i64 w8_0, .int .u64 w8_1, .int .u64 w8_2, .int .u64 w8_3, .int .u64 w8_4, .int .u64 w8_5, .int .u64 w8_6, .int .u64 w8_7], uu, uu, .own 11 none false, uu, uu, uu, uu, .own 16 none false, .c (.int .i64 i17), uu, uu, uu, uu, uu, uu, uu, uu, uu, uu, uu, uu, uu, uu, uu, uu, uu, uu, uu, uu, uu, uu, uu, uu, uu, uu, uu, uu, uu, uu, uu, uu, uu, uu, uu, uu, uu, uu, uu, uu, uu, uu, uu, uu, uu, uu, uu, uu, uu, uu, uu, uu, uu, uu, uu, uu, uu, uu, uu, uu, uu, uu, uu, uu, uu, uu, uu, uu, uu, uu, uu, uu, uu, uu, uu, uu, uu, uu, uu, uu, uu, uu, uu, uu, uu, uu, uu, uu, uu, uu, uu, uu, uu, uu, uu, uu, uu, uu, uu, uu, uu], hp := (upd (upd emp 16 (.arr (.int .i64) out16 false)) 11 (.arr (.int .u64) near11 false)) }
noncomputable def L15_4 (n : Nat × Nat) (m1 m2 : Nat) (word2 : Int) (w8_0 : Int) (w8_1 : Int) (w8_2 : Int) (w8_3 : Int) (w8_4 : Int) (w8_5 : Int) (w8_6 : Int) (w8_7 : Int) (now12 : Int) (wide13 : Int) (v72 : List Int) (v73 : Int) (v74 : Int) (near11 : List Int) : Option R15 := loopN (fun _ => (kq15_29 n m1 m2)) n.2 { tm := [uu, uu, .c (.int .i64 word2), uu, uu, uu, uu, uu, .iptr [.int .i64 w8_0, .int .u64 w8_1, .int .u64 w8_2, .int .u64 w8_3, .int .u64 w8_4, .int .u64 w8_5, .int .u64 w8_6, .int .u64 w8_7], uu, uu, .own 11 none false, .c (.int .u64 now12), .c (.int .u64 wide13), uu, uu, uu, uu, uu, uu, uu, uu, uu, uu, uu, uu, uu, uu, uu, uu, uu, uu, uu, uu, uu, uu, uu, uu, uu, uu, uu, uu, uu, uu, uu, uu, uu, uu, uu, uu, uu, uu, uu, uu, uu, uu, uu, uu, uu, uu, uu, uu, uu, uu, uu, uu, uu, uu, uu, uu, uu, uu, .c (.sl (.int .u64) v72 false), .c (.int .i64 v73), .c (.int .i64 v74), uu, uu, uu, uu, uu, uu, uu, uu, uu, uu, uu, uu, uu, uu, uu, uu, uu, uu, uu, uu, uu, uu, uu, uu, uu, uu, uu, uu, uu, uu, uu, uu, uu, uu, uu, uu, uu, uu, uu, uu, uu, uu, uu, uu], hp := (upd emp 11 (.arr (.int .u64) near11 false)) }
theorem L15_1_eq (n : Nat × Nat) (m1 : Nat) (word2 : Int) (w8_0 : Int) (w8_1 : Int) (w8_2 : Int) (w8_3 : Int) (w8_4 : Int) (w8_5 : Int) (w8_6 : Int) (w8_7 : Int) (near11 : List Int) : L15_1 n (m1 + 1) word2 w8_0 w8_1 w8_2 w8_3 w8_4 w8_5 w8_6 w8_7 near11 =
 (bif inB (wr .i64 ((near11.length : Int) - 1)) near11.length then (idx near11 (wr .i64 ((near11.length : Int) - 1))).bind fun x4' =>
 (bif decide (word2 < 0) then none
 else (bif ((wr .u64 (BitVec.ofInt (IntKind.bits .u64) (Int.fdiv x4' (2 ^ (min (Int.toNat word2) (IntKind.bits .u64)))) &&& BitVec.ofInt (IntKind.bits .u64) 1).toNat) == 0) then (bif inB (wr .i64 ((near11.length : Int) - 1)) near11.length then (idx near11 (wr .i64 ((near11.length : Int) - 1))).bind fun x5' =>
 (bif bounds none (some w8_0) none 7 then L15_2 n m1 n.1 word2 w8_0 w8_1 w8_2 w8_3 w8_4 w8_5 w8_6 w8_7 x5' x5' ([w8_1, w8_2, w8_3, w8_4, w8_5, w8_6, w8_7].take (Int.toNat w8_0)) (([w8_1, w8_2, w8_3, w8_4, w8_5, w8_6, w8_7].take (Int.toNat w8_0)).length : Int) 0 near11
 else none)
 else none)
 else L15_3 n n.1 word2 w8_0 w8_1 w8_2 w8_3 w8_4 w8_5 w8_6 w8_7 (wr .i64 ((near11.length : Int) - 2)) near11 [word2]))
 else none) := by kernel_rfl
theorem L15_2_eq (n : Nat × Nat) (m1 m2 : Nat) (word2 : Int) (w8_0 : Int) (w8_1 : Int) (w8_2 : Int) (w8_3 : Int) (w8_4 : Int) (w8_5 : Int) (w8_6 : Int) (w8_7 : Int) (now12 : Int) (wide13 : Int) (v72 : List Int) (v73 : Int) (v74 : Int) (near11 : List Int) : L15_2 n m1 (m2 + 1) word2 w8_0 w8_1 w8_2 w8_3 w8_4 w8_5 w8_6 w8_7 now12 wide13 v72 v73 v74 near11 =
 (bif decide (v74 < v73) then (idx v72 v74).bind fun x6' =>
 (bif ((wr .u64 (BitVec.ofInt (IntKind.bits .u64) x6' &&& BitVec.ofInt (IntKind.bits .u64) now12).toNat) != 0) then (bif decide (v74 < 0) then none
 else L15_4 n m1 m2 word2 w8_0 w8_1 w8_2 w8_3 w8_4 w8_5 w8_6 w8_7 now12 (wr .u64 (BitVec.ofInt (IntKind.bits .u64) wide13 ||| BitVec.ofInt (IntKind.bits .u64) (wr .u64 (1 * 2 ^ (min (Int.toNat v74) (IntKind.bits .u64))))).toNat) v72 v73 v74 near11)
 else L15_4 n m1 m2 word2 w8_0 w8_1 w8_2 w8_3 w8_4 w8_5 w8_6 w8_7 now12 wide13 v72 v73 v74 near11)
 else (bif (wide13 == now12) then some ([], 12)
 else (bif decide (near11.length + [wide13].length ≤ lim) then L15_1 n m1 word2 w8_0 w8_1 w8_2 w8_3 w8_4 w8_5 w8_6 w8_7 (near11 ++ [wide13])
 else none))) := by kernel_rfl
theorem L15_3_eq (n : Nat × Nat) (m1 : Nat) (word2 : Int) (w8_0 : Int) (w8_1 : Int) (w8_2 : Int) (w8_3 : Int) (w8_4 : Int) (w8_5 : Int) (w8_6 : Int) (w8_7 : Int) (i17 : Int) (near11 : List Int) (out16 : List Int) : L15_3 n (m1 + 1) word2 w8_0 w8_1 w8_2 w8_3 w8_4 w8_5 w8_6 w8_7 i17 near11 out16 =
 (bif decide (i17 ≥ 0) then (idx ([w8_1, w8_2, w8_3, w8_4, w8_5, w8_6, w8_7] : List Int) word2).bind fun x7' =>
 (bif inB i17 near11.length then (idx near11 i17).bind fun x8' =>
 (S41 n (wr .u64 (BitVec.ofInt (IntKind.bits .u64) x7' &&& BitVec.ofInt (IntKind.bits .u64) x8').toNat)).bind fun r9' =>
 (bif decide (out16.length + [r9'].length ≤ lim) then L15_3 n m1 r9' w8_0 w8_1 w8_2 w8_3 w8_4 w8_5 w8_6 w8_7 (wr .i64 (i17 - 1)) near11 (out16 ++ [r9'])
 else none)
 else none)
 else some (out16, 0)) := by kernel_rfl
theorem L15_4_raw (n : Nat × Nat) (m1 m2 : Nat) (word2 : Int) (w8_0 : Int) (w8_1 : Int) (w8_2 : Int) (w8_3 : Int) (w8_4 : Int) (w8_5 : Int) (w8_6 : Int) (w8_7 : Int) (now12 : Int) (wide13 : Int) (v72 : List Int) (v73 : Int) (v74 : Int) (near11 : List Int) : (kq15_29 n m1 m2) { tm := [uu, uu, .c (.int .i64 word2), uu, uu, uu, uu, uu, .iptr [.int .i64 w8_0, .int .u64 w8_1, .int .u64 w8_2, .int .u64 w8_3, .int .u64 w8_4, .int .u64 w8_5, .int .u64 w8_6, .int .u64 w8_7], uu, uu, .own 11 none false, .c (.int .u64 now12), .c (.int .u64 wide13), uu, uu, uu, uu, uu, uu, uu, uu, uu, uu, uu, uu, uu, uu, uu, uu, uu, uu, uu, uu, uu, uu, uu, uu, uu, uu, uu, uu, uu, uu, uu, uu, uu, uu, uu, uu, uu, uu, uu, uu, uu, uu, uu, uu, uu, uu, uu, uu, uu, uu, uu, uu, uu, uu, uu, uu, uu, uu, .c (.sl (.int .u64) v72 false), .c (.int .i64 v73), .c (.int .i64 v74), uu, uu, uu, uu, uu, uu, uu, uu, uu, uu, uu, uu, uu, uu, uu, uu, uu, uu, uu, uu, uu, uu, uu, uu, uu, uu, uu, uu, uu, uu, uu, uu, uu, uu, uu, uu, uu, uu, uu, uu, uu, uu, uu, uu], hp := (upd emp 11 (.arr (.int .u64) near11 false)) } =
    L15_2 n m1 m2 word2 w8_0 w8_1 w8_2 w8_3 w8_4 w8_5 w8_6 w8_7 now12 wide13 v72 v73 (wr .i64 (v74 + 1)) near11 := by kernel_rfl
noncomputable def S15 (n : Nat × Nat) (b0 : Int × List (Int × Int)) (articles1 : List Int) (word2 : Int) : Option R15 := run (E15 n) c15 an15 rt15 (fun _ _ => none) rt15 { tm := [.agg [.int .i64 b0.1, .sl (.pair (.int .i64) (.int .i64)) b0.2 false], .c (.sl (.int .i64) articles1 false), .c (.int .i64 word2), uu, uu, uu, uu, uu, uu, uu, uu, uu, uu, uu, uu, uu, uu, uu, uu, uu, uu, uu, uu, uu, uu, uu, uu, uu, uu, uu, uu, uu, uu, uu, uu, uu, uu, uu, uu, uu, uu, uu, uu, uu, uu, uu, uu, uu, uu, uu, uu, uu, uu, uu, uu, uu, uu, uu, uu, uu, uu, uu, uu, uu, uu, uu, uu, uu, uu, uu, uu, uu, uu, uu, uu, uu, uu, uu, uu, uu, uu, uu, uu, uu, uu, uu, uu, uu, uu, uu, uu, uu, uu, uu, uu, uu, uu, uu, uu, uu, uu, uu, uu, uu, uu, uu, uu, uu, uu, uu, uu, uu, uu, uu, uu, uu, uu, uu, uu], hp := emp }
theorem S15_eq (n : Nat × Nat) (b0 : Int × List (Int × Int)) (articles1 : List Int) (word2 : Int) : S15 n b0 articles1 word2 =
 (S33 n b0).bind fun r1' =>
 (bif (r1'.2 != 0) then some ([], r1'.2)
 else (bif ((articles1.length : Int) == 0) then some ([], 4)
 else (S43 n r1'.1 articles1).bind fun r2' =>
 (bif (r2'.2 != 0) then some ([], r2'.2)
 else ((bif (decide (word2 < 0) == false) then some (decide (word2 ≥ r1'.1.1))
 else some true)).bind fun b3' =>
 (bif b3' then some ([], 2)
 else L15_1 n n.1 word2 r1'.1.1 r1'.1.2.1 r1'.1.2.2.1 r1'.1.2.2.2.1 r1'.1.2.2.2.2.1 r1'.1.2.2.2.2.2.1 r1'.1.2.2.2.2.2.2.1 r1'.1.2.2.2.2.2.2.2 [r2'.1])))) := by kernel_rfl
theorem S15_run (n : Nat × Nat) (xs : pksDen pk15) : S15 n xs.1 xs.2.1 xs.2.2.1 = runG (E15 n) noScope c15 an15 (rtG rk15) (fun _ _ => none) (rtG rk15) (st0 pk15 xs Tryd.f15.ntmps) := by kernel_rfl
noncomputable def P15 (n : Nat × Nat) := phiOf pk15 rk15 (fun xs => S15 n xs.1 xs.2.1 xs.2.2.1)
theorem call15 : CallOK Tryd.prog 15 := callOK_of Tryd.func15 (by kernel_rfl) (by kernel_rfl)
theorem env15 (n : Nat × Nat) : EnvOK Tryd.prog (E15 n) := envOK0 (consPhi_ok (FC33 n) call33 (consPhi_ok (FC41 n) call41 (consPhi_ok (FC43 n) call43 noPhi_ok))) rfl rfl
theorem par15 (n : Nat × Nat) : EnvPar (E15 n) := envPar0 (consPhi_par phiOf_Par1 (consPhi_par phiOf_Par1 (consPhi_par phiOf_Par1 noPhi_par))) rfl
theorem FC15 (n : Nat × Nat) : FCs Tryd.prog 15 (P15 n) := phiOf_FCs fun xs r h vs hv => FC.of_runG tabOK eqsOK (env15 n) (par15 n) mixed (fun _ p _ => noScope_ok p.1 p.2) Tryd.func15 (c := c15) (an := an15) (pks := pk15) (rks := rk15) (by kernel_rfl) (by kernel_rfl) hv ((S15_run n xs).symm.trans h)
abbrev R3 := Bool
noncomputable def c3 : Code := bodyOf Tryd.f3
noncomputable def an3 : Ann := (.s .l (.s .l (.s .l (.q [(4, 1, 1)] (.s .l (.s (.s .l (.j [3, 4, 5, 95, 96, 99, 100, 103, 104, 107, 108, 109, 112, 113, 114, 115, 116, 117, 120, 121, 122, 123, 124, 141, 142, 143, 146, 147, 148, 149, 150, 151, 152, 153, 154, 500269999] (.j [3, 4, 5, 27, 28, 29, 50, 51, 52, 53, 54, 60, 95, 96, 99, 100, 103, 104, 107, 108, 109, 112, 113, 114, 115, 116, 117, 120, 121, 122, 123, 124, 141, 142, 143, 146, 147, 148, 149, 150, 151, 152, 153, 154, 500269999] (.s .l (.s (.j [3, 4, 5, 27, 28, 29, 50, 51, 52, 53, 54, 60, 95, 96, 99, 100, 103, 104, 107, 108, 109, 112, 113, 114, 115, 116, 117, 120, 121, 122, 123, 124, 141, 142, 143, 146, 147, 148, 149, 150, 151, 152, 153, 154, 500269999] .l .l) (.j [] (.j [3, 4, 5, 27, 28, 29, 50, 51, 52, 53, 54, 60, 95, 96, 99, 100, 103, 104, 107, 108, 109, 112, 113, 114, 115, 116, 117, 120, 121, 122, 123, 124, 141, 142, 143, 146, 147, 148, 149, 150, 151, 152, 153, 154, 500269999] (.s .l (.s .l (.s (.s .l (.j [3, 4, 5, 6, 8, 27, 28, 29, 50, 51, 52, 53, 54, 60, 95, 96, 99, 100, 103, 104, 107, 108, 109, 112, 113, 114, 115, 116, 117, 120, 121, 122, 123, 124, 141, 142, 143, 146, 147, 148, 149, 150, 151, 152, 153, 154, 500269999] (.j [3, 4, 5, 6, 7, 8, 27, 28, 29, 34, 35, 36, 50, 51, 52, 53, 54, 60, 95, 96, 99, 100, 103, 104, 107, 108, 109, 112, 113, 114, 115, 116, 117, 120, 121, 122, 123, 124, 141, 142, 143, 146, 147, 148, 149, 150, 151, 152, 153, 154, 500269999] (.s .l (.s (.j [3, 4, 5, 6, 7, 8, 27, 28, 29, 34, 35, 36, 50, 51, 52, 53, 54, 60, 95, 96, 99, 100, 103, 104, 107, 108, 109, 112, 113, 114, 115, 116, 117, 120, 121, 122, 123, 124, 141, 142, 143, 146, 147, 148, 149, 150, 151, 152, 153, 154, 500269999] .l .l) (.j [] (.j [3, 4, 5, 6, 7, 8, 27, 28, 29, 34, 35, 36, 50, 51, 52, 53, 54, 60, 95, 96, 99, 100, 103, 104, 107, 108, 109, 112, 113, 114, 115, 116, 117, 120, 121, 122, 123, 124, 141, 142, 143, 146, 147, 148, 149, 150, 151, 152, 153, 154, 500269999] (.s .l (.s .l (.s (.s .l (.j [3, 4, 5, 6, 7, 8, 9, 11, 27, 28, 29, 34, 35, 36, 50, 51, 52, 53, 54, 60, 95, 96, 99, 100, 103, 104, 107, 108, 109, 112, 113, 114, 115, 116, 117, 120, 121, 122, 123, 124, 141, 142, 143, 146, 147, 148, 149, 150, 151, 152, 153, 154, 500269999] .l .l)) (.s .l (.j [3, 4, 5, 6, 7, 8, 27, 28, 29, 34, 35, 36, 50, 51, 52, 53, 54, 60, 95, 96, 99, 100, 103, 104, 107, 108, 109, 112, 113, 114, 115, 116, 117, 120, 121, 122, 123, 124, 141, 142, 143, 146, 147, 148, 149, 150, 151, 152, 153, 154, 500269999] .l .l))))) .l) .l))) .l) .l)) (.s .l (.j [3, 4, 5, 27, 28, 29, 50, 51, 52, 53, 54, 60, 95, 96, 99, 100, 103, 104, 107, 108, 109, 112, 113, 114, 115, 116, 117, 120, 121, 122, 123, 124, 141, 142, 143, 146, 147, 148, 149, 150, 151, 152, 153, 154, 500269999] .l .l))))) .l) .l))) .l) .l)) (.q [(4, 1, 0)] (.s .l (.s .l (.s .l (.s (.s .l (.j [3, 4, 5, 17, 141, 142, 143, 146, 147, 148, 149, 150, 151, 152, 153, 154, 500269999] .l .l)) (.s (.s .l (.j [] (.j [4, 5, 17, 127, 128, 141, 142, 143, 146, 147, 148, 149, 150, 151, 152, 153, 154, 500269999] (.s .l (.s (.j [4, 5, 17, 127, 128, 141, 142, 143, 146, 147, 148, 149, 150, 151, 152, 153, 154, 500269999] .l .l) (.s (.j [4, 5, 17, 127, 128, 141, 142, 143, 146, 147, 148, 149, 150, 151, 152, 153, 154, 500269999] (.s .l (.s .l (.s .l (.j [4, 5, 17, 127, 128, 141, 142, 143, 146, 147, 148, 149, 150, 151, 152, 153, 154, 500269999] .l .l)))) .l) .l))) .l) .l)) .l))))))))))))
def pk3 : List PK := [.c (.pair (.pair (.int .u8) (.pair (.int .u8) (.pair (.int .u8) (.pair (.int .u8) (.pair (.int .u8) (.int .u8)))))) (.pair (.pair (.int .u8) (.pair (.int .u8) (.pair (.int .u8) (.pair (.int .u8) (.pair (.int .u8) (.int .u8)))))) (.pair (.pair (.int .u8) (.pair (.int .u8) (.pair (.int .u8) (.pair (.int .u8) (.pair (.int .u8) (.int .u8)))))) (.pair (.pair (.int .u8) (.pair (.int .u8) (.pair (.int .u8) (.pair (.int .u8) (.pair (.int .u8) (.int .u8)))))) (.pair (.pair (.int .u8) (.pair (.int .u8) (.pair (.int .u8) (.pair (.int .u8) (.pair (.int .u8) (.int .u8)))))) (.pair (.pair (.int .u8) (.pair (.int .u8) (.pair (.int .u8) (.pair (.int .u8) (.pair (.int .u8) (.int .u8)))))) (.pair (.pair (.int .u8) (.pair (.int .u8) (.pair (.int .u8) (.pair (.int .u8) (.pair (.int .u8) (.int .u8)))))) (.pair (.int .u8) (.pair (.int .u8) (.pair (.int .u8) (.pair (.int .u8) (.pair (.int .u8) (.int .u8)))))))))))))]
def rk3 : List RK := [.c .bool 2]
noncomputable def rt3 (st : St) : Option R3 := rtG rk3 st
noncomputable def E3 (n : Nat × Nat) : Env := { T := tab, phi := (consPhi 8 (fun _ => true) (P8 n) (consPhi 9 (fun _ => true) (P9 n) (consPhi 10 (fun _ => true) (P10 n) (consPhi 11 (fun _ => true) (P11 n) (consPhi 12 (fun _ => true) (P12 n) (consPhi 13 (fun _ => true) (P13 n) (consPhi 14 (fun _ => true) (P14 n) (consPhi 15 (fun _ => true) (P15 n) (consPhi 16 (fun _ => true) (P16 n) noPhi))))))))), eff := fun g => Nat.beq g 11, fuel := n.1, hold := n.2 }
noncomputable def kq3_1 (n : Nat × Nat) : St → Option R3 := run (E3 n) (cB (cB (cB (cB (cB c3))))) (Ann.snd (Ann.snd (Ann.unq (Ann.snd (Ann.snd (Ann.snd an3)))))) rt3 (fun _ _ => none) rt3
noncomputable def xb3_3 (n : Nat × Nat) : Nat → St → Option R3 := fun j s => bif Nat.beq j 0 then normC [3, 4, 5, 95, 96, 99, 100, 103, 104, 107, 108, 109, 112, 113, 114, 115, 116, 117, 120, 121, 122, 123, 124, 141, 142, 143, 146, 147, 148, 149, 150, 151, 152, 153, 154, 500269999] s (kq3_1 n) else (fun _ _ => none) j s
noncomputable def F3_4 (n : Nat × Nat) : (St → Option R3) → St → Option R3 := fun K s => run (E3 n) (cA (cA (cB (cA (cB (cB (cB (cB c3)))))))) (Ann.fst (Ann.fst (Ann.snd (Ann.fst (Ann.snd (Ann.unq (Ann.snd (Ann.snd (Ann.snd an3))))))))) (fun s => normC [3, 4, 5, 27, 28, 29, 50, 51, 52, 53, 54, 60, 95, 96, 99, 100, 103, 104, 107, 108, 109, 112, 113, 114, 115, 116, 117, 120, 121, 122, 123, 124, 141, 142, 143, 146, 147, 148, 149, 150, 151, 152, 153, 154, 500269999] s K) (xb3_3 n) rt3 s
noncomputable def kq3_7 (n : Nat × Nat) (m1 : Nat) : St → Option R3 := run (E3 n) (cB (cB (cB (cA (cA (cB (cA (cB (cB (cB (cB c3))))))))))) (Ann.snd (Ann.snd (Ann.snd (Ann.fst (Ann.fst (Ann.snd (Ann.fst (Ann.snd (Ann.unq (Ann.snd (Ann.snd (Ann.snd an3)))))))))))) (fun s => normC [3, 4, 5, 27, 28, 29, 50, 51, 52, 53, 54, 60, 95, 96, 99, 100, 103, 104, 107, 108, 109, 112, 113, 114, 115, 116, 117, 120, 121, 122, 123, 124, 141, 142, 143, 146, 147, 148, 149, 150, 151, 152, 153, 154, 500269999] s (loopN (F3_4 n) m1)) (xb3_3 n) rt3
noncomputable def kc3_8 (n : Nat × Nat) (m1 : Nat) : St → Option R3 := fun s => normC [3, 4, 5, 27, 28, 29, 50, 51, 52, 53, 54, 60, 95, 96, 99, 100, 103, 104, 107, 108, 109, 112, 113, 114, 115, 116, 117, 120, 121, 122, 123, 124, 141, 142, 143, 146, 147, 148, 149, 150, 151, 152, 153, 154, 500269999] s (loopN (fun _ => (kq3_7 n m1)) n.2)
noncomputable def xb3_9 (n : Nat × Nat) (m1 : Nat) : Nat → St → Option R3 := fun j s => bif Nat.beq j 1 then normC [3, 4, 5, 27, 28, 29, 50, 51, 52, 53, 54, 60, 95, 96, 99, 100, 103, 104, 107, 108, 109, 112, 113, 114, 115, 116, 117, 120, 121, 122, 123, 124, 141, 142, 143, 146, 147, 148, 149, 150, 151, 152, 153, 154, 500269999] s (loopN (fun _ => (kq3_7 n m1)) n.2) else (xb3_3 n) j s
noncomputable def kq3_10 (n : Nat × Nat) (m1 : Nat) : St → Option R3 := run (E3 n) (cB (cB (cB (cA (cA (cB (cB (cA (cA (cB (cA (cB (cB (cB (cB c3))))))))))))))) (Ann.snd (Ann.snd (Ann.snd (Ann.fst (Ann.fst (Ann.snd (Ann.snd (Ann.fst (Ann.fst (Ann.snd (Ann.fst (Ann.snd (Ann.unq (Ann.snd (Ann.snd (Ann.snd an3)))))))))))))))) (kc3_8 n m1) (xb3_9 n m1) rt3
noncomputable def xb3_12 (n : Nat × Nat) (m1 : Nat) : Nat → St → Option R3 := fun j s => bif Nat.beq j 2 then normC [3, 4, 5, 6, 8, 27, 28, 29, 50, 51, 52, 53, 54, 60, 95, 96, 99, 100, 103, 104, 107, 108, 109, 112, 113, 114, 115, 116, 117, 120, 121, 122, 123, 124, 141, 142, 143, 146, 147, 148, 149, 150, 151, 152, 153, 154, 500269999] s (kq3_10 n m1) else (xb3_9 n m1) j s
noncomputable def F3_13 (n : Nat × Nat) (m1 : Nat) : (St → Option R3) → St → Option R3 := fun K s => run (E3 n) (cA (cA (cB (cA (cB (cB (cA (cA (cB (cB (cA (cA (cB (cA (cB (cB (cB (cB c3)))))))))))))))))) (Ann.fst (Ann.fst (Ann.snd (Ann.fst (Ann.snd (Ann.snd (Ann.fst (Ann.fst (Ann.snd (Ann.snd (Ann.fst (Ann.fst (Ann.snd (Ann.fst (Ann.snd (Ann.unq (Ann.snd (Ann.snd (Ann.snd an3))))))))))))))))))) (fun s => normC [3, 4, 5, 6, 7, 8, 27, 28, 29, 34, 35, 36, 50, 51, 52, 53, 54, 60, 95, 96, 99, 100, 103, 104, 107, 108, 109, 112, 113, 114, 115, 116, 117, 120, 121, 122, 123, 124, 141, 142, 143, 146, 147, 148, 149, 150, 151, 152, 153, 154, 500269999] s K) (xb3_12 n m1) rt3 s
noncomputable def kq3_16 (n : Nat × Nat) : St → Option R3 := run (E3 n) (cB (cB (cB (cB (cB (cB (cB (cB (cB (cB c3)))))))))) (Ann.snd (Ann.snd (Ann.snd (Ann.snd (Ann.snd (Ann.unq (Ann.snd (Ann.snd (Ann.unq (Ann.snd (Ann.snd (Ann.snd an3)))))))))))) rt3 (fun _ _ => none) rt3
noncomputable def xb3_18 (n : Nat × Nat) : Nat → St → Option R3 := fun j s => bif Nat.beq j 4 then normC [] s (kq3_16 n) else (fun _ _ => none) j s
noncomputable def F3_19 (n : Nat × Nat) : (St → Option R3) → St → Option R3 := fun K s => run (E3 n) (cA (cA (cB (cA (cB (cB (cB (cB (cB (cB (cB (cB (cB c3))))))))))))) (Ann.fst (Ann.fst (Ann.snd (Ann.fst (Ann.snd (Ann.snd (Ann.snd (Ann.snd (Ann.unq (Ann.snd (Ann.snd (Ann.unq (Ann.snd (Ann.snd (Ann.snd an3))))))))))))))) (fun s => normC [4, 5, 17, 127, 128, 141, 142, 143, 146, 147, 148, 149, 150, 151, 152, 153, 154, 500269999] s K) (xb3_18 n) rt3 s
noncomputable def kq3_22 (n : Nat × Nat) (m1 m2 : Nat) : St → Option R3 := run (E3 n) (cB (cB (cB (cA (cA (cB (cA (cB (cB (cA (cA (cB (cB (cA (cA (cB (cA (cB (cB (cB (cB c3))))))))))))))))))))) (Ann.snd (Ann.snd (Ann.snd (Ann.fst (Ann.fst (Ann.snd (Ann.fst (Ann.snd (Ann.snd (Ann.fst (Ann.fst (Ann.snd (Ann.snd (Ann.fst (Ann.fst (Ann.snd (Ann.fst (Ann.snd (Ann.unq (Ann.snd (Ann.snd (Ann.snd an3)))))))))))))))))))))) (fun s => normC [3, 4, 5, 6, 7, 8, 27, 28, 29, 34, 35, 36, 50, 51, 52, 53, 54, 60, 95, 96, 99, 100, 103, 104, 107, 108, 109, 112, 113, 114, 115, 116, 117, 120, 121, 122, 123, 124, 141, 142, 143, 146, 147, 148, 149, 150, 151, 152, 153, 154, 500269999] s (loopN (F3_13 n m1) m2)) (xb3_12 n m1) rt3
noncomputable def L3_1 (n : Nat × Nat) (m : Nat) (v28 : Int) (v29 : Int) (l3 : List ByteArray) (b4_0 : Int) (want5 : List Int) (v500269999 : List (Int × Int)) : Option R3 := loopN (F3_4 n) m { tm := [uu, uu, uu, .own 3 none false, .ptr 4 0, .own 5 none false, uu, uu, uu, uu, uu, uu, uu, uu, uu, uu, uu, uu, uu, uu, uu, uu, uu, uu, uu, uu, uu, .own 3 none false, .c (.int .i64 v28), .c (.int .i64 v29), uu, uu, uu, uu, uu, uu, uu, uu, uu, uu, uu, uu, uu, uu, uu, uu, uu, uu, uu, uu, uu, uu, uu, uu, uu, uu, uu, uu, uu, uu, uu, uu, uu, uu, uu, uu, uu, uu, uu, uu, uu, uu, uu, uu, uu, uu, uu, uu, uu, uu, uu, uu, uu, uu, uu, uu, uu, uu, uu, uu, uu, uu, uu, uu, uu, uu, uu, uu, uu, uu, uu, uu, uu, uu, uu, uu, uu, uu, uu, uu, uu, uu, uu, uu, uu, uu, uu, uu, uu, uu, uu, uu, uu, uu, uu, uu, uu, uu, uu, uu, uu, uu, uu, uu, uu, uu, uu, uu, uu, uu, uu, uu, uu, uu, uu, uu, uu, uu, uu, uu, uu, uu, uu, uu, uu, uu, uu, uu], hp := (upd (upd (upd (upd emp 500269999 (.arr (.pair (.int .i64) (.int .i64)) v500269999 false)) 5 (.arr (.int .i64) want5 false)) 4 (.box [.int .i64 b4_0, .osl])) 3 (.arr .str l3 false)) }
noncomputable def L3_2 (n : Nat × Nat) (m1 : Nat) (m : Nat) (i6 : Int) (w7 : ByteArray) (least8 : Bool) (v28 : Int) (v29 : Int) (v35 : Int) (v36 : Int) (l3 : List ByteArray) (b4_0 : Int) (want5 : List Int) (v500269999 : List (Int × Int)) : Option R3 := loopN (F3_13 n m1) m { tm := [uu, uu, uu, .own 3 none false, .ptr 4 0, .own 5 none false, .c (.int .i64 i6), .c (.str w7), .c (.bool least8), uu, uu, uu, uu, uu, uu, uu, uu, uu, uu, uu, uu, uu, uu, uu, uu, uu, uu, .own 3 none false, .c (.int .i64 v28), .c (.int .i64 v29), uu, uu, uu, uu, .own 3 none false, .c (.int .i64 v35), .c (.int .i64 v36), uu, uu, uu, uu, uu, uu, uu, uu, uu, uu, uu, uu, uu, uu, uu, uu, uu, uu, uu, uu, uu, uu, uu, uu, uu, uu, uu, uu, uu, uu, uu, uu, uu, uu, uu, uu, uu, uu, uu, uu, uu, uu, uu, uu, uu, uu, uu, uu, uu, uu, uu, uu, uu, uu, uu, uu, uu, uu, uu, uu, uu, uu, uu, uu, uu, uu, uu, uu, uu, uu, uu, uu, uu, uu, uu, uu, uu, uu, uu, uu, uu, uu, uu, uu, uu, uu, uu, uu, uu, uu, uu, uu, uu, uu, uu, uu, uu, uu, uu, uu, uu, uu, uu, uu, uu, uu, uu, uu, uu, uu, uu, uu, uu, uu, uu, uu, uu, uu, uu, uu, uu], hp := (upd (upd (upd (upd emp 500269999 (.arr (.pair (.int .i64) (.int .i64)) v500269999 false)) 5 (.arr (.int .i64) want5 false)) 4 (.box [.int .i64 b4_0, .osl])) 3 (.arr .str l3 false)) }
noncomputable def L3_3 (n : Nat × Nat) (m : Nat) (v127 : Int) (v128 : Int) (b4_0 : Int) (b4_1 : List (Int × Int)) (want5 : List Int) (k17 : List Int) : Option R3 := loopN (F3_19 n) m { tm := [uu, uu, uu, uu, .ptr 4 0, .own 5 none false, uu, uu, uu, uu, uu, uu, uu, uu, uu, uu, uu, .own 17 none false, uu, uu, uu, uu, uu, uu, uu, uu, uu, uu, uu, uu, uu, uu, uu, uu, uu, uu, uu, uu, uu, uu, uu, uu, uu, uu, uu, uu, uu, uu, uu, uu, uu, uu, uu, uu, uu, uu, uu, uu, uu, uu, uu, uu, uu, uu, uu, uu, uu, uu, uu, uu, uu, uu, uu, uu, uu, uu, uu, uu, uu, uu, uu, uu, uu, uu, uu, uu, uu, uu, uu, uu, uu, uu, uu, uu, uu, uu, uu, uu, uu, uu, uu, uu, uu, uu, uu, uu, uu, uu, uu, uu, uu, uu, uu, uu, uu, uu, uu, uu, uu, uu, uu, uu, uu, uu, uu, uu, uu, .c (.int .i64 v127), .c (.int .i64 v128), uu, uu, uu, uu, uu, uu, uu, uu, uu, uu, uu, uu, uu, uu, uu, uu, uu, uu, uu, uu, uu, uu, uu, uu, uu, uu, uu, uu, uu], hp := (upd (upd (upd emp 17 (.arr (.int .i64) k17 false)) 5 (.arr (.int .i64) want5 false)) 4 (.box [.int .i64 b4_0, .sl (.pair (.int .i64) (.int .i64)) b4_1 false])) }
noncomputable def L3_4 (n : Nat × Nat) (m1 m2 : Nat) (i6 : Int) (w7 : ByteArray) (least8 : Bool) (v28 : Int) (v29 : Int) (v35 : Int) (v36 : Int) (l3 : List ByteArray) (b4_0 : Int) (want5 : List Int) (v500269999 : List (Int × Int)) : Option R3 := loopN (fun _ => (kq3_22 n m1 m2)) n.2 { tm := [uu, uu, uu, .own 3 none false, .ptr 4 0, .own 5 none false, .c (.int .i64 i6), .c (.str w7), .c (.bool least8), uu, uu, uu, uu, uu, uu, uu, uu, uu, uu, uu, uu, uu, uu, uu, uu, uu, uu, .own 3 none false, .c (.int .i64 v28), .c (.int .i64 v29), uu, uu, uu, uu, .own 3 none false, .c (.int .i64 v35), .c (.int .i64 v36), uu, uu, uu, uu, uu, uu, uu, uu, uu, uu, uu, uu, uu, uu, uu, uu, uu, uu, uu, uu, uu, uu, uu, uu, uu, uu, uu, uu, uu, uu, uu, uu, uu, uu, uu, uu, uu, uu, uu, uu, uu, uu, uu, uu, uu, uu, uu, uu, uu, uu, uu, uu, uu, uu, uu, uu, uu, uu, uu, uu, uu, uu, uu, uu, uu, uu, uu, uu, uu, uu, uu, uu, uu, uu, uu, uu, uu, uu, uu, uu, uu, uu, uu, uu, uu, uu, uu, uu, uu, uu, uu, uu, uu, uu, uu, uu, uu, uu, uu, uu, uu, uu, uu, uu, uu, uu, uu, uu, uu, uu, uu, uu, uu, uu, uu, uu, uu, uu, uu, uu, uu], hp := (upd (upd (upd (upd emp 500269999 (.arr (.pair (.int .i64) (.int .i64)) v500269999 false)) 5 (.arr (.int .i64) want5 false)) 4 (.box [.int .i64 b4_0, .osl])) 3 (.arr .str l3 false)) }
noncomputable def L3_5 (n : Nat × Nat) (m1 : Nat) (v28 : Int) (v29 : Int) (l3 : List ByteArray) (b4_0 : Int) (want5 : List Int) (v500269999 : List (Int × Int)) : Option R3 := loopN (fun _ => (kq3_7 n m1)) n.2 { tm := [uu, uu, uu, .own 3 none false, .ptr 4 0, .own 5 none false, uu, uu, uu, uu, uu, uu, uu, uu, uu, uu, uu, uu, uu, uu, uu, uu, uu, uu, uu, uu, uu, .own 3 none false, .c (.int .i64 v28), .c (.int .i64 v29), uu, uu, uu, uu, uu, uu, uu, uu, uu, uu, uu, uu, uu, uu, uu, uu, uu, uu, uu, uu, uu, uu, uu, uu, uu, uu, uu, uu, uu, uu, uu, uu, uu, uu, uu, uu, uu, uu, uu, uu, uu, uu, uu, uu, uu, uu, uu, uu, uu, uu, uu, uu, uu, uu, uu, uu, uu, uu, uu, uu, uu, uu, uu, uu, uu, uu, uu, uu, uu, uu, uu, uu, uu, uu, uu, uu, uu, uu, uu, uu, uu, uu, uu, uu, uu, uu, uu, uu, uu, uu, uu, uu, uu, uu, uu, uu, uu, uu, uu, uu, uu, uu, uu, uu, uu, uu, uu, uu, uu, uu, uu, uu, uu, uu, uu, uu, uu, uu, uu, uu, uu, uu, uu, uu, uu, uu, uu, uu], hp := (upd (upd (upd (upd emp 500269999 (.arr (.pair (.int .i64) (.int .i64)) v500269999 false)) 5 (.arr (.int .i64) want5 false)) 4 (.box [.int .i64 b4_0, .osl])) 3 (.arr .str l3 false)) }
theorem L3_1_eq (n : Nat × Nat) (m1 : Nat) (v28 : Int) (v29 : Int) (l3 : List ByteArray) (b4_0 : Int) (want5 : List Int) (v500269999 : List (Int × Int)) : L3_1 n (m1 + 1) v28 v29 l3 b4_0 want5 v500269999 =
 (bif decide (v29 < v28) then (bif inB v29 l3.length then (idx l3 v29).bind fun x2' =>
        L3_2 n m1 n.1 v29 x2' true v28 v29 (l3.length : Int) 0 l3 b4_0 want5 v500269999
 else none)
 else (S11 n (b4_0, v500269999)).bind fun r3' =>
 (S12 n (b4_0, v500269999)).bind fun r4' =>
 (S13 n (b4_0, v500269999)).bind fun r5' =>
 ((bif ((r3'.2 != 0) == false) then some (r4'.2 != 0)
 else some true)).bind fun b6' =>
 ((bif (b6' == false) then some (r5'.2 != 0)
 else some true)).bind fun b7' =>
 ((bif (b7' == false) then some (r4'.1 != 0)
 else some true)).bind fun b8' =>
 ((bif (b8' == false) then some ((r3'.1.length : Int) != 1)
 else some true)).bind fun b9' =>
 ((bif (b9' == false) then (bif inB 0 r3'.1.length then (idx r3'.1 0).bind fun x10' =>
 (S14 n x10' want5).bind fun r11' =>
 some (!r11')
 else none)
 else some true)).bind fun b12' =>
 ((bif (b12' == false) then some ((r5'.1.length : Int) != (l3.length : Int))
 else some true)).bind fun b13' =>
 (bif b13' then some false
 else L3_3 n n.1 (l3.length : Int) 0 b4_0 v500269999 want5 r5'.1)) := by kernel_rfl
theorem L3_2_eq (n : Nat × Nat) (m1 m2 : Nat) (i6 : Int) (w7 : ByteArray) (least8 : Bool) (v28 : Int) (v29 : Int) (v35 : Int) (v36 : Int) (l3 : List ByteArray) (b4_0 : Int) (want5 : List Int) (v500269999 : List (Int × Int)) : L3_2 n m1 (m2 + 1) i6 w7 least8 v28 v29 v35 v36 l3 b4_0 want5 v500269999 =
 (bif decide (v36 < v35) then (bif inB v36 l3.length then (idx l3 v36).bind fun x14' =>
 (S9 n w7 x14').bind fun r15' =>
 ((bif ((r15'.2 != 0) == false) then (S10 n w7 x14').bind fun r16' =>
 some (r15'.1 != r16')
 else some true)).bind fun b17' =>
 (bif b17' then some false
 else ((bif ((i6 != v36) == true) then some r15'.1
 else some false)).bind fun b18' =>
 (bif b18' then (bif decide (v500269999.length + [(i6, v36)].length ≤ lim) then L3_4 n m1 m2 i6 w7 false v28 v29 v35 v36 l3 b4_0 want5 (v500269999 ++ [(i6, v36)])
 else none)
 else L3_4 n m1 m2 i6 w7 least8 v28 v29 v35 v36 l3 b4_0 want5 v500269999))
 else none)
 else (bif least8 then (bif decide (want5.length + [i6].length ≤ lim) then L3_5 n m1 v28 v29 l3 b4_0 (want5 ++ [i6]) v500269999
 else none)
 else L3_5 n m1 v28 v29 l3 b4_0 want5 v500269999)) := by kernel_rfl
theorem L3_3_eq (n : Nat × Nat) (m1 : Nat) (v127 : Int) (v128 : Int) (b4_0 : Int) (b4_1 : List (Int × Int)) (want5 : List Int) (k17 : List Int) : L3_3 n (m1 + 1) v127 v128 b4_0 b4_1 want5 k17 =
 (bif decide (v128 < v127) then (S15 n (b4_0, b4_1) want5 v128).bind fun r19' =>
 ((bif ((r19'.2 != 0) == false) then some (decide ((r19'.1.length : Int) > 2))
 else some true)).bind fun b20' =>
 ((bif (b20' == false) then (bif inB v128 k17.length then (idx k17 v128).bind fun x21' =>
 some (((r19'.1.length : Int) == 1) != (x21' == 0))
 else none)
 else some true)).bind fun b22' =>
 (bif b22' then some false
 else L3_3 n m1 v127 (wr .i64 (v128 + 1)) b4_0 b4_1 want5 k17)
 else (S16 n).bind fun r23' =>
 some r23') := by kernel_rfl
theorem L3_4_raw (n : Nat × Nat) (m1 m2 : Nat) (i6 : Int) (w7 : ByteArray) (least8 : Bool) (v28 : Int) (v29 : Int) (v35 : Int) (v36 : Int) (l3 : List ByteArray) (b4_0 : Int) (want5 : List Int) (v500269999 : List (Int × Int)) : (kq3_22 n m1 m2) { tm := [uu, uu, uu, .own 3 none false, .ptr 4 0, .own 5 none false, .c (.int .i64 i6), .c (.str w7), .c (.bool least8), uu, uu, uu, uu, uu, uu, uu, uu, uu, uu, uu, uu, uu, uu, uu, uu, uu, uu, .own 3 none false, .c (.int .i64 v28), .c (.int .i64 v29), uu, uu, uu, uu, .own 3 none false, .c (.int .i64 v35), .c (.int .i64 v36), uu, uu, uu, uu, uu, uu, uu, uu, uu, uu, uu, uu, uu, uu, uu, uu, uu, uu, uu, uu, uu, uu, uu, uu, uu, uu, uu, uu, uu, uu, uu, uu, uu, uu, uu, uu, uu, uu, uu, uu, uu, uu, uu, uu, uu, uu, uu, uu, uu, uu, uu, uu, uu, uu, uu, uu, uu, uu, uu, uu, uu, uu, uu, uu, uu, uu, uu, uu, uu, uu, uu, uu, uu, uu, uu, uu, uu, uu, uu, uu, uu, uu, uu, uu, uu, uu, uu, uu, uu, uu, uu, uu, uu, uu, uu, uu, uu, uu, uu, uu, uu, uu, uu, uu, uu, uu, uu, uu, uu, uu, uu, uu, uu, uu, uu, uu, uu, uu, uu, uu, uu], hp := (upd (upd (upd (upd emp 500269999 (.arr (.pair (.int .i64) (.int .i64)) v500269999 false)) 5 (.arr (.int .i64) want5 false)) 4 (.box [.int .i64 b4_0, .osl])) 3 (.arr .str l3 false)) } =
    L3_2 n m1 m2 i6 w7 least8 v28 v29 v35 (wr .i64 (v36 + 1)) l3 b4_0 want5 v500269999 := by kernel_rfl
theorem L3_5_raw (n : Nat × Nat) (m1 : Nat) (v28 : Int) (v29 : Int) (l3 : List ByteArray) (b4_0 : Int) (want5 : List Int) (v500269999 : List (Int × Int)) : (kq3_7 n m1) { tm := [uu, uu, uu, .own 3 none false, .ptr 4 0, .own 5 none false, uu, uu, uu, uu, uu, uu, uu, uu, uu, uu, uu, uu, uu, uu, uu, uu, uu, uu, uu, uu, uu, .own 3 none false, .c (.int .i64 v28), .c (.int .i64 v29), uu, uu, uu, uu, uu, uu, uu, uu, uu, uu, uu, uu, uu, uu, uu, uu, uu, uu, uu, uu, uu, uu, uu, uu, uu, uu, uu, uu, uu, uu, uu, uu, uu, uu, uu, uu, uu, uu, uu, uu, uu, uu, uu, uu, uu, uu, uu, uu, uu, uu, uu, uu, uu, uu, uu, uu, uu, uu, uu, uu, uu, uu, uu, uu, uu, uu, uu, uu, uu, uu, uu, uu, uu, uu, uu, uu, uu, uu, uu, uu, uu, uu, uu, uu, uu, uu, uu, uu, uu, uu, uu, uu, uu, uu, uu, uu, uu, uu, uu, uu, uu, uu, uu, uu, uu, uu, uu, uu, uu, uu, uu, uu, uu, uu, uu, uu, uu, uu, uu, uu, uu, uu, uu, uu, uu, uu, uu, uu], hp := (upd (upd (upd (upd emp 500269999 (.arr (.pair (.int .i64) (.int .i64)) v500269999 false)) 5 (.arr (.int .i64) want5 false)) 4 (.box [.int .i64 b4_0, .osl])) 3 (.arr .str l3 false)) } =
    L3_1 n m1 v28 (wr .i64 (v29 + 1)) l3 b4_0 want5 v500269999 := by kernel_rfl
noncomputable def S3 (n : Nat × Nat) (words0 : (Int × Int × Int × Int × Int × Int) × (Int × Int × Int × Int × Int × Int) × (Int × Int × Int × Int × Int × Int) × (Int × Int × Int × Int × Int × Int) × (Int × Int × Int × Int × Int × Int) × (Int × Int × Int × Int × Int × Int) × (Int × Int × Int × Int × Int × Int) × Int × Int × Int × Int × Int × Int) : Option R3 := run (E3 n) c3 an3 rt3 (fun _ _ => none) rt3 { tm := [.agg [.int .u8 words0.1.1, .int .u8 words0.1.2.1, .int .u8 words0.1.2.2.1, .int .u8 words0.1.2.2.2.1, .int .u8 words0.1.2.2.2.2.1, .int .u8 words0.1.2.2.2.2.2, .int .u8 words0.2.1.1, .int .u8 words0.2.1.2.1, .int .u8 words0.2.1.2.2.1, .int .u8 words0.2.1.2.2.2.1, .int .u8 words0.2.1.2.2.2.2.1, .int .u8 words0.2.1.2.2.2.2.2, .int .u8 words0.2.2.1.1, .int .u8 words0.2.2.1.2.1, .int .u8 words0.2.2.1.2.2.1, .int .u8 words0.2.2.1.2.2.2.1, .int .u8 words0.2.2.1.2.2.2.2.1, .int .u8 words0.2.2.1.2.2.2.2.2, .int .u8 words0.2.2.2.1.1, .int .u8 words0.2.2.2.1.2.1, .int .u8 words0.2.2.2.1.2.2.1, .int .u8 words0.2.2.2.1.2.2.2.1, .int .u8 words0.2.2.2.1.2.2.2.2.1, .int .u8 words0.2.2.2.1.2.2.2.2.2, .int .u8 words0.2.2.2.2.1.1, .int .u8 words0.2.2.2.2.1.2.1, .int .u8 words0.2.2.2.2.1.2.2.1, .int .u8 words0.2.2.2.2.1.2.2.2.1, .int .u8 words0.2.2.2.2.1.2.2.2.2.1, .int .u8 words0.2.2.2.2.1.2.2.2.2.2, .int .u8 words0.2.2.2.2.2.1.1, .int .u8 words0.2.2.2.2.2.1.2.1, .int .u8 words0.2.2.2.2.2.1.2.2.1, .int .u8 words0.2.2.2.2.2.1.2.2.2.1, .int .u8 words0.2.2.2.2.2.1.2.2.2.2.1, .int .u8 words0.2.2.2.2.2.1.2.2.2.2.2, .int .u8 words0.2.2.2.2.2.2.1.1, .int .u8 words0.2.2.2.2.2.2.1.2.1, .int .u8 words0.2.2.2.2.2.2.1.2.2.1, .int .u8 words0.2.2.2.2.2.2.1.2.2.2.1, .int .u8 words0.2.2.2.2.2.2.1.2.2.2.2.1, .int .u8 words0.2.2.2.2.2.2.1.2.2.2.2.2, .int .u8 words0.2.2.2.2.2.2.2.1, .int .u8 words0.2.2.2.2.2.2.2.2.1, .int .u8 words0.2.2.2.2.2.2.2.2.2.1, .int .u8 words0.2.2.2.2.2.2.2.2.2.2.1, .int .u8 words0.2.2.2.2.2.2.2.2.2.2.2.1, .int .u8 words0.2.2.2.2.2.2.2.2.2.2.2.2], uu, uu, uu, uu, uu, uu, uu, uu, uu, uu, uu, uu, uu, uu, uu, uu, uu, uu, uu, uu, uu, uu, uu, uu, uu, uu, uu, uu, uu, uu, uu, uu, uu, uu, uu, uu, uu, uu, uu, uu, uu, uu, uu, uu, uu, uu, uu, uu, uu, uu, uu, uu, uu, uu, uu, uu, uu, uu, uu, uu, uu, uu, uu, uu, uu, uu, uu, uu, uu, uu, uu, uu, uu, uu, uu, uu, uu, uu, uu, uu, uu, uu, uu, uu, uu, uu, uu, uu, uu, uu, uu, uu, uu, uu, uu, uu, uu, uu, uu, uu, uu, uu, uu, uu, uu, uu, uu, uu, uu, uu, uu, uu, uu, uu, uu, uu, uu, uu, uu, uu, uu, uu, uu, uu, uu, uu, uu, uu, uu, uu, uu, uu, uu, uu, uu, uu, uu, uu, uu, uu, uu, uu, uu, uu, uu, uu, uu, uu, uu, uu, uu, uu, uu, uu, uu, uu, uu], hp := emp }
theorem S3_eq (n : Nat × Nat) (words0 : (Int × Int × Int × Int × Int × Int) × (Int × Int × Int × Int × Int × Int) × (Int × Int × Int × Int × Int × Int) × (Int × Int × Int × Int × Int × Int) × (Int × Int × Int × Int × Int × Int) × (Int × Int × Int × Int × Int × Int) × (Int × Int × Int × Int × Int × Int) × Int × Int × Int × Int × Int × Int) : S3 n words0 =
 (S8 n words0 6 5).bind fun r1' =>
    L3_1 n n.1 (r1'.length : Int) 0 r1' (r1'.length : Int) [] [] := by kernel_rfl
theorem S3_run (n : Nat × Nat) (xs : pksDen pk3) : S3 n xs.1 = runG (E3 n) noScope c3 an3 (rtG rk3) (fun _ _ => none) (rtG rk3) (st0 pk3 xs Tryd.f3.ntmps) := by kernel_rfl
noncomputable def P3 (n : Nat × Nat) := phiOf pk3 rk3 (fun xs => S3 n xs.1)
theorem env3 (n : Nat × Nat) : EnvOK Tryd.prog (E3 n) := envOK0 (consPhi_ok (FC8 n) call8 (consPhi_ok (FC9 n) call9 (consPhi_ok (FC10 n) call10 (consPhi_ok (FC11 n) call11 (consPhi_ok (FC12 n) call12 (consPhi_ok (FC13 n) call13 (consPhi_ok (FC14 n) call14 (consPhi_ok (FC15 n) call15 (consPhi_ok (FC16 n) call16 noPhi_ok))))))))) rfl rfl
theorem par3 (n : Nat × Nat) : EnvPar (E3 n) := envPar0 (consPhi_par phiOf_Par1 (consPhi_par phiOf_Par1 (consPhi_par phiOf_Par1 (consPhi_par phiOf_Par1 (consPhi_par phiOf_Par1 (consPhi_par phiOf_Par1 (consPhi_par phiOf_Par1 (consPhi_par phiOf_Par1 (consPhi_par phiOf_Par1 noPhi_par))))))))) rfl
theorem FC3 (n : Nat × Nat) : FCs Tryd.prog 3 (P3 n) := phiOf_FCs fun xs r h vs hv => FC.of_runG tabOK eqsOK (env3 n) (par3 n) mixed (fun _ p _ => noScope_ok p.1 p.2) Tryd.func3 (c := c3) (an := an3) (pks := pk3) (rks := rk3) (by kernel_rfl) (by kernel_rfl) hv ((S3_run n xs).symm.trans h)
/-D 64 -/
noncomputable def DF64_1 (n : Nat × Nat) (f1 : List ByteArray → ByteArray → Int → Int → Option R64) (s0 : List ByteArray) (v1 : ByteArray) (v7 : Int) (v8 : Int) : Option R64 :=
 (bif decide (v8 < v7) then (idx s0 v8).bind fun x1' =>
 (bif strEq v1 x1' then some v8
 else f1 s0 v1 v7 (wr .i64 (v8 + 1)))
 else some (-1))
noncomputable def DL64_1 (n : Nat × Nat) (m : Nat) : List ByteArray → ByteArray → Int → Int → Option R64 := Nat.rec (motive := fun _ => List ByteArray → ByteArray → Int → Int → Option R64) (fun _ _ _ _ => none) (fun _ ih => DF64_1 n ih) m
theorem DL64_1_succ (n : Nat × Nat) (m : Nat) : DL64_1 n (m + 1) = DF64_1 n (DL64_1 n m) := rfl
theorem DL64_1_eq (n : Nat × Nat) (hn : n.2 = 1) : ∀ m, L64_1 n m = DL64_1 n m
  | 0 => by funext s0 v1 v7 v8; kernel_rfl
  | m + 1 => by
    have ih := DL64_1_eq n hn m
    funext s0 v1 v7 v8; refine (L64_1_eq n m s0 v1 v7 v8).trans ?_
    rw [DL64_1_succ]
    unfold DF64_1
    (try simp only [ih]) <;> first | with_reducible rfl | rfl
noncomputable def D64 (n : Nat × Nat) (s0 : List ByteArray) (v1 : ByteArray) : Option R64 :=
    DL64_1 n n.1 s0 v1 (s0.length : Int) 0
theorem S64_D (n : Nat × Nat) (hn : n.2 = 1) : S64 n = D64 n := by
  funext s0 v1; refine (S64_eq n s0 v1).trans ?_
  unfold D64
  (try simp only [DL64_1_eq n hn]) <;> first | with_reducible rfl | rfl
/-D 30 -/
noncomputable def D30 (n : Nat × Nat) (s0 : List ByteArray) (v1 : ByteArray) : Option R30 :=
 (D64 n s0 v1).bind fun r1' =>
 some (decide (r1' ≥ 0))
theorem S30_D (n : Nat × Nat) (hn : n.2 = 1) : S30 n = D30 n := by
  funext s0 v1; refine (S30_eq n s0 v1).trans ?_
  unfold D30
  (try simp only [S64_D n hn]) <;> first | with_reducible rfl | rfl
end Go.Proofs.YtkfkbebinhkdlaaDoor
