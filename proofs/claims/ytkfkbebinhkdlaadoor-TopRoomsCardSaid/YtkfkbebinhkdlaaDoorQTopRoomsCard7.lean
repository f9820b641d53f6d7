/- Texts of this claim, joined: G65 to Tc. -/
import Derived.KernelRfl
import Derived.Test.YtkfkbebinhkdlaaDoorProg
import Derived.WalkKit
import Derived.Test.YtkfkbebinhkdlaaDoorQTopRoomsCard6
set_option linter.unusedVariables false
set_option linter.unusedSimpArgs false
set_option maxRecDepth 100000
namespace Go.Proofs.YtkfkbebinhkdlaaDoor
open Go.Vi
abbrev R65 := Int
noncomputable def c65 : Code := bodyOf Tryd.f65
noncomputable def an65 : Ann := (.s .l (.s (.s .l (.j [0, 16, 17] .l .l)) (.s (.s .l (.j [] (.j [9, 16, 17] (.s .l (.s (.j [9, 10, 16, 17] .l .l) (.j [9, 16, 17] (.s .l (.s .l (.j [9, 16, 17] .l .l))) .l))) .l) .l)) .l)))
def pk65 : List PK := [.c .str]
def rk65 : List RK := [.c (.int .i64) 2]
noncomputable def rt65 (st : St) : Option R65 := rtG rk65 st
noncomputable def E65 (n : Nat × Nat) : Env := { T := tab, phi := noPhi, eff := fun _ => false, fuel := n.1, hold := n.2 }
noncomputable def kq65_3 (n : Nat × Nat) : St → Option R65 := run (E65 n) (cB (cB (cB c65))) (Ann.snd (Ann.snd (Ann.snd an65))) rt65 (fun _ _ => none) rt65
noncomputable def xb65_5 (n : Nat × Nat) : Nat → St → Option R65 := fun j s => bif Nat.beq j 0 then normC [] s (kq65_3 n) else (fun _ _ => none) j s
noncomputable def F65_6 (n : Nat × Nat) : (St → Option R65) → St → Option R65 := fun K s => run (E65 n) (cA (cA (cB (cA (cB (cB c65)))))) (Ann.fst (Ann.fst (Ann.snd (Ann.fst (Ann.snd (Ann.snd an65)))))) (fun s => normC [9, 16, 17] s K) (xb65_5 n) rt65 s
noncomputable def L65_1 (n : Nat × Nat) (m : Nat) (v9s : ByteArray) (v9p : Nat) : Option R65 := loopN (F65_6 n) m { tm := [uu, uu, uu, uu, uu, uu, uu, uu, uu, .ptr 9 0, uu, uu, uu, uu, uu, uu, uu, uu, uu], hp := (upd emp 9 (.iter v9s v9p)) }
theorem L65_1_eq (n : Nat × Nat) (m1 : Nat) (v9s : ByteArray) (v9p : Nat) : L65_1 n (m1 + 1) v9s v9p =
 (bif Nat.blt v9p v9s.size then ((strBytes v9s)[v9p]?).bind fun x1' =>
 (bif decide (x1' < 128) then ((bif (decide (x1' < 97) == false) then some (decide (x1' ≥ 103))
 else some true)).bind fun b2' =>
 (bif b2' then some 10
 else L65_1 n m1 v9s (v9p + 1))
 else none)
 else some 0) := by kernel_rfl
noncomputable def S65 (n : Nat × Nat) (word0 : ByteArray) : Option R65 := run (E65 n) c65 an65 rt65 (fun _ _ => none) rt65 { tm := [.c (.str word0), uu, uu, uu, uu, uu, uu, uu, uu, uu, uu, uu, uu, uu, uu, uu, uu, uu, uu], hp := emp }
theorem S65_eq (n : Nat × Nat) (word0 : ByteArray) : S65 n word0 =
 (bif decide ((word0.size : Int) > 10) then some 19
 else L65_1 n n.1 word0 0) := by kernel_rfl
theorem S65_run (n : Nat × Nat) (xs : pksDen pk65) : S65 n xs.1 = runG (E65 n) noScope c65 an65 (rtG rk65) (fun _ _ => none) (rtG rk65) (st0 pk65 xs Tryd.f65.ntmps) := by kernel_rfl
noncomputable def P65 (n : Nat × Nat) := phiOf pk65 rk65 (fun xs => S65 n xs.1)
theorem call65 : CallOK Tryd.prog 65 := callOK_of Tryd.func65 (by kernel_rfl) (by kernel_rfl)
theorem env65 (n : Nat × Nat) : EnvOK Tryd.prog (E65 n) := envOK0 noPhi_ok rfl rfl
theorem par65 (n : Nat × Nat) : EnvPar (E65 n) := envPar0 noPhi_par rfl
theorem FC65 (n : Nat × Nat) : FCs Tryd.prog 65 (P65 n) := phiOf_FCs fun xs r h vs hv => FC.of_runG tabOK eqsOK (env65 n) (par65 n) mixed (fun _ p _ => noScope_ok p.1 p.2) Tryd.func65 (c := c65) (an := an65) (pks := pk65) (rks := rk65) (by kernel_rfl) (by kernel_rfl) hv ((S65_run n xs).symm.trans h)
abbrev R31 := Int
noncomputable def c31 : Code := bodyOf Tryd.f31
noncomputable def an31 : Ann := (.s .l (.s (.s .l (.j [] (.j [6, 7, 8] (.s .l (.s (.j [6, 7, 8] .l .l) (.s (.j [6, 7, 8] (.s .l (.s .l (.s .l (.j [6, 7, 8] .l .l)))) .l) .l))) .l) .l)) .l))
def pk31 : List PK := [.c (.sl .str)]
def rk31 : List RK := [.c (.int .i64) 2]
noncomputable def rt31 (st : St) : Option R31 := rtG rk31 st
noncomputable def E31 (n : Nat × Nat) : Env := { T := tab, phi := (consPhi 65 (fun _ => true) (P65 n) noPhi), eff := fun _ => false, fuel := n.1, hold := n.2 }
noncomputable def kq31_1 (n : Nat × Nat) : St → Option R31 := run (E31 n) (cB (cB c31)) (Ann.snd (Ann.snd an31)) rt31 (fun _ _ => none) rt31
noncomputable def xb31_3 (n : Nat × Nat) : Nat → St → Option R31 := fun j s => bif Nat.beq j 0 then normC [] s (kq31_1 n) else (fun _ _ => none) j s
noncomputable def F31_4 (n : Nat × Nat) : (St → Option R31) → St → Option R31 := fun K s => run (E31 n) (cA (cA (cB (cA (cB c31))))) (Ann.fst (Ann.fst (Ann.snd (Ann.fst (Ann.snd an31))))) (fun s => normC [6, 7, 8] s K) (xb31_3 n) rt31 s
noncomputable def L31_1 (n : Nat × Nat) (m : Nat) (v6 : List ByteArray) (v7 : Int) (v8 : Int) : Option R31 := loopN (F31_4 n) m { tm := [uu, uu, uu, uu, uu, uu, .c (.sl .str v6 false), .c (.int .i64 v7), .c (.int .i64 v8), uu, uu, uu, uu, uu, uu, uu, uu, uu], hp := emp }
theorem L31_1_eq (n : Nat × Nat) (m1 : Nat) (v6 : List ByteArray) (v7 : Int) (v8 : Int) : L31_1 n (m1 + 1) v6 v7 v8 =
 (bif decide (v8 < v7) then (idx v6 v8).bind fun x1' =>
 (S65 n x1').bind fun r2' =>
 (bif (r2' != 0) then some r2'
 else L31_1 n m1 v6 v7 (wr .i64 (v8 + 1)))
 else some 0) := by kernel_rfl
noncomputable def S31 (n : Nat × Nat) (words0 : List ByteArray) : Option R31 := run (E31 n) c31 an31 rt31 (fun _ _ => none) rt31 { tm := [.c (.sl .str words0 false), uu, uu, uu, uu, uu, uu, uu, uu, uu, uu, uu, uu, uu, uu, uu, uu, uu], hp := emp }
theorem S31_eq (n : Nat × Nat) (words0 : List ByteArray) : S31 n words0 =
    L31_1 n n.1 words0 (words0.length : Int) 0 := by kernel_rfl
theorem S31_run (n : Nat × Nat) (xs : pksDen pk31) : S31 n xs.1 = runG (E31 n) noScope c31 an31 (rtG rk31) (fun _ _ => none) (rtG rk31) (st0 pk31 xs Tryd.f31.ntmps) := by kernel_rfl
noncomputable def P31 (n : Nat × Nat) := phiOf pk31 rk31 (fun xs => S31 n xs.1)
theorem call31 : CallOK Tryd.prog 31 := callOK_of Tryd.func31 (by kernel_rfl) (by kernel_rfl)
theorem env31 (n : Nat × Nat) : EnvOK Tryd.prog (E31 n) := envOK0 (consPhi_ok (FC65 n) call65 noPhi_ok) rfl rfl
theorem par31 (n : Nat × Nat) : EnvPar (E31 n) := envPar0 (consPhi_par phiOf_Par1 noPhi_par) rfl
theorem FC31 (n : Nat × Nat) : FCs Tryd.prog 31 (P31 n) := phiOf_FCs fun xs r h vs hv => FC.of_runG tabOK eqsOK (env31 n) (par31 n) mixed (fun _ p _ => noScope_ok p.1 p.2) Tryd.func31 (c := c31) (an := an31) (pks := pk31) (rks := rk31) (by kernel_rfl) (by kernel_rfl) hv ((S31_run n xs).symm.trans h)
abbrev R75 := Int × Int
noncomputable def c75 : Code := bodyOf Tryd.f75
noncomputable def an75 : Ann := (.s .l (.s (.s .l (.s .l (.j [0, 1] .l .l))) (.s .l (.s .l (.s (.s .l (.j [1, 7] (.j [1, 7, 25, 26, 27] (.s .l (.s (.j [1, 7, 25, 26, 27] .l .l) (.s (.j [1, 7, 25, 26, 27] (.s .l (.s .l (.j [1, 7, 25, 26, 27] (.j [1, 7, 9, 10, 25, 26, 27] (.s (.s .l (.j [1, 7, 9, 10, 25, 26, 27] .l .l)) (.j [] (.j [1, 7, 9, 10, 25, 26, 27] (.s .l (.j [1, 7, 9, 10, 25, 26, 27] .l .l)) .l) .l)) .l) .l))) .l) .l))) .l) .l)) .l)))))
def pk75 : List PK := [.c .str, .c .str]
def rk75 : List RK := [.c (.int .i64) 4, .c (.int .i64) 5]
noncomputable def rt75 (st : St) : Option R75 := rtG rk75 st
noncomputable def E75 (n : Nat × Nat) : Env := { T := tab, phi := (consPhi 31 (fun _ => true) (P31 n) noPhi), eff := fun _ => false, fuel := n.1, hold := n.2 }
noncomputable def kq75_3 (n : Nat × Nat) : St → Option R75 := run (E75 n) (cB (cB (cB (cB (cB c75))))) (Ann.snd (Ann.snd (Ann.snd (Ann.snd (Ann.snd an75))))) rt75 (fun _ _ => none) rt75
noncomputable def xb75_5 (n : Nat × Nat) : Nat → St → Option R75 := fun j s => bif Nat.beq j 0 then normC [1, 7] s (kq75_3 n) else (fun _ _ => none) j s
noncomputable def F75_6 (n : Nat × Nat) : (St → Option R75) → St → Option R75 := fun K s => run (E75 n) (cA (cA (cB (cA (cB (cB (cB (cB c75)))))))) (Ann.fst (Ann.fst (Ann.snd (Ann.fst (Ann.snd (Ann.snd (Ann.snd (Ann.snd an75)))))))) (fun s => normC [1, 7, 25, 26, 27] s K) (xb75_5 n) rt75 s
noncomputable def kq75_9 (n : Nat × Nat) (m1 : Nat) : St → Option R75 := run (E75 n) (cB (cB (cB (cA (cA (cB (cA (cB (cB (cB (cB c75))))))))))) (Ann.snd (Ann.snd (Ann.snd (Ann.fst (Ann.fst (Ann.snd (Ann.fst (Ann.snd (Ann.snd (Ann.snd (Ann.snd an75))))))))))) (fun s => normC [1, 7, 25, 26, 27] s (loopN (F75_6 n) m1)) (xb75_5 n) rt75
noncomputable def kc75_10 (n : Nat × Nat) (m1 : Nat) : St → Option R75 := fun s => normC [1, 7, 25, 26, 27] s (kq75_9 n m1)
noncomputable def xb75_11 (n : Nat × Nat) (m1 : Nat) : Nat → St → Option R75 := fun j s => bif Nat.beq j 1 then normC [1, 7, 25, 26, 27] s (kq75_9 n m1) else (xb75_5 n) j s
noncomputable def xb75_13 (n : Nat × Nat) (m1 : Nat) : Nat → St → Option R75 := fun j s => bif Nat.beq j 2 then normC [1, 7, 25, 26, 27] s (kc75_10 n m1) else (xb75_11 n m1) j s
noncomputable def F75_14 (n : Nat × Nat) (m1 : Nat) : (St → Option R75) → St → Option R75 := fun K s => run (E75 n) (cA (cA (cB (cB (cA (cA (cB (cB (cA (cA (cB (cA (cB (cB (cB (cB c75)))))))))))))))) (Ann.fst (Ann.fst (Ann.snd (Ann.snd (Ann.fst (Ann.fst (Ann.snd (Ann.snd (Ann.fst (Ann.fst (Ann.snd (Ann.fst (Ann.snd (Ann.snd (Ann.snd (Ann.snd an75)))))))))))))))) (fun s => normC [1, 7, 9, 10, 25, 26, 27] s K) (xb75_13 n m1) rt75 s
noncomputable def kq75_17 (n : Nat × Nat) (m1 m2 : Nat) : St → Option R75 := run (E75 n) (cB (cB (cA (cA (cB (cB (cA (cA (cB (cB (cA (cA (cB (cA (cB (cB (cB (cB c75)))))))))))))))))) (Ann.snd (Ann.snd (Ann.fst (Ann.fst (Ann.snd (Ann.snd (Ann.fst (Ann.fst (Ann.snd (Ann.snd (Ann.fst (Ann.fst (Ann.snd (Ann.fst (Ann.snd (Ann.snd (Ann.snd (Ann.snd an75)))))))))))))))))) (fun s => normC [1, 7, 9, 10, 25, 26, 27] s (loopN (F75_14 n m1) m2)) (xb75_13 n m1) rt75
noncomputable def L75_1 (n : Nat × Nat) (m : Nat) (part1 : ByteArray) (v25 : List Int) (v26 : Int) (v27 : Int) (begun7 : List Int) : Option R75 := loopN (F75_6 n) m { tm := [uu, .c (.str part1), uu, uu, uu, uu, uu, .own 7 none false, uu, uu, uu, uu, uu, uu, uu, uu, uu, uu, uu, uu, uu, uu, uu, uu, uu, .c (.sl (.int .u8) v25 false), .c (.int .i64 v26), .c (.int .i64 v27), uu, uu, uu, uu, uu, uu, uu, uu, uu, uu, uu, uu, uu, uu, uu, uu, uu, uu, uu, uu, uu, uu, uu, uu, uu, uu, uu, uu, uu, uu, uu, uu], hp := (upd emp 7 (.arr (.int .i64) begun7 false)) }
noncomputable def L75_2 (n : Nat × Nat) (m1 : Nat) (m : Nat) (part1 : ByteArray) (c9 : Int) (k10 : Int) (v25 : List Int) (v26 : Int) (v27 : Int) (begun7 : List Int) : Option R75 := loopN (F75_14 n m1) m { tm := [uu, .c (.str part1), uu, uu, uu, uu, uu, .own 7 none false, uu, .c (.int .u8 c9), .c (.int .i64 k10), uu, uu, uu, uu, uu, uu, uu, uu, uu, uu, uu, uu, uu, uu, .c (.sl (.int .u8) v25 false), .c (.int .i64 v26), .c (.int .i64 v27), uu, uu, uu, uu, uu, uu, uu, uu, uu, uu, uu, uu, uu, uu, uu, uu, uu, uu, uu, uu, uu, uu, uu, uu, uu, uu, uu, uu, uu, uu, uu, uu], hp := (upd emp 7 (.arr (.int .i64) begun7 false)) }
noncomputable def L75_3 (n : Nat × Nat) (m1 m2 : Nat) (part1 : ByteArray) (c9 : Int) (k10 : Int) (v25 : List Int) (v26 : Int) (v27 : Int) (begun7 : List Int) : Option R75 := loopN (fun _ => (kq75_17 n m1 m2)) n.2 { tm := [uu, .c (.str part1), uu, uu, uu, uu, uu, .own 7 none false, uu, .c (.int .u8 c9), .c (.int .i64 k10), uu, uu, uu, uu, uu, uu, uu, uu, uu, uu, uu, uu, uu, uu, .c (.sl (.int .u8) v25 false), .c (.int .i64 v26), .c (.int .i64 v27), uu, uu, uu, uu, uu, uu, uu, uu, uu, uu, uu, uu, uu, uu, uu, uu, uu, uu, uu, uu, uu, uu, uu, uu, uu, uu, uu, uu, uu, uu, uu, uu], hp := (upd emp 7 (.arr (.int .i64) begun7 false)) }
theorem L75_1_eq (n : Nat × Nat) (m1 : Nat) (part1 : ByteArray) (v25 : List Int) (v26 : Int) (v27 : Int) (begun7 : List Int) : L75_1 n (m1 + 1) part1 v25 v26 v27 begun7 =
 (bif decide (v27 < v26) then (idx v25 v27).bind fun x3' =>
      L75_2 n m1 n.1 part1 x3' (part1.size : Int) v25 v26 v27 begun7
 else (bif inB (part1.size : Int) begun7.length then (idx begun7 (part1.size : Int)).bind fun x4' =>
 some (x4', 0)
 else none)) := by kernel_rfl
theorem L75_2_eq (n : Nat × Nat) (m1 m2 : Nat) (part1 : ByteArray) (c9 : Int) (k10 : Int) (v25 : List Int) (v26 : Int) (v27 : Int) (begun7 : List Int) : L75_2 n m1 (m2 + 1) part1 c9 k10 v25 v26 v27 begun7 =
 (bif decide (k10 > 0) then (idx (strBytes part1) (wr .i64 (k10 - 1))).bind fun x5' =>
 (bif (x5' == c9) then (bif inB k10 begun7.length then (idx begun7 k10).bind fun x6' =>
 (bif inB (wr .i64 (k10 - 1)) begun7.length then (idx begun7 (wr .i64 (k10 - 1))).bind fun x7' =>
 (bif inB k10 begun7.length then (idx begun7 k10).bind fun x8' =>
              L75_3 n m1 m2 part1 c9 k10 v25 v26 v27 (begun7.set (Int.toNat k10) (wr .i64 (x6' + x7')))
 else none)
 else none)
 else none)
 else L75_3 n m1 m2 part1 c9 k10 v25 v26 v27 begun7)
 else L75_1 n m1 part1 v25 v26 (wr .i64 (v27 + 1)) begun7) := by kernel_rfl
theorem L75_3_raw (n : Nat × Nat) (m1 m2 : Nat) (part1 : ByteArray) (c9 : Int) (k10 : Int) (v25 : List Int) (v26 : Int) (v27 : Int) (begun7 : List Int) : (kq75_17 n m1 m2) { tm := [uu, .c (.str part1), uu, uu, uu, uu, uu, .own 7 none false, uu, .c (.int .u8 c9), .c (.int .i64 k10), uu, uu, uu, uu, uu, uu, uu, uu, uu, uu, uu, uu, uu, uu, .c (.sl (.int .u8) v25 false), .c (.int .i64 v26), .c (.int .i64 v27), uu, uu, uu, uu, uu, uu, uu, uu, uu, uu, uu, uu, uu, uu, uu, uu, uu, uu, uu, uu, uu, uu, uu, uu, uu, uu, uu, uu, uu, uu, uu, uu], hp := (upd emp 7 (.arr (.int .i64) begun7 false)) } =
    L75_2 n m1 m2 part1 c9 (wr .i64 (k10 - 1)) v25 v26 v27 begun7 := by kernel_rfl
noncomputable def S75 (n : Nat × Nat) (word0 : ByteArray) (part1 : ByteArray) : Option R75 := run (E75 n) c75 an75 rt75 (fun _ _ => none) rt75 { tm := [.c (.str word0), .c (.str part1), uu, uu, uu, uu, uu, uu, uu, uu, uu, uu, uu, uu, uu, uu, uu, uu, uu, uu, uu, uu, uu, uu, uu, uu, uu, uu, uu, uu, uu, uu, uu, uu, uu, uu, uu, uu, uu, uu, uu, uu, uu, uu, uu, uu, uu, uu, uu, uu, uu, uu, uu, uu, uu, uu, uu, uu, uu, uu], hp := emp }
theorem S75_eq (n : Nat × Nat) (word0 : ByteArray) (part1 : ByteArray) : S75 n word0 part1 =
 (S31 n [word0, part1]).bind fun r1' =>
 (bif (r1' != 0) then some (0, r1')
 else (bif decide (0 ≤ wr .i64 ((part1.size : Int) + 1)) && decide (wr .i64 ((part1.size : Int) + 1) ≤ wr .i64 ((part1.size : Int) + 1)) && decide (wr .i64 ((part1.size : Int) + 1) ≤ lim) then (bif inB 0 (List.replicate (Int.toNat (wr .i64 ((part1.size : Int) + 1))) (0 : Int)).length then (idx (List.replicate (Int.toNat (wr .i64 ((part1.size : Int) + 1))) (0 : Int)) 0).bind fun x2' =>
          L75_1 n n.1 part1 (strBytes word0) ((strBytes word0).length : Int) 0 ((List.replicate (Int.toNat (wr .i64 ((part1.size : Int) + 1))) (0 : Int)).set (Int.toNat 0) 1)
 else none)
 else none)) := by kernel_rfl
theorem S75_run (n : Nat × Nat) (xs : pksDen pk75) : S75 n xs.1 xs.2.1 = runG (E75 n) noScope c75 an75 (rtG rk75) (fun _ _ => none) (rtG rk75) (st0 pk75 xs Tryd.f75.ntmps) := by kernel_rfl
noncomputable def P75 (n : Nat × Nat) := phiOf pk75 rk75 (fun xs => S75 n xs.1 xs.2.1)
theorem call75 : CallOK Tryd.prog 75 := callOK_of Tryd.func75 (by kernel_rfl) (by kernel_rfl)
theorem env75 (n : Nat × Nat) : EnvOK Tryd.prog (E75 n) := envOK0 (consPhi_ok (FC31 n) call31 noPhi_ok) rfl rfl
theorem par75 (n : Nat × Nat) : EnvPar (E75 n) := envPar0 (consPhi_par phiOf_Par1 noPhi_par) rfl
theorem FC75 (n : Nat × Nat) : FCs Tryd.prog 75 (P75 n) := phiOf_FCs fun xs r h vs hv => FC.of_runG tabOK eqsOK (env75 n) (par75 n) mixed (fun _ p _ => noScope_ok p.1 p.2) Tryd.func75 (c := c75) (an := an75) (pks := pk75) (rks := rk75) (by kernel_rfl) (by kernel_rfl) hv ((S75_run n xs).symm.trans h)
abbrev R105 := Int
noncomputable def c105 : Code := bodyOf Tryd.f105
noncomputable def an105 : Ann := (.s .l (.s (.s .l (.j [0, 1] (.s .l (.j [0, 1] .l (.s .l (.j [0, 1] .l .l)))) .l)) (.s (.s .l (.j [] (.j [1, 22] (.s .l (.s (.j [1, 22, 23] .l .l) (.j [1, 22] (.s .l (.s .l (.j [1, 22] .l .l))) .l))) .l) .l)) .l)))
def pk105 : List PK := [.c .str, .c (.int .i64)]
def rk105 : List RK := [.c (.int .i64) 4]
noncomputable def rt105 (st : St) : Option R105 := rtG rk105 st
noncomputable def E105 (n : Nat × Nat) : Env := { T := tab, phi := (consPhi 65 (fun _ => true) (P65 n) noPhi), eff := fun _ => false, fuel := n.1, hold := n.2 }
noncomputable def kq105_6 (n : Nat × Nat) : St → Option R105 := run (E105 n) (cB (cB (cB c105))) (Ann.snd (Ann.snd (Ann.snd an105))) rt105 (fun _ _ => none) rt105
noncomputable def xb105_8 (n : Nat × Nat) : Nat → St → Option R105 := fun j s => bif Nat.beq j 1 then normC [] s (kq105_6 n) else (fun _ _ => none) j s
noncomputable def F105_9 (n : Nat × Nat) : (St → Option R105) → St → Option R105 := fun K s => run (E105 n) (cA (cA (cB (cA (cB (cB c105)))))) (Ann.fst (Ann.fst (Ann.snd (Ann.fst (Ann.snd (Ann.snd an105)))))) (fun s => normC [1, 22] s K) (xb105_8 n) rt105 s
noncomputable def L105_1 (n : Nat × Nat) (m : Nat) (letters1 : Int) (v22s : ByteArray) (v22p : Nat) : Option R105 := loopN (F105_9 n) m { tm := [uu, .c (.int .i64 letters1), uu, uu, uu, uu, uu, uu, uu, uu, uu, uu, uu, uu, uu, uu, uu, uu, uu, uu, uu, uu, .ptr 22 0, uu, uu, uu, uu, uu, uu, uu, uu], hp := (upd emp 22 (.iter v22s v22p)) }
theorem L105_1_eq (n : Nat × Nat) (m1 : Nat) (letters1 : Int) (v22s : ByteArray) (v22p : Nat) : L105_1 n (m1 + 1) letters1 v22s v22p =
 (bif Nat.blt v22p v22s.size then ((strBytes v22s)[v22p]?).bind fun x3' =>
 (bif decide (x3' < 128) then (bif decide (x3' ≥ wr .i32 (97 + (wr .i32 letters1))) then some 2
 else L105_1 n m1 letters1 v22s (v22p + 1))
 else none)
 else some 0) := by kernel_rfl
noncomputable def S105 (n : Nat × Nat) (word0 : ByteArray) (letters1 : Int) : Option R105 := run (E105 n) c105 an105 rt105 (fun _ _ => none) rt105 { tm := [.c (.str word0), .c (.int .i64 letters1), uu, uu, uu, uu, uu, uu, uu, uu, uu, uu, uu, uu, uu, uu, uu, uu, uu, uu, uu, uu, uu, uu, uu, uu, uu, uu, uu, uu, uu], hp := emp }
theorem S105_eq (n : Nat × Nat) (word0 : ByteArray) (letters1 : Int) : S105 n word0 letters1 =
 (S65 n word0).bind fun r1' =>
 (bif (r1' != 0) then some r1'
 else ((bif (decide (letters1 < 1) == false) then some (decide (letters1 > 6))
 else some true)).bind fun b2' =>
 (bif b2' then some 1
 else L105_1 n n.1 letters1 word0 0)) := by kernel_rfl
theorem S105_run (n : Nat × Nat) (xs : pksDen pk105) : S105 n xs.1 xs.2.1 = runG (E105 n) noScope c105 an105 (rtG rk105) (fun _ _ => none) (rtG rk105) (st0 pk105 xs Tryd.f105.ntmps) := by kernel_rfl
noncomputable def P105 (n : Nat × Nat) := phiOf pk105 rk105 (fun xs => S105 n xs.1 xs.2.1)
theorem call105 : CallOK Tryd.prog 105 := callOK_of Tryd.func105 (by kernel_rfl) (by kernel_rfl)
theorem env105 (n : Nat × Nat) : EnvOK Tryd.prog (E105 n) := envOK0 (consPhi_ok (FC65 n) call65 noPhi_ok) rfl rfl
theorem par105 (n : Nat × Nat) : EnvPar (E105 n) := envPar0 (consPhi_par phiOf_Par1 noPhi_par) rfl
theorem FC105 (n : Nat × Nat) : FCs Tryd.prog 105 (P105 n) := phiOf_FCs fun xs r h vs hv => FC.of_runG tabOK eqsOK (env105 n) (par105 n) mixed (fun _ p _ => noScope_ok p.1 p.2) Tryd.func105 (c := c105) (an := an105) (pks := pk105) (rks := rk105) (by kernel_rfl) (by kernel_rfl) hv ((S105_run n xs).symm.trans h)
abbrev R106 := List Int
noncomputable def c106 : Code := bodyOf Tryd.f106
noncomputable def an106 : Ann := (.s .l (.s .l (.s .l (.s (.s .l (.j [5] (.j [1, 5, 6, 11] (.s .l (.s (.j [1, 5, 6, 11, 12] .l .l) (.j [1, 5, 6, 11] (.s .l (.s .l (.s .l (.j [1, 5, 6, 11] .l .l)))) .l))) .l) .l)) .l))))
def pk106 : List PK := [.c .str, .c (.int .i64)]
def rk106 : List RK := [.own (.int .i64) 4]
noncomputable def rt106 (st : St) : Option R106 := rtG rk106 st
noncomputable def E106 (n : Nat × Nat) : Env := { T := tab, phi := noPhi, eff := fun _ => false, fuel := n.1, hold := n.2 }
noncomputable def kq106_1 (n : Nat × Nat) : St → Option R106 := run (E106 n) (cB (cB (cB (cB c106)))) (Ann.snd (Ann.snd (Ann.snd (Ann.snd an106)))) rt106 (fun _ _ => none) rt106
noncomputable def xb106_3 (n : Nat × Nat) : Nat → St → Option R106 := fun j s => bif Nat.beq j 0 then normC [5] s (kq106_1 n) else (fun _ _ => none) j s
noncomputable def F106_4 (n : Nat × Nat) : (St → Option R106) → St → Option R106 := fun K s => run (E106 n) (cA (cA (cB (cA (cB (cB (cB c106))))))) (Ann.fst (Ann.fst (Ann.snd (Ann.fst (Ann.snd (Ann.snd (Ann.snd an106))))))) (fun s => normC [1, 5, 6, 11] s K) (xb106_3 n) rt106 s
noncomputable def L106_1 (n : Nat × Nat) (m : Nat) (letters1 : Int) (out5 : List Int) (met6 : List (Int × Bool)) (v11s : ByteArray) (v11p : Nat) : Option R106 := loopN (F106_4 n) m { tm := [uu, .c (.int .i64 letters1), uu, uu, uu, .own 5 none false, .map 6, uu, uu, uu, uu, .ptr 11 0, uu, uu, uu, uu, uu, uu, uu, uu, uu, uu, uu, uu, uu, uu, uu, uu, uu], hp := (upd (upd (upd emp 11 (.iter v11s v11p)) 6 (.mp .i32 .bool met6)) 5 (.arr (.int .i64) out5 false)) }
theorem L106_1_eq (n : Nat × Nat) (m1 : Nat) (letters1 : Int) (out5 : List Int) (met6 : List (Int × Bool)) (v11s : ByteArray) (v11p : Nat) : L106_1 n (m1 + 1) letters1 out5 met6 v11s v11p =
 (bif Nat.blt v11p v11s.size then ((strBytes v11s)[v11p]?).bind fun x1' =>
 (bif decide (x1' < 128) then (bif (((aset met6 x1' true).length : Int) == letters1) then (bif decide (out5.length + [wr .i64 ((v11p : Int) + 1)].length ≤ lim) then L106_1 n m1 letters1 (out5 ++ [wr .i64 ((v11p : Int) + 1)]) [] v11s (v11p + 1)
 else none)
 else L106_1 n m1 letters1 out5 (aset met6 x1' true) v11s (v11p + 1))
 else none)
 else some out5) := by kernel_rfl
noncomputable def S106 (n : Nat × Nat) (word0 : ByteArray) (letters1 : Int) : Option R106 := run (E106 n) c106 an106 rt106 (fun _ _ => none) rt106 { tm := [.c (.str word0), .c (.int .i64 letters1), uu, uu, uu, uu, uu, uu, uu, uu, uu, uu, uu, uu, uu, uu, uu, uu, uu, uu, uu, uu, uu, uu, uu, uu, uu, uu, uu], hp := emp }
theorem S106_eq (n : Nat × Nat) (word0 : ByteArray) (letters1 : Int) : S106 n word0 letters1 =
    L106_1 n n.1 letters1 [] [] word0 0 := by kernel_rfl
theorem S106_run (n : Nat × Nat) (xs : pksDen pk106) : S106 n xs.1 xs.2.1 = runG (E106 n) noScope c106 an106 (rtG rk106) (fun _ _ => none) (rtG rk106) (st0 pk106 xs Tryd.f106.ntmps) := by kernel_rfl
noncomputable def P106 (n : Nat × Nat) := phiOf pk106 rk106 (fun xs => S106 n xs.1 xs.2.1)
theorem call106 : CallOK Tryd.prog 106 := callOK_of Tryd.func106 (by kernel_rfl) (by kernel_rfl)
theorem env106 (n : Nat × Nat) : EnvOK Tryd.prog (E106 n) := envOK0 noPhi_ok rfl rfl
theorem par106 (n : Nat × Nat) : EnvPar (E106 n) := envPar0 noPhi_par rfl
theorem FC106 (n : Nat × Nat) : FCs Tryd.prog 106 (P106 n) := phiOf_FCs fun xs r h vs hv => FC.of_runG tabOK eqsOK (env106 n) (par106 n) mixed (fun _ p _ => noScope_ok p.1 p.2) Tryd.func106 (c := c106) (an := an106) (pks := pk106) (rks := rk106) (by kernel_rfl) (by kernel_rfl) hv ((S106_run n xs).symm.trans h)
/- slices.Index[[]byte,byte] -/
abbrev R107 := Int
noncomputable def c107 : Code := bodyOf Tryd.f107
noncomputable def an107 : Ann := (.s .l (.s (.s .l (.j [] (.j [0, 1, 7, 8] (.s .l (.s (.j [0, 1, 7, 8] .l .l) (.s (.j [0, 1, 7, 8] (.s .l (.s .l (.j [0, 1, 7, 8] .l .l))) .l) .l))) .l) .l)) .l))
def pk107 : List PK := [.c (.sl (.int .u8)), .c (.int .u8)]
def rk107 : List RK := [.c (.int .i64) 4]
noncomputable def rt107 (st : St) : Option R107 := rtG rk107 st
noncomputable def E107 (n : Nat × Nat) : Env := { T := tab, phi := noPhi, eff := fun _ => false, fuel := n.1, hold := n.2 }
noncomputable def kq107_1 (n : Nat × Nat) : St → Option R107 := run (E107 n) (cB (cB c107)) (Ann.snd (Ann.snd an107)) rt107 (fun _ _ => none) rt107
noncomputable def xb107_3 (n : Nat × Nat) : Nat → St → Option R107 := fun j s => bif Nat.beq j 0 then normC [] s (kq107_1 n) else (fun _ _ => none) j s
noncomputable def F107_4 (n : Nat × Nat) : (St → Option R107) → St → Option R107 := fun K s => run (E107 n) (cA (cA (cB (cA (cB c107))))) (Ann.fst (Ann.fst (Ann.snd (Ann.fst (Ann.snd an107))))) (fun s => normC [0, 1, 7, 8] s K) (xb107_3 n) rt107 s
noncomputable def L107_1 (n : Nat × Nat) (m : Nat) (s0 : List Int) (v1 : Int) (v7 : Int) (v8 : Int) : Option R107 := loopN (F107_4 n) m { tm := [.c (.sl (.int .u8) s0 false), .c (.int .u8 v1), uu, uu, uu, uu, uu, .c (.int .i64 v7), .c (.int .i64 v8), uu, uu, uu, uu, uu, uu, uu, uu, uu, uu], hp := emp }
theorem L107_1_eq (n : Nat × Nat) (m1 : Nat) (s0 : List Int) (v1 : Int) (v7 : Int) (v8 : Int) : L107_1 n (m1 + 1) s0 v1 v7 v8 =
 (bif decide (v8 < v7) then (idx s0 v8).bind fun x1' =>
 (bif (v1 == x1') then some v8
 else L107_1 n m1 s0 v1 v7 (wr .i64 (v8 + 1)))
 else some (-1)) := by kernel_rfl
noncomputable def S107 (n : Nat × Nat) (s0 : List Int) (v1 : Int) : Option R107 := run (E107 n) c107 an107 rt107 (fun _ _ => none) rt107 { tm := [.c (.sl (.int .u8) s0 false), .c (.int .u8 v1), uu, uu, uu, uu, uu, uu, uu, uu, uu, uu, uu, uu, uu, uu, uu, uu, uu], hp := emp }
theorem S107_eq (n : Nat × Nat) (s0 : List Int) (v1 : Int) : S107 n s0 v1 =
    L107_1 n n.1 s0 v1 (s0.length : Int) 0 := by kernel_rfl
theorem S107_run (n : Nat × Nat) (xs : pksDen pk107) : S107 n xs.1 xs.2.1 = runG (E107 n) noScope c107 an107 (rtG rk107) (fun _ _ => none) (rtG rk107) (st0 pk107 xs Tryd.f107.ntmps) := by kernel_rfl
noncomputable def P107 (n : Nat × Nat) := phiOf pk107 rk107 (fun xs => S107 n xs.1 xs.2.1)
theorem call107 : CallOK Tryd.prog 107 := callOK_of Tryd.func107 (by kernel_rfl) (by kernel_rfl)
theorem env107 (n : Nat × Nat) : EnvOK Tryd.prog (E107 n) := envOK0 noPhi_ok rfl rfl
theorem par107 (n : Nat × Nat) : EnvPar (E107 n) := envPar0 noPhi_par rfl
theorem FC107 (n : Nat × Nat) : FCs Tryd.prog 107 (P107 n) := phiOf_FCs fun xs r h vs hv => FC.of_runG tabOK eqsOK (env107 n) (par107 n) mixed (fun _ p _ => noScope_ok p.1 p.2) Tryd.func107 (c := c107) (an := an107) (pks := pk107) (rks := rk107) (by kernel_rfl) (by kernel_rfl) hv ((S107_run n xs).symm.trans h)
abbrev R76 := ByteArray × Int
noncomputable def c76 : Code := bodyOf Tryd.f76
noncomputable def an76 : Ann := (.s .l (.s (.s .l (.s .l (.j [0, 1, 28, 29, 49, 50, 51, 52, 53, 54, 55, 56, 57, 58] .l .l))) (.s .l (.j [4, 5] (.j [0, 1, 7, 28, 29, 49, 50, 51, 52, 53, 54, 55, 56, 57, 58] (.j [0, 1, 7, 28, 29, 49, 50, 51, 52, 53, 54, 55, 56, 57, 58] (.s .l (.s .l (.s .l (.j [0, 1, 7, 28, 29, 49, 50, 51, 52, 53, 54, 55, 56, 57, 58] (.j [0, 1, 7, 8, 9, 10, 28, 29, 49, 50, 51, 52, 53, 54, 55, 56, 57, 58] (.s (.s .l (.j [0, 1, 7, 8, 9, 10, 28, 29, 49, 50, 51, 52, 53, 54, 55, 56, 57, 58] .l .l)) (.j [] (.j [0, 1, 7, 8, 9, 10, 28, 29, 49, 50, 51, 52, 53, 54, 55, 56, 57, 58] (.s .l (.j [0, 1, 7, 8, 9, 10, 28, 29, 49, 50, 51, 52, 53, 54, 55, 56, 57, 58] (.s .l (.j [0, 1, 7, 8, 9, 10, 28, 29, 49, 50, 51, 52, 53, 54, 55, 56, 57, 58] .l (.s .l (.j [0, 1, 7, 8, 9, 10, 28, 29, 49, 50, 51, 52, 53, 54, 55, 56, 57, 58] .l .l)))) .l)) .l) .l)) .l) .l)))) .l) .l) .l))))
def pk76 : List PK := [.c .str, .c (.int .i64)]
def rk76 : List RK := [.c .str 4, .c (.int .i64) 5]
noncomputable def rt76 (st : St) : Option R76 := rtG rk76 st
noncomputable def E76 (n : Nat × Nat) : Env := { T := tab, phi := (consPhi 105 (fun _ => true) (P105 n) (consPhi 106 (fun _ => true) (P106 n) (consPhi 107 (fun _ => true) (P107 n) noPhi))), eff := fun _ => false, fuel := n.1, hold := n.2 }
noncomputable def xb76_4 (n : Nat × Nat) : Nat → St → Option R76 := fun j s => bif Nat.beq j 0 then normC [4, 5] s rt76 else (fun _ _ => none) j s
noncomputable def F76_5 (n : Nat × Nat) : (St → Option R76) → St → Option R76 := fun K s => run (E76 n) (cA (cA (cB (cB (cB c76))))) (Ann.fst (Ann.fst (Ann.snd (Ann.snd (Ann.snd an76))))) (fun s => normC [0, 1, 7, 28, 29, 49, 50, 51, 52, 53, 54, 55, 56, 57, 58] s K) (xb76_4 n) rt76 s
noncomputable def kc76_6 (n : Nat × Nat) (m1 : Nat) : St → Option R76 := fun s => normC [0, 1, 7, 28, 29, 49, 50, 51, 52, 53, 54, 55, 56, 57, 58] s (fun s => normC [0, 1, 7, 28, 29, 49, 50, 51, 52, 53, 54, 55, 56, 57, 58] s (loopN (F76_5 n) m1))
noncomputable def xb76_7 (n : Nat × Nat) (m1 : Nat) : Nat → St → Option R76 := fun j s => bif Nat.beq j 1 then normC [0, 1, 7, 28, 29, 49, 50, 51, 52, 53, 54, 55, 56, 57, 58] s (fun s => normC [0, 1, 7, 28, 29, 49, 50, 51, 52, 53, 54, 55, 56, 57, 58] s (loopN (F76_5 n) m1)) else (xb76_4 n) j s
noncomputable def xb76_9 (n : Nat × Nat) (m1 : Nat) : Nat → St → Option R76 := fun j s => bif Nat.beq j 2 then normC [0, 1, 7, 28, 29, 49, 50, 51, 52, 53, 54, 55, 56, 57, 58] s (kc76_6 n m1) else (xb76_7 n m1) j s
noncomputable def F76_10 (n : Nat × Nat) (m1 : Nat) : (St → Option R76) → St → Option R76 := fun K s => run (E76 n) (cA (cA (cB (cB (cB (cA (cA (cA (cB (cB (cB c76))))))))))) (Ann.fst (Ann.fst (Ann.snd (Ann.snd (Ann.snd (Ann.fst (Ann.fst (Ann.fst (Ann.snd (Ann.snd (Ann.snd an76))))))))))) (fun s => normC [0, 1, 7, 8, 9, 10, 28, 29, 49, 50, 51, 52, 53, 54, 55, 56, 57, 58] s K) (xb76_9 n m1) rt76 s
noncomputable def kq76_13 (n : Nat × Nat) (m1 m2 : Nat) : St → Option R76 := run (E76 n) (cB (cB (cA (cA (cB (cB (cB (cA (cA (cA (cB (cB (cB c76))))))))))))) (Ann.snd (Ann.snd (Ann.fst (Ann.fst (Ann.snd (Ann.snd (Ann.snd (Ann.fst (Ann.fst (Ann.fst (Ann.snd (Ann.snd (Ann.snd an76))))))))))))) (fun s => normC [0, 1, 7, 8, 9, 10, 28, 29, 49, 50, 51, 52, 53, 54, 55, 56, 57, 58] s (loopN (F76_10 n m1) m2)) (xb76_9 n m1) rt76
noncomputable def L76_1 (n : Nat × Nat) (m : Nat) (word0 : ByteArray) (letters1 : Int) (out7 : List Int) : Option R76 := loopN (F76_5 n) m { tm := [.c (.str word0), .c (.int .i64 letters1), uu, uu, uu, uu, uu, .own 7 none false, uu, uu, uu, uu, uu, uu, uu, uu, uu, uu, uu, uu, uu, uu, uu, uu, uu, uu, uu, uu, uu, uu, uu, uu, uu, uu, uu, uu, uu, uu, uu, uu, uu, uu, uu, uu, uu, uu, uu, uu, uu, uu, uu, uu, uu, uu, uu, uu, uu, uu, uu, uu, uu, uu, uu, uu, uu, uu, uu, uu], hp := (upd emp 7 (.arr (.int .u8) out7 false)) }
noncomputable def L76_2 (n : Nat × Nat) (m1 : Nat) (m : Nat) (word0 : ByteArray) (letters1 : Int) (left8 : Int) (found9 : Bool) (c10 : Int) (out7 : List Int) : Option R76 := loopN (F76_10 n m1) m { tm := [.c (.str word0), .c (.int .i64 letters1), uu, uu, uu, uu, uu, .own 7 none false, .c (.int .i64 left8), .c (.bool found9), .c (.int .u8 c10), uu, uu, uu, uu, uu, uu, uu, uu, uu, uu, uu, uu, uu, uu, uu, uu, uu, uu, uu, uu, uu, uu, uu, uu, uu, uu, uu, uu, uu, uu, uu, uu, uu, uu, uu, uu, uu, uu, uu, uu, uu, uu, uu, uu, uu, uu, uu, uu, uu, uu, uu, uu, uu, uu, uu, uu, uu], hp := (upd emp 7 (.arr (.int .u8) out7 false)) }
noncomputable def L76_3 (n : Nat × Nat) (m1 m2 : Nat) (word0 : ByteArray) (letters1 : Int) (left8 : Int) (found9 : Bool) (c10 : Int) (out7 : List Int) : Option R76 := loopN (fun _ => (kq76_13 n m1 m2)) n.2 { tm := [.c (.str word0), .c (.int .i64 letters1), uu, uu, uu, uu, uu, .own 7 none false, .c (.int .i64 left8), .c (.bool found9), .c (.int .u8 c10), uu, uu, uu, uu, uu, uu, uu, uu, uu, uu, uu, uu, uu, uu, uu, uu, uu, uu, uu, uu, uu, uu, uu, uu, uu, uu, uu, uu, uu, uu, uu, uu, uu, uu, uu, uu, uu, uu, uu, uu, uu, uu, uu, uu, uu, uu, uu, uu, uu, uu, uu, uu, uu, uu, uu, uu, uu], hp := (upd emp 7 (.arr (.int .u8) out7 false)) }
theorem L76_1_eq (n : Nat × Nat) (m1 : Nat) (word0 : ByteArray) (letters1 : Int) (out7 : List Int) : L76_1 n (m1 + 1) word0 letters1 out7 =
 (S106 n word0 letters1).bind fun r2' =>
    L76_2 n m1 n.1 word0 letters1 (r2'.length : Int) false 97 out7 := by kernel_rfl
theorem L76_2_eq (n : Nat × Nat) (m1 m2 : Nat) (word0 : ByteArray) (letters1 : Int) (left8 : Int) (found9 : Bool) (c10 : Int) (out7 : List Int) : L76_2 n m1 (m2 + 1) word0 letters1 left8 found9 c10 out7 =
 ((bif (decide (c10 < wr .u8 (wr .i64 (97 + letters1))) == true) then some (!found9)
 else some false)).bind fun b3' =>
 (bif b3' then (S107 n (strBytes word0) c10).bind fun r4' =>
 (bif decide (r4' < 0) then (bif decide (out7.length + [c10].length ≤ lim) then some (strNums (out7 ++ [c10]), 0)
 else none)
 else ((bif (decide (left8 > 0) == true) then (bif bounds (some (wr .i64 (r4' + 1))) none none word0.size then (S106 n (strCut (some (wr .i64 (r4' + 1))) none word0) letters1).bind fun r5' =>
 some ((r5'.length : Int) == (wr .i64 (left8 - 1)))
 else none)
 else some false)).bind fun b6' =>
 (bif b6' then (bif decide (out7.length + [c10].length ≤ lim) then (bif bounds (some (wr .i64 (r4' + 1))) none none word0.size then L76_3 n m1 m2 (strCut (some (wr .i64 (r4' + 1))) none word0) letters1 left8 true c10 (out7 ++ [c10])
 else none)
 else none)
 else L76_3 n m1 m2 word0 letters1 left8 found9 c10 out7))
 else L76_1 n m1 word0 letters1 out7) := by kernel_rfl
theorem L76_3_raw (n : Nat × Nat) (m1 m2 : Nat) (word0 : ByteArray) (letters1 : Int) (left8 : Int) (found9 : Bool) (c10 : Int) (out7 : List Int) : (kq76_13 n m1 m2) { tm := [.c (.str word0), .c (.int .i64 letters1), uu, uu, uu, uu, uu, .own 7 none false, .c (.int .i64 left8), .c (.bool found9), .c (.int .u8 c10), uu, uu, uu, uu, uu, uu, uu, uu, uu, uu, uu, uu, uu, uu, uu, uu, uu, uu, uu, uu, uu, uu, uu, uu, uu, uu, uu, uu, uu, uu, uu, uu, uu, uu, uu, uu, uu, uu, uu, uu, uu, uu, uu, uu, uu, uu, uu, uu, uu, uu, uu, uu, uu, uu, uu, uu, uu], hp := (upd emp 7 (.arr (.int .u8) out7 false)) } =
    L76_2 n m1 m2 word0 letters1 left8 found9 (wr .u8 (c10 + 1)) out7 := by kernel_rfl
noncomputable def S76 (n : Nat × Nat) (word0 : ByteArray) (letters1 : Int) : Option R76 := run (E76 n) c76 an76 rt76 (fun _ _ => none) rt76 { tm := [.c (.str word0), .c (.int .i64 letters1), uu, uu, uu, uu, uu, uu, uu, uu, uu, uu, uu, uu, uu, uu, uu, uu, uu, uu, uu, uu, uu, uu, uu, uu, uu, uu, uu, uu, uu, uu, uu, uu, uu, uu, uu, uu, uu, uu, uu, uu, uu, uu, uu, uu, uu, uu, uu, uu, uu, uu, uu, uu, uu, uu, uu, uu, uu, uu, uu, uu, uu, uu, uu, uu, uu, uu], hp := emp }
theorem S76_eq (n : Nat × Nat) (word0 : ByteArray) (letters1 : Int) : S76 n word0 letters1 =
 (S105 n word0 letters1).bind fun r1' =>
 (bif (r1' != 0) then some ((⟨#[]⟩ : ByteArray), r1')
 else L76_1 n n.1 word0 letters1 []) := by kernel_rfl
theorem S76_run (n : Nat × Nat) (xs : pksDen pk76) : S76 n xs.1 xs.2.1 = runG (E76 n) noScope c76 an76 (rtG rk76) (fun _ _ => none) (rtG rk76) (st0 pk76 xs Tryd.f76.ntmps) := by kernel_rfl
noncomputable def P76 (n : Nat × Nat) := phiOf pk76 rk76 (fun xs => S76 n xs.1 xs.2.1)
theorem call76 : CallOK Tryd.prog 76 := callOK_of Tryd.func76 (by kernel_rfl) (by kernel_rfl)
theorem env76 (n : Nat × Nat) : EnvOK Tryd.prog (E76 n) := envOK0 (consPhi_ok (FC105 n) call105 (consPhi_ok (FC106 n) call106 (consPhi_ok (FC107 n) call107 noPhi_ok))) rfl rfl
theorem par76 (n : Nat × Nat) : EnvPar (E76 n) := envPar0 (consPhi_par phiOf_Par1 (consPhi_par phiOf_Par1 (consPhi_par phiOf_Par1 noPhi_par))) rfl
theorem FC76 (n : Nat × Nat) : FCs Tryd.prog 76 (P76 n) := phiOf_FCs fun xs r h vs hv => FC.of_runG tabOK eqsOK (env76 n) (par76 n) mixed (fun _ p _ => noScope_ok p.1 p.2) Tryd.func76 (c := c76) (an := an76) (pks := pk76) (rks := rk76) (by kernel_rfl) (by kernel_rfl) hv ((S76_run n xs).symm.trans h)
abbrev R32 := Bool
noncomputable def c32 : Code := bodyOf Tryd.f32
noncomputable def an32 : Ann := (.s .l (.s (.s .l (.j [1] (.j [0, 1, 5, 11, 12] (.s (.s .l (.j [0, 1, 5, 11, 12] .l .l)) (.j [] (.j [0, 1, 5, 11, 12] (.s .l (.j [0, 1, 5, 11, 12] .l .l)) .l) .l)) .l) .l)) .l))
def pk32 : List PK := [.c .str, .c .str]
def rk32 : List RK := [.c .bool 4]
noncomputable def rt32 (st : St) : Option R32 := rtG rk32 st
noncomputable def E32 (n : Nat × Nat) : Env := { T := tab, phi := noPhi, eff := fun _ => false, fuel := n.1, hold := n.2 }
noncomputable def kq32_1 (n : Nat × Nat) : St → Option R32 := run (E32 n) (cB (cB c32)) (Ann.snd (Ann.snd an32)) rt32 (fun _ _ => none) rt32
noncomputable def xb32_3 (n : Nat × Nat) : Nat → St → Option R32 := fun j s => bif Nat.beq j 0 then normC [1] s (kq32_1 n) else (fun _ _ => none) j s
noncomputable def F32_4 (n : Nat × Nat) : (St → Option R32) → St → Option R32 := fun K s => run (E32 n) (cA (cA (cB (cA (cB c32))))) (Ann.fst (Ann.fst (Ann.snd (Ann.fst (Ann.snd an32))))) (fun s => normC [0, 1, 5, 11, 12] s K) (xb32_3 n) rt32 s
noncomputable def kq32_7 (n : Nat × Nat) (m1 : Nat) : St → Option R32 := run (E32 n) (cB (cB (cA (cA (cB (cA (cB c32))))))) (Ann.snd (Ann.snd (Ann.fst (Ann.fst (Ann.snd (Ann.fst (Ann.snd an32))))))) (fun s => normC [0, 1, 5, 11, 12] s (loopN (F32_4 n) m1)) (xb32_3 n) rt32
noncomputable def L32_1 (n : Nat × Nat) (m : Nat) (word0 : ByteArray) (part1 : ByteArray) (i5 : Int) : Option R32 := loopN (F32_4 n) m { tm := [.c (.str word0), .c (.str part1), uu, uu, uu, .c (.int .i64 i5), uu, uu, uu, uu, uu, uu, uu, uu, uu, uu, uu, uu, uu, uu, uu, uu, uu, uu, uu, uu], hp := emp }
noncomputable def L32_2 (n : Nat × Nat) (m1 : Nat) (word0 : ByteArray) (part1 : ByteArray) (i5 : Int) : Option R32 := loopN (fun _ => (kq32_7 n m1)) n.2 { tm := [.c (.str word0), .c (.str part1), uu, uu, uu, .c (.int .i64 i5), uu, uu, uu, uu, uu, uu, uu, uu, uu, uu, uu, uu, uu, uu, uu, uu, uu, uu, uu, uu], hp := emp }
theorem L32_1_eq (n : Nat × Nat) (m1 : Nat) (word0 : ByteArray) (part1 : ByteArray) (i5 : Int) : L32_1 n (m1 + 1) word0 part1 i5 =
 ((bif (decide (i5 < (word0.size : Int)) == true) then some (!strEq part1 (⟨#[]⟩ : ByteArray))
 else some false)).bind fun b1' =>
 (bif b1' then (idx (strBytes word0) i5).bind fun x2' =>
 (idx (strBytes part1) 0).bind fun x3' =>
 (bif (x2' == x3') then (bif bounds (some 1) none none part1.size then L32_2 n m1 word0 (strCut (some 1) none part1) i5
 else none)
 else L32_2 n m1 word0 part1 i5)
 else some (strEq part1 (⟨#[]⟩ : ByteArray))) := by kernel_rfl
theorem L32_2_raw (n : Nat × Nat) (m1 : Nat) (word0 : ByteArray) (part1 : ByteArray) (i5 : Int) : (kq32_7 n m1) { tm := [.c (.str word0), .c (.str part1), uu, uu, uu, .c (.int .i64 i5), uu, uu, uu, uu, uu, uu, uu, uu, uu, uu, uu, uu, uu, uu, uu, uu, uu, uu, uu, uu], hp := emp } =
    L32_1 n m1 word0 part1 (wr .i64 (i5 + 1)) := by kernel_rfl
noncomputable def S32 (n : Nat × Nat) (word0 : ByteArray) (part1 : ByteArray) : Option R32 := run (E32 n) c32 an32 rt32 (fun _ _ => none) rt32 { tm := [.c (.str word0), .c (.str part1), uu, uu, uu, uu, uu, uu, uu, uu, uu, uu, uu, uu, uu, uu, uu, uu, uu, uu, uu, uu, uu, uu, uu, uu], hp := emp }
theorem S32_eq (n : Nat × Nat) (word0 : ByteArray) (part1 : ByteArray) : S32 n word0 part1 =
    L32_1 n n.1 word0 part1 0 := by kernel_rfl
theorem S32_run (n : Nat × Nat) (xs : pksDen pk32) : S32 n xs.1 xs.2.1 = runG (E32 n) noScope c32 an32 (rtG rk32) (fun _ _ => none) (rtG rk32) (st0 pk32 xs Tryd.f32.ntmps) := by kernel_rfl
noncomputable def P32 (n : Nat × Nat) := phiOf pk32 rk32 (fun xs => S32 n xs.1 xs.2.1)
theorem call32 : CallOK Tryd.prog 32 := callOK_of Tryd.func32 (by kernel_rfl) (by kernel_rfl)
theorem env32 (n : Nat × Nat) : EnvOK Tryd.prog (E32 n) := envOK0 noPhi_ok rfl rfl
theorem par32 (n : Nat × Nat) : EnvPar (E32 n) := envPar0 noPhi_par rfl
theorem FC32 (n : Nat × Nat) : FCs Tryd.prog 32 (P32 n) := phiOf_FCs fun xs r h vs hv => FC.of_runG tabOK eqsOK (env32 n) (par32 n) mixed (fun _ p _ => noScope_ok p.1 p.2) Tryd.func32 (c := c32) (an := an32) (pks := pk32) (rks := rk32) (by kernel_rfl) (by kernel_rfl) hv ((S32_run n xs).symm.trans h)
abbrev R45 := Bool
noncomputable def c45 : Code := bodyOf Tryd.f45
noncomputable def an45 : Ann := .l
def pk45 : List PK := []
def rk45 : List RK := [.c .bool 0]
noncomputable def rt45 (st : St) : Option R45 := rtG rk45 st
noncomputable def E45 (n : Nat × Nat) : Env := { T := tab, phi := (consPhi 32 (fun _ => true) (P32 n) (consPhi 75 (fun _ => true) (P75 n) (consPhi 76 (fun _ => true) (P76 n) noPhi))), eff := fun _ => false, fuel := n.1, hold := n.2 }
noncomputable def S45 (n : Nat × Nat) : Option R45 := run (E45 n) c45 an45 rt45 (fun _ _ => none) rt45 { tm := [uu, uu, uu, uu, uu, uu, uu, uu, uu, uu, uu, uu, uu, uu, uu, uu, uu, uu, uu, uu, uu, uu, uu, uu, uu, uu, uu, uu, uu, uu], hp := emp }
theorem S45_eq (n : Nat × Nat) : S45 n =
 (S75 n (⟨#[97, 98, 99, 97]⟩ : ByteArray) (⟨#[97]⟩ : ByteArray)).bind fun r1' =>
 (S76 n (⟨#[97, 98, 98, 97]⟩ : ByteArray) 2).bind fun r2' =>
 ((bif ((r1'.2 == 0) == true) then some (r2'.2 == 0)
 else some false)).bind fun b3' =>
 ((bif (b3' == true) then some (r1'.1 == 2)
 else some false)).bind fun b4' =>
 ((bif (b4' == true) then some (strEq r2'.1 (⟨#[97, 97, 97]⟩ : ByteArray))
 else some false)).bind fun b5' =>
 ((bif (b5' == true) then (S32 n (⟨#[100, 97, 121, 45, 98, 111, 111, 107]⟩ : ByteArray) (⟨#[121, 98, 107]⟩ : ByteArray)).bind fun r6' =>
 some r6'
 else some false)).bind fun b7' =>
 some b7' := by kernel_rfl
theorem S45_run (n : Nat × Nat) (xs : pksDen pk45) : S45 n = runG (E45 n) noScope c45 an45 (rtG rk45) (fun _ _ => none) (rtG rk45) (st0 pk45 xs Tryd.f45.ntmps) := by kernel_rfl
noncomputable def P45 (n : Nat × Nat) := phiOf pk45 rk45 (fun xs => S45 n)
theorem call45 : CallOK Tryd.prog 45 := callOK_of Tryd.func45 (by kernel_rfl) (by kernel_rfl)
theorem env45 (n : Nat × Nat) : EnvOK Tryd.prog (E45 n) := envOK0 (consPhi_ok (FC32 n) call32 (consPhi_ok (FC75 n) call75 (consPhi_ok (FC76 n) call76 noPhi_ok))) rfl rfl
theorem par45 (n : Nat × Nat) : EnvPar (E45 n) := envPar0 (consPhi_par phiOf_Par1 (consPhi_par phiOf_Par1 (consPhi_par phiOf_Par1 noPhi_par))) rfl
theorem FC45 (n : Nat × Nat) : FCs Tryd.prog 45 (P45 n) := phiOf_FCs fun xs r h vs hv => FC.of_runG tabOK eqsOK (env45 n) (par45 n) mixed (fun _ p _ => noScope_ok p.1 p.2) Tryd.func45 (c := c45) (an := an45) (pks := pk45) (rks := rk45) (by kernel_rfl) (by kernel_rfl) hv ((S45_run n xs).symm.trans h)
abbrev R16 := Bool
noncomputable def c16 : Code := bodyOf Tryd.f16
noncomputable def an16 : Ann := .l
def pk16 : List PK := []
def rk16 : List RK := [.c .bool 0]
noncomputable def rt16 (st : St) : Option R16 := rtG rk16 st
noncomputable def E16 (n : Nat × Nat) : Env := { T := tabL, phi := (consPhi 14 (fun _ => true) (P14 n) (consPhi 44 (fun _ => true) (P44 n) (consPhi 45 (fun _ => true) (P45 n) noPhi))), eff := fun g => Nat.beq g 44, fuel := n.1, hold := n.2 }
noncomputable def S16 (n : Nat × Nat) : Option R16 := run (E16 n) c16 an16 rt16 (fun _ _ => none) rt16 { tm := [uu, uu, uu, uu, uu, uu, uu, uu, uu, uu, uu, uu, uu, uu, uu, uu, uu, uu, uu, uu, uu, uu], hp := emp }
theorem S16_eq (n : Nat × Nat) : S16 n =
 (S44 n (3, [(0, 1), (1, 2)])).bind fun r1' =>
 ((bif ((r1'.2 == 0) == true) then (S14 n r1'.1 [0, 2]).bind fun r2' =>
 some r2'
 else some false)).bind fun b3' =>
 ((bif (b3' == true) then (S45 n).bind fun r4' =>
 some r4'
 else some false)).bind fun b5' =>
 some b5' := by kernel_rfl
theorem S16_run (n : Nat × Nat) (xs : pksDen pk16) : S16 n = runG (E16 n) noScope c16 an16 (rtG rk16) (fun _ _ => none) (rtG rk16) (st0 pk16 xs Tryd.f16.ntmps) := by kernel_rfl
noncomputable def P16 (n : Nat × Nat) := phiOf pk16 rk16 (fun xs => S16 n)
theorem call16 : CallOK Tryd.prog 16 := callOK_of Tryd.func16 (by kernel_rfl) (by kernel_rfl)
theorem env16 (n : Nat × Nat) : EnvOK Tryd.prog (E16 n) := envOK0 (consPhi_ok (FC14 n) call14 (consPhi_ok (FC44 n) call44 (consPhi_ok (FC45 n) call45 noPhi_ok))) rfl rfl
theorem par16 (n : Nat × Nat) : EnvPar (E16 n) := envPar0 (consPhi_par phiOf_Par1 (consPhi_par phiOf_Par1 (consPhi_par phiOf_Par1 noPhi_par))) rfl
theorem FC16 (n : Nat × Nat) : FCs Tryd.prog 16 (P16 n) := phiOf_FCs fun xs r h vs hv => FC.of_runG tabLOK eqsLOK (env16 n) (par16 n) mixed (fun _ p _ => noScope_ok p.1 p.2) Tryd.func16 (c := c16) (an := an16) (pks := pk16) (rks := rk16) (by kernel_rfl) (by kernel_rfl) hv ((S16_run n xs).symm.trans h)
abbrev R83 := Bool
noncomputable def c83 : Code := bodyOf Tryd.f83
noncomputable def an83 : Ann := .l
def pk83 : List PK := []
def rk83 : List RK := [.c .bool 0]
noncomputable def rt83 (st : St) : Option R83 := rtG rk83 st
noncomputable def E83 (n : Nat × Nat) : Env := { T := tabL, phi := (consPhi 14 (fun _ => true) (P14 n) (consPhi 16 (fun _ => true) (P16 n) (consPhi 113 (fun _ => true) (P113 n) noPhi))), eff := fun _ => false, fuel := n.1, hold := n.2 }
noncomputable def S83 (n : Nat × Nat) : Option R83 := run (E83 n) c83 an83 rt83 (fun _ _ => none) rt83 { tm := [uu, uu, uu, uu, uu, uu, uu, uu, uu, uu, uu, uu, uu, uu, uu, uu, uu, uu, uu, uu, uu, uu, uu], hp := emp }
theorem S83_eq (n : Nat × Nat) : S83 n =
 (S113 n (3, [(0, 1), (0, 2), (1, 2)])).bind fun r1' =>
 ((bif ((r1'.2 == 0) == true) then (S14 n r1'.1 [0, 1]).bind fun r2' =>
 some r2'
 else some false)).bind fun b3' =>
 ((bif (b3' == true) then (S16 n).bind fun r4' =>
 some r4'
 else some false)).bind fun b5' =>
 some b5' := by kernel_rfl
theorem S83_run (n : Nat × Nat) (xs : pksDen pk83) : S83 n = runG (E83 n) noScope c83 an83 (rtG rk83) (fun _ _ => none) (rtG rk83) (st0 pk83 xs Tryd.f83.ntmps) := by kernel_rfl
noncomputable def P83 (n : Nat × Nat) := phiOf pk83 rk83 (fun xs => S83 n)
theorem call83 : CallOK Tryd.prog 83 := callOK_of Tryd.func83 (by kernel_rfl) (by kernel_rfl)
theorem env83 (n : Nat × Nat) : EnvOK Tryd.prog (E83 n) := envOK0 (consPhi_ok (FC14 n) call14 (consPhi_ok (FC16 n) call16 (consPhi_ok (FC113 n) call113 noPhi_ok))) rfl rfl
theorem par83 (n : Nat × Nat) : EnvPar (E83 n) := envPar0 (consPhi_par phiOf_Par1 (consPhi_par phiOf_Par1 (consPhi_par phiOf_Par1 noPhi_par))) rfl
theorem FC83 (n : Nat × Nat) : FCs Tryd.prog 83 (P83 n) := phiOf_FCs fun xs r h vs hv => FC.of_runG tabLOK eqsLOK (env83 n) (par83 n) mixed (fun _ p _ => noScope_ok p.1 p.2) Tryd.func83 (c := c83) (an := an83) (pks := pk83) (rks := rk83) (by kernel_rfl) (by kernel_rfl) hv ((S83_run n xs).symm.trans h)
abbrev R51 := Bool
noncomputable def c51 : Code := bodyOf Tryd.f51
noncomputable def an51 : Ann := .l
def pk51 : List PK := []
def rk51 : List RK := [.c .bool 0]
noncomputable def rt51 (st : St) : Option R51 := rtG rk51 st
noncomputable def E51 (n : Nat × Nat) : Env := { T := tabL, phi := (consPhi 17 (fun _ => true) (P17 n) (consPhi 83 (fun _ => true) (P83 n) noPhi)), eff := fun _ => false, fuel := n.1, hold := n.2 }
noncomputable def S51 (n : Nat × Nat) : Option R51 := run (E51 n) c51 an51 rt51 (fun _ _ => none) rt51 { tm := [uu, uu, uu, uu, uu, uu, uu, uu, uu, uu, uu, uu, uu, uu, uu, uu, uu, uu, uu], hp := emp }
theorem S51_eq (n : Nat × Nat) : S51 n =
 (S17 n (2, [0, 1, 2, 0, 1])).bind fun r1' =>
 ((bif ((r1'.2 == 0) == true) then some (r1'.1 == 4)
 else some false)).bind fun b2' =>
 ((bif (b2' == true) then (S83 n).bind fun r3' =>
 some r3'
 else some false)).bind fun b4' =>
 some b4' := by kernel_rfl
theorem S51_run (n : Nat × Nat) (xs : pksDen pk51) : S51 n = runG (E51 n) noScope c51 an51 (rtG rk51) (fun _ _ => none) (rtG rk51) (st0 pk51 xs Tryd.f51.ntmps) := by kernel_rfl
noncomputable def P51 (n : Nat × Nat) := phiOf pk51 rk51 (fun xs => S51 n)
theorem call51 : CallOK Tryd.prog 51 := callOK_of Tryd.func51 (by kernel_rfl) (by kernel_rfl)
theorem env51 (n : Nat × Nat) : EnvOK Tryd.prog (E51 n) := envOK0 (consPhi_ok (FC17 n) call17 (consPhi_ok (FC83 n) call83 noPhi_ok)) rfl rfl
theorem par51 (n : Nat × Nat) : EnvPar (E51 n) := envPar0 (consPhi_par phiOf_Par1 (consPhi_par phiOf_Par1 noPhi_par)) rfl
theorem FC51 (n : Nat × Nat) : FCs Tryd.prog 51 (P51 n) := phiOf_FCs fun xs r h vs hv => FC.of_runG tabLOK eqsLOK (env51 n) (par51 n) mixed (fun _ p _ => noScope_ok p.1 p.2) Tryd.func51 (c := c51) (an := an51) (pks := pk51) (rks := rk51) (by kernel_rfl) (by kernel_rfl) hv ((S51_run n xs).symm.trans h)
abbrev R20 := Bool
noncomputable def c20 : Code := bodyOf Tryd.f20
noncomputable def an20 : Ann := .l
def pk20 : List PK := []
def rk20 : List RK := [.c .bool 0]
noncomputable def rt20 (st : St) : Option R20 := rtG rk20 st
noncomputable def E20 (n : Nat × Nat) : Env := { T := tab, phi := (consPhi 14 (fun _ => true) (P14 n) (consPhi 50 (fun _ => true) (P50 n) (consPhi 51 (fun _ => true) (P51 n) noPhi))), eff := fun _ => false, fuel := n.1, hold := n.2 }
noncomputable def S20 (n : Nat × Nat) : Option R20 := run (E20 n) c20 an20 rt20 (fun _ _ => none) rt20 { tm := [uu, uu, uu, uu, uu, uu, uu, uu, uu, uu, uu, uu, uu, uu, uu, uu, uu, uu, uu, uu, uu, uu], hp := emp }
theorem S20_eq (n : Nat × Nat) : S20 n =
 (S50 n [(3, 1), (1, 1), (2, 1)]).bind fun r1' =>
 ((bif ((r1'.2 == 0) == true) then (S14 n r1'.1 [0]).bind fun r2' =>
 some r2'
 else some false)).bind fun b3' =>
 ((bif (b3' == true) then (S51 n).bind fun r4' =>
 some r4'
 else some false)).bind fun b5' =>
 some b5' := by kernel_rfl
theorem S20_run (n : Nat × Nat) (xs : pksDen pk20) : S20 n = runG (E20 n) noScope c20 an20 (rtG rk20) (fun _ _ => none) (rtG rk20) (st0 pk20 xs Tryd.f20.ntmps) := by kernel_rfl
noncomputable def P20 (n : Nat × Nat) := phiOf pk20 rk20 (fun xs => S20 n)
theorem call20 : CallOK Tryd.prog 20 := callOK_of Tryd.func20 (by kernel_rfl) (by kernel_rfl)
theorem env20 (n : Nat × Nat) : EnvOK Tryd.prog (E20 n) := envOK0 (consPhi_ok (FC14 n) call14 (consPhi_ok (FC50 n) call50 (consPhi_ok (FC51 n) call51 noPhi_ok))) rfl rfl
theorem par20 (n : Nat × Nat) : EnvPar (E20 n) := envPar0 (consPhi_par phiOf_Par1 (consPhi_par phiOf_Par1 (consPhi_par phiOf_Par1 noPhi_par))) rfl
theorem FC20 (n : Nat × Nat) : FCs Tryd.prog 20 (P20 n) := phiOf_FCs fun xs r h vs hv => FC.of_runG tabOK eqsOK (env20 n) (par20 n) mixed (fun _ p _ => noScope_ok p.1 p.2) Tryd.func20 (c := c20) (an := an20) (pks := pk20) (rks := rk20) (by kernel_rfl) (by kernel_rfl) hv ((S20_run n xs).symm.trans h)
abbrev R4 := Bool
noncomputable def c4 : Code := bodyOf Tryd.f4
noncomputable def an4 : Ann := (.s .l (.s .l (.s (.q [(5, 1, 1)] (.s .l (.j [5, 51, 52, 55, 56, 77, 78, 81, 82, 83, 84, 85, 500379999] (.j [5, 22, 23, 24, 51, 52, 55, 56, 77, 78, 81, 82, 83, 84, 85, 500379999] (.s .l (.s (.j [5, 22, 23, 24, 51, 52, 55, 56, 77, 78, 81, 82, 83, 84, 85, 500379999] .l .l) (.s (.j [5, 22, 23, 24, 51, 52, 55, 56, 77, 78, 81, 82, 83, 84, 85, 500379999] .l .l) .l))) .l) .l))) (.q [(5, 1, 0)] (.s .l (.s (.s .l (.j [8, 77, 78, 81, 82, 83, 84, 85] (.j [5, 8, 9, 51, 52, 55, 56, 77, 78, 81, 82, 83, 84, 85, 500379999] (.s (.s .l (.j [5, 8, 9, 51, 52, 55, 56, 77, 78, 81, 82, 83, 84, 85, 500379999] .l .l)) (.s (.j [5, 8, 9, 51, 52, 55, 56, 77, 78, 81, 82, 83, 84, 85, 500379999] (.s .l (.s .l (.s (.s .l (.j [5, 8, 9, 10, 51, 52, 55, 56, 77, 78, 81, 82, 83, 84, 85, 500379999] .l .l)) .l))) .l) .l)) .l) .l)) (.s .l (.s .l (.s (.s .l (.j [8, 14] .l .l)) (.s (.s .l (.j [] (.j [8, 87, 88, 89] (.s .l (.s (.j [8, 87, 88, 89] .l .l) (.s (.j [8, 87, 88, 89] (.s .l (.s .l (.j [8, 87, 88, 89] .l .l))) .l) .l))) .l) .l)) .l))))))))))
def pk4 : List PK := [.c (.int .u8), .c (.pair (.int .u8) (.pair (.int .u8) (.pair (.int .u8) (.pair (.int .u8) (.pair (.int .u8) (.pair (.int .u8) (.pair (.int .u8) (.pair (.int .u8) (.pair (.int .u8) (.pair (.int .u8) (.pair (.int .u8) (.int .u8))))))))))))]
def rk4 : List RK := [.c .bool 4]
noncomputable def rt4 (st : St) : Option R4 := rtG rk4 st
noncomputable def E4 (n : Nat × Nat) : Env := { T := tab, phi := (consPhi 17 (fun _ => true) (P17 n) (consPhi 18 (fun _ => true) (P18 n) (consPhi 19 (fun _ => true) (P19 n) (consPhi 20 (fun _ => true) (P20 n) noPhi)))), eff := fun _ => false, fuel := n.1, hold := n.2 }
noncomputable def kq4_1 (n : Nat × Nat) : St → Option R4 := run (E4 n) (cB (cB (cB c4))) (Ann.snd (Ann.snd (Ann.snd an4))) rt4 (fun _ _ => none) rt4
noncomputable def xb4_3 (n : Nat × Nat) : Nat → St → Option R4 := fun j s => bif Nat.beq j 0 then normC [5, 51, 52, 55, 56, 77, 78, 81, 82, 83, 84, 85, 500379999] s (kq4_1 n) else (fun _ _ => none) j s
noncomputable def F4_4 (n : Nat × Nat) : (St → Option R4) → St → Option R4 := fun K s => run (E4 n) (cA (cA (cB (cA (cB (cB c4)))))) (Ann.fst (Ann.fst (Ann.snd (Ann.unq (Ann.fst (Ann.snd (Ann.snd an4))))))) (fun s => normC [5, 22, 23, 24, 51, 52, 55, 56, 77, 78, 81, 82, 83, 84, 85, 500379999] s K) (xb4_3 n) rt4 s
noncomputable def kq4_10 (n : Nat × Nat) : St → Option R4 := run (E4 n) (cB (cB (cB (cB (cB c4))))) (Ann.snd (Ann.snd (Ann.unq (Ann.snd (Ann.snd (Ann.snd an4)))))) rt4 (fun _ _ => none) rt4
noncomputable def xb4_12 (n : Nat × Nat) : Nat → St → Option R4 := fun j s => bif Nat.beq j 2 then normC [8, 77, 78, 81, 82, 83, 84, 85] s (kq4_10 n) else (fun _ _ => none) j s
noncomputable def F4_13 (n : Nat × Nat) : (St → Option R4) → St → Option R4 := fun K s => run (E4 n) (cA (cA (cB (cA (cB (cB (cB (cB c4)))))))) (Ann.fst (Ann.fst (Ann.snd (Ann.fst (Ann.snd (Ann.unq (Ann.snd (Ann.snd (Ann.snd an4))))))))) (fun s => normC [5, 8, 9, 51, 52, 55, 56, 77, 78, 81, 82, 83, 84, 85, 500379999] s K) (xb4_12 n) rt4 s
noncomputable def kq4_23 (n : Nat × Nat) : St → Option R4 := run (E4 n) (cB (cB (cB (cB (cB (cB (cB (cB (cB c4))))))))) (Ann.snd (Ann.snd (Ann.snd (Ann.snd (Ann.snd (Ann.snd (Ann.unq (Ann.snd (Ann.snd (Ann.snd an4)))))))))) rt4 (fun _ _ => none) rt4
noncomputable def xb4_25 (n : Nat × Nat) : Nat → St → Option R4 := fun j s => bif Nat.beq j 4 then normC [] s (kq4_23 n) else (fun _ _ => none) j s
noncomputable def F4_26 (n : Nat × Nat) : (St → Option R4) → St → Option R4 := fun K s => run (E4 n) (cA (cA (cB (cA (cB (cB (cB (cB (cB (cB (cB (cB c4)))))))))))) (Ann.fst (Ann.fst (Ann.snd (Ann.fst (Ann.snd (Ann.snd (Ann.snd (Ann.snd (Ann.snd (Ann.unq (Ann.snd (Ann.snd (Ann.snd an4))))))))))))) (fun s => normC [8, 87, 88, 89] s K) (xb4_25 n) rt4 s
noncomputable def L4_1 (n : Nat × Nat) (m : Nat) (v22 : List Int) (v23 : Int) (v24 : Int) (j5_0 : Int) (v500379999 : List Int) : Option R4 := loopN (F4_4 n) m { tm := [uu, uu, uu, uu, uu, .ptr 5 0, uu, uu, uu, uu, uu, uu, uu, uu, uu, uu, uu, uu, uu, uu, uu, uu, .c (.sl (.int .u8) v22 false), .c (.int .i64 v23), .c (.int .i64 v24), uu, uu, uu, uu, uu, uu, uu, uu, uu, uu, uu, uu, uu, uu, uu, uu, uu, uu, uu, uu, uu, uu, uu, uu, uu, uu, uu, uu, uu, uu, uu, uu, uu, uu, uu, uu, uu, uu, uu, uu, uu, uu, uu, uu, uu, uu, uu, uu, uu, uu, uu, uu, uu, uu, uu, uu, uu, uu, uu, uu, uu, uu, uu, uu, uu, uu, uu, uu, uu, uu, uu, uu, uu, uu, uu, uu, uu, uu, uu], hp := (upd (upd emp 500379999 (.arr (.int .i64) v500379999 false)) 5 (.box [.int .i64 j5_0, .osl])) }
noncomputable def L4_2 (n : Nat × Nat) (m : Nat) (room9 : Int) (j5_0 : Int) (j5_1 : List Int) (l8 : List (Int × Int)) : Option R4 := loopN (F4_13 n) m { tm := [uu, uu, uu, uu, uu, .ptr 5 0, uu, uu, .own 8 none false, .c (.int .i64 room9), uu, uu, uu, uu, uu, uu, uu, uu, uu, uu, uu, uu, uu, uu, uu, uu, uu, uu, uu, uu, uu, uu, uu, uu, uu, uu, uu, uu, uu, uu, uu, uu, uu, uu, uu, uu, uu, uu, uu, uu, uu, uu, uu, uu, uu, uu, uu, uu, uu, uu, uu, uu, uu, uu, uu, uu, uu, uu, uu, uu, uu, uu, uu, uu, uu, uu, uu, uu, uu, uu, uu, uu, uu, uu, uu, uu, uu, uu, uu, uu, uu, uu, uu, uu, uu, uu, uu, uu, uu, uu, uu, uu, uu, uu], hp := (upd (upd emp 8 (.arr (.pair (.int .i64) (.int .i64)) l8 false)) 5 (.box [.int .i64 j5_0, .sl (.int .i64) j5_1 false])) }
noncomputable def L4_3 (n : Nat × Nat) (m : Nat) (v88 : Int) (v89 : Int) (l8 : List (Int × Int)) (v87 : List (Int × Int)) : Option R4 := loopN (F4_26 n) m { tm := [uu, uu, uu, uu, uu, uu, uu, uu, .own 8 none false, uu, uu, uu, uu, uu, uu, uu, uu, uu, uu, uu, uu, uu, uu, uu, uu, uu, uu, uu, uu, uu, uu, uu, uu, uu, uu, uu, uu, uu, uu, uu, uu, uu, uu, uu, uu, uu, uu, uu, uu, uu, uu, uu, uu, uu, uu, uu, uu, uu, uu, uu, uu, uu, uu, uu, uu, uu, uu, uu, uu, uu, uu, uu, uu, uu, uu, uu, uu, uu, uu, uu, uu, uu, uu, uu, uu, uu, uu, .own 87 none false, .c (.int .i64 v88), .c (.int .i64 v89), uu, uu, uu, uu, uu, uu, uu, uu, uu, uu, uu, uu, uu, uu], hp := (upd (upd emp 87 (.arr (.pair (.int .i64) (.int .i64)) v87 false)) 8 (.arr (.pair (.int .i64) (.int .i64)) l8 false)) }
theorem L4_1_eq (n : Nat × Nat) (m1 : Nat) (v22 : List Int) (v23 : Int) (v24 : Int) (j5_0 : Int) (v500379999 : List Int) : L4_1 n (m1 + 1) v22 v23 v24 j5_0 v500379999 =
 (bif decide (v24 < v23) then (idx v22 v24).bind fun x1' =>
 (bif 6 == 0 then none
 else (bif decide (v500379999.length + [Int.tmod (wr .i64 x1') 6].length ≤ lim) then L4_1 n m1 v22 v23 (wr .i64 (v24 + 1)) j5_0 (v500379999 ++ [Int.tmod (wr .i64 x1') 6])
 else none))
 else L4_2 n n.1 5 j5_0 v500379999 []) := by kernel_rfl
theorem L4_2_eq (n : Nat × Nat) (m1 : Nat) (room9 : Int) (j5_0 : Int) (j5_1 : List Int) (l8 : List (Int × Int)) : L4_2 n (m1 + 1) room9 j5_0 j5_1 l8 =
 (bif decide (room9 > 0) then (S17 n (room9, j5_1)).bind fun r2' =>
 ((bif ((r2'.2 != 0) == false) then some (decide (r2'.1 < 0))
 else some true)).bind fun b3' =>
 ((bif (b3' == false) then some (decide (r2'.1 > 12))
 else some true)).bind fun b4' =>
 (bif b4' then some false
 else (bif decide (l8.length + [(r2'.1, room9)].length ≤ lim) then L4_2 n m1 (wr .i64 (room9 - 1)) room9 j5_1 (l8 ++ [(r2'.1, room9)])
 else none))
 else (S18 n l8).bind fun r5' =>
 (S19 n l8).bind fun r6' =>
 ((bif ((r5'.2 != 13) == false) then some (r6'.2 != 0)
 else some true)).bind fun b7' =>
 ((bif (b7' == false) then some ((r6'.1.length : Int) != (l8.length : Int))
 else some true)).bind fun b8' =>
 (bif b8' then some false
 else L4_3 n n.1 (r6'.1.length : Int) 0 l8 r6'.1)) := by kernel_rfl
theorem L4_3_eq (n : Nat × Nat) (m1 : Nat) (v88 : Int) (v89 : Int) (l8 : List (Int × Int)) (v87 : List (Int × Int)) : L4_3 n (m1 + 1) v88 v89 l8 v87 =
 (bif decide (v89 < v88) then (bif inB v89 v87.length then (idx v87 v89).bind fun x9' =>
 (bif inB v89 l8.length then (idx l8 v89).bind fun x10' =>
 (bif (!((x9'.1 == x10'.1) && ((x9'.2 == 1) && true))) then some false
 else L4_3 n m1 v88 (wr .i64 (v89 + 1)) l8 v87)
 else none)
 else none)
 else (S20 n).bind fun r11' =>
 some r11') := by kernel_rfl
noncomputable def S4 (n : Nat × Nat) (asked0 : Int) (pages1 : Int × Int × Int × Int × Int × Int × Int × Int × Int × Int × Int × Int) : Option R4 := run (E4 n) c4 an4 rt4 (fun _ _ => none) rt4 { tm := [.c (.int .u8 asked0), .agg [.int .u8 pages1.1, .int .u8 pages1.2.1, .int .u8 pages1.2.2.1, .int .u8 pages1.2.2.2.1, .int .u8 pages1.2.2.2.2.1, .int .u8 pages1.2.2.2.2.2.1, .int .u8 pages1.2.2.2.2.2.2.1, .int .u8 pages1.2.2.2.2.2.2.2.1, .int .u8 pages1.2.2.2.2.2.2.2.2.1, .int .u8 pages1.2.2.2.2.2.2.2.2.2.1, .int .u8 pages1.2.2.2.2.2.2.2.2.2.2.1, .int .u8 pages1.2.2.2.2.2.2.2.2.2.2.2], uu, uu, uu, uu, uu, uu, uu, uu, uu, uu, uu, uu, uu, uu, uu, uu, uu, uu, uu, uu, uu, uu, uu, uu, uu, uu, uu, uu, uu, uu, uu, uu, uu, uu, uu, uu, uu, uu, uu, uu, uu, uu, uu, uu, uu, uu, uu, uu, uu, uu, uu, uu, uu, uu, uu, uu, uu, uu, uu, uu, uu, uu, uu, uu, uu, uu, uu, uu, uu, uu, uu, uu, uu, uu, uu, uu, uu, uu, uu, uu, uu, uu, uu, uu, uu, uu, uu, uu, uu, uu, uu, uu, uu, uu, uu, uu, uu, uu, uu, uu, uu, uu], hp := emp }
theorem S4_eq (n : Nat × Nat) (asked0 : Int) (pages1 : Int × Int × Int × Int × Int × Int × Int × Int × Int × Int × Int × Int) : S4 n asked0 pages1 =
 (bif 13 == 0 then none
 else (bif bounds none (some (Int.tmod (wr .i64 asked0) 13)) none 12 then L4_1 n n.1 ([pages1.1, pages1.2.1, pages1.2.2.1, pages1.2.2.2.1, pages1.2.2.2.2.1, pages1.2.2.2.2.2.1, pages1.2.2.2.2.2.2.1, pages1.2.2.2.2.2.2.2.1, pages1.2.2.2.2.2.2.2.2.1, pages1.2.2.2.2.2.2.2.2.2.1, pages1.2.2.2.2.2.2.2.2.2.2.1, pages1.2.2.2.2.2.2.2.2.2.2.2].take (Int.toNat (Int.tmod (wr .i64 asked0) 13))) (([pages1.1, pages1.2.1, pages1.2.2.1, pages1.2.2.2.1, pages1.2.2.2.2.1, pages1.2.2.2.2.2.1, pages1.2.2.2.2.2.2.1, pages1.2.2.2.2.2.2.2.1, pages1.2.2.2.2.2.2.2.2.1, pages1.2.2.2.2.2.2.2.2.2.1, pages1.2.2.2.2.2.2.2.2.2.2.1, pages1.2.2.2.2.2.2.2.2.2.2.2].take (Int.toNat (Int.tmod (wr .i64 asked0) 13))).length : Int) 0 0 []
 else none)) := by kernel_rfl
theorem S4_run (n : Nat × Nat) (xs : pksDen pk4) : S4 n xs.1 xs.2.1 = runG (E4 n) noScope c4 an4 (rtG rk4) (fun _ _ => none) (rtG rk4) (st0 pk4 xs Tryd.f4.ntmps) := by kernel_rfl
noncomputable def P4 (n : Nat × Nat) := phiOf pk4 rk4 (fun xs => S4 n xs.1 xs.2.1)
theorem env4 (n : Nat × Nat) : EnvOK Tryd.prog (E4 n) := envOK0 (consPhi_ok (FC17 n) call17 (consPhi_ok (FC18 n) call18 (consPhi_ok (FC19 n) call19 (consPhi_ok (FC20 n) call20 noPhi_ok)))) rfl rfl
theorem par4 (n : Nat × Nat) : EnvPar (E4 n) := envPar0 (consPhi_par phiOf_Par1 (consPhi_par phiOf_Par1 (consPhi_par phiOf_Par1 (consPhi_par phiOf_Par1 noPhi_par)))) rfl
theorem FC4 (n : Nat × Nat) : FCs Tryd.prog 4 (P4 n) := phiOf_FCs fun xs r h vs hv => FC.of_runG tabOK eqsOK (env4 n) (par4 n) mixed (fun _ p _ => noScope_ok p.1 p.2) Tryd.func4 (c := c4) (an := an4) (pks := pk4) (rks := rk4) (by kernel_rfl) (by kernel_rfl) hv ((S4_run n xs).symm.trans h)
/-D 17 -/
noncomputable def D17 (n : Nat × Nat) (j0 : Int × List Int) : Option R17 := HF17 j0
theorem S17_D (n : Nat × Nat) (hn : n.2 = 1) : S17 n = D17 n := by unfold S17 D17; rfl
/-D 48 -/
noncomputable def DF48_1 (n : Nat × Nat) (f1 : (List (Int × Int)) → Int → Int → Option R48) (v13 : List (Int × Int)) (v14 : Int) (v15 : Int) : Option R48 :=
 (bif decide (v15 < v14) then (idx v13 v15).bind fun x1' =>
 ((bif (decide (x1'.1 < 0) == false) then some (decide (x1'.1 > 100))
 else some true)).bind fun b2' =>
 ((bif (b2' == false) then some (decide (x1'.2 < 1))
 else some true)).bind fun b3' =>
 ((bif (b3' == false) then some (decide (x1'.2 > 9))
 else some true)).bind fun b4' =>
 (bif b4' then some 1
 else f1 v13 v14 (wr .i64 (v15 + 1)))
 else some 0)
noncomputable def DL48_1 (n : Nat × Nat) (m : Nat) : (List (Int × Int)) → Int → Int → Option R48 := Nat.rec (motive := fun _ => (List (Int × Int)) → Int → Int → Option R48) (fun _ _ _ => none) (fun _ ih => DF48_1 n ih) m
theorem DL48_1_succ (n : Nat × Nat) (m : Nat) : DL48_1 n (m + 1) = DF48_1 n (DL48_1 n m) := rfl
theorem DL48_1_eq (n : Nat × Nat) (hn : n.2 = 1) : ∀ m, L48_1 n m = DL48_1 n m
  | 0 => by funext v13 v14 v15; kernel_rfl
  | m + 1 => by
    have ih := DL48_1_eq n hn m
    funext v13 v14 v15; refine (L48_1_eq n m v13 v14 v15).trans ?_
    rw [DL48_1_succ]
    unfold DF48_1
    (try simp only [ih]) <;> first | with_reducible rfl | rfl
noncomputable def D48 (n : Nat × Nat) (l0 : List (Int × Int)) : Option R48 :=
 (bif ((l0.length : Int) == 0) then some 4
 else (bif decide ((l0.length : Int) > 8) then some 3
 else DL48_1 n n.1 l0 (l0.length : Int) 0))
theorem S48_D (n : Nat × Nat) (hn : n.2 = 1) : S48 n = D48 n := by
  funext l0; refine (S48_eq n l0).trans ?_
  unfold D48
  (try simp only [DL48_1_eq n hn]) <;> first | with_reducible rfl | rfl
/-D 18 -/
noncomputable def DF18_1 (n : Nat × Nat) (f1 : (List (Int × Int)) → Int → Int → Option R18) (l0 : List (Int × Int)) (v13 : Int) (v14 : Int) : Option R18 :=
 (bif decide (v14 < v13) then (idx l0 v14).bind fun x2' =>
 (idx l0 (wr .i64 (v14 + 1))).bind fun x3' =>
 (bif decide (x2'.1 > x3'.1) then some (v14, 0)
 else f1 l0 v13 (wr .i64 (v14 + 1)))
 else some (0, 13))
noncomputable def DL18_1 (n : Nat × Nat) (m : Nat) : (List (Int × Int)) → Int → Int → Option R18 := Nat.rec (motive := fun _ => (List (Int × Int)) → Int → Int → Option R18) (fun _ _ _ => none) (fun _ ih => DF18_1 n ih) m
theorem DL18_1_succ (n : Nat × Nat) (m : Nat) : DL18_1 n (m + 1) = DF18_1 n (DL18_1 n m) := rfl
theorem DL18_1_eq (n : Nat × Nat) (hn : n.2 = 1) : ∀ m, L18_1 n m = DL18_1 n m
  | 0 => by funext l0 v13 v14; kernel_rfl
  | m + 1 => by
    have ih := DL18_1_eq n hn m
    funext l0 v13 v14; refine (L18_1_eq n m l0 v13 v14).trans ?_
    rw [DL18_1_succ]
    unfold DF18_1
    (try simp only [ih, S48_D n hn]) <;> first | with_reducible rfl | rfl
noncomputable def D18 (n : Nat × Nat) (l0 : List (Int × Int)) : Option R18 :=
 (D48 n l0).bind fun r1' =>
 (bif (r1' != 0) then some (0, r1')
 else DL18_1 n n.1 l0 (wr .i64 ((l0.length : Int) - 1)) 0)
theorem S18_D (n : Nat × Nat) (hn : n.2 = 1) : S18 n = D18 n := by
  funext l0; refine (S18_eq n l0).trans ?_
  unfold D18
  (try simp only [DL18_1_eq n hn, S48_D n hn]) <;> first | with_reducible rfl | rfl
/-D 136 -/
noncomputable def DF136_1 (n : Nat × Nat) (f1 : Int → Int → Option R136) (a0 : Int) (b1 : Int) : Option R136 :=
 (bif (b1 != 0) then (bif b1 == 0 then none
 else f1 b1 (Int.tmod a0 b1))
 else some a0)
noncomputable def DL136_1 (n : Nat × Nat) (m : Nat) : Int → Int → Option R136 := Nat.rec (motive := fun _ => Int → Int → Option R136) (fun _ _ => none) (fun _ ih => DF136_1 n ih) m
theorem DL136_1_succ (n : Nat × Nat) (m : Nat) : DL136_1 n (m + 1) = DF136_1 n (DL136_1 n m) := rfl
theorem DL136_1_eq (n : Nat × Nat) (hn : n.2 = 1) : ∀ m, L136_1 n m = DL136_1 n m
  | 0 => by funext a0 b1; kernel_rfl
  | m + 1 => by
    have ih := DL136_1_eq n hn m
    funext a0 b1; refine (L136_1_eq n m a0 b1).trans ?_
    rw [DL136_1_succ]
    unfold DF136_1
    (try simp only [ih]) <;> first | with_reducible rfl | rfl
noncomputable def D136 (n : Nat × Nat) (a0 : Int) (b1 : Int) : Option R136 :=
    DL136_1 n n.1 a0 b1
theorem S136_D (n : Nat × Nat) (hn : n.2 = 1) : S136 n = D136 n := by
  funext a0 b1; refine (S136_eq n a0 b1).trans ?_
  unfold D136
  (try simp only [DL136_1_eq n hn]) <;> first | with_reducible rfl | rfl
/-D 125 -/
noncomputable def D125 (n : Nat × Nat) (num0 : Int) (den1 : Int) : Option R125 :=
 (D136 n (if (wr .i64 (0 - num0)) > num0 then (wr .i64 (0 - num0)) else num0) den1).bind fun r1' =>
 (bif r1' == 0 then none
 else (bif r1' == 0 then none
 else some (wr .i64 (Int.tdiv num0 r1'), wr .i64 (Int.tdiv den1 r1'))))
theorem S125_D (n : Nat × Nat) (hn : n.2 = 1) : S125 n = D125 n := by
  funext num0 den1; refine (S125_eq n num0 den1).trans ?_
  unfold D125
  (try simp only [S136_D n hn]) <;> first | with_reducible rfl | rfl
/-D 110 -/
noncomputable def DF110_1 (n : Nat × Nat) (f1 : Int → Int → (List (Int × Int)) → Int → Int → Int → Int → Option R110) (sum3 : Int) (trust4 : Int) (v7 : List (Int × Int)) (v8 : Int) (v9 : Int) (v2_0 : Int) (v2_1 : Int) : Option R110 :=
 (bif decide (v9 < v8) then (idx v7 v9).bind fun x1' =>
      f1 (wr .i64 (sum3 + (wr .i64 (x1'.1 * x1'.2)))) (wr .i64 (trust4 + x1'.2)) v7 v8 (wr .i64 (v9 + 1)) v2_0 v2_1
 else (D125 n sum3 trust4).bind fun r2' =>
 some r2')
noncomputable def DL110_1 (n : Nat × Nat) (m : Nat) : Int → Int → (List (Int × Int)) → Int → Int → Int → Int → Option R110 := Nat.rec (motive := fun _ => Int → Int → (List (Int × Int)) → Int → Int → Int → Int → Option R110) (fun _ _ _ _ _ _ _ => none) (fun _ ih => DF110_1 n ih) m
theorem DL110_1_succ (n : Nat × Nat) (m : Nat) : DL110_1 n (m + 1) = DF110_1 n (DL110_1 n m) := rfl
theorem DL110_1_eq (n : Nat × Nat) (hn : n.2 = 1) : ∀ m, L110_1 n m = DL110_1 n m
  | 0 => by funext sum3 trust4 v7 v8 v9 v2_0 v2_1; kernel_rfl
  | m + 1 => by
    have ih := DL110_1_eq n hn m
    funext sum3 trust4 v7 v8 v9 v2_0 v2_1; refine (L110_1_eq n m sum3 trust4 v7 v8 v9 v2_0 v2_1).trans ?_
    rw [DL110_1_succ]
    unfold DF110_1
    (try simp only [ih, S125_D n hn]) <;> first | with_reducible rfl | rfl
noncomputable def D110 (n : Nat × Nat) (l0 : List (Int × Int)) : Option R110 :=
    DL110_1 n n.1 0 0 l0 (l0.length : Int) 0 0 0
theorem S110_D (n : Nat × Nat) (hn : n.2 = 1) : S110 n = D110 n := by
  funext l0; refine (S110_eq n l0).trans ?_
  unfold D110
  (try simp only [DL110_1_eq n hn, S125_D n hn]) <;> first | with_reducible rfl | rfl
/-D 111 -/
noncomputable def D111 (n : Nat × Nat) (a0 : Int × Int) (b1 : Int × Int) : Option R111 :=
 some (wr .i64 ((wr .i64 (a0.1 * b1.2)) - (wr .i64 (b1.1 * a0.2))))
theorem S111_D (n : Nat × Nat) (hn : n.2 = 1) : S111 n = D111 n := by
  funext a0 b1; refine (S111_eq n a0 b1).trans ?_
  unfold D111
  first | with_reducible rfl | rfl
/-D 112io1 -/
noncomputable def DF112io1_1 (n : Nat × Nat) (f1 : Int → Int → (List (Int × Int × Int × Int)) → Option R112io1) (i2 : Int) (j3 : Int) (v1000000000000 : List (Int × Int × Int × Int)) : Option R112io1 :=
 (bif decide (i2 < j3) then (bif inB j3 v1000000000000.length then (idx v1000000000000 j3).bind fun x1' =>
 (bif inB i2 v1000000000000.length then (idx v1000000000000 i2).bind fun x2' =>
 (bif inB i2 v1000000000000.length then (idx v1000000000000 i2).bind fun x3' =>
 (bif inB j3 (v1000000000000.set (Int.toNat i2) x1').length then (idx (v1000000000000.set (Int.toNat i2) x1') j3).bind fun x4' =>
              f1 (wr .i64 (i2 + 1)) (wr .i64 (j3 - 1)) ((v1000000000000.set (Int.toNat i2) x1').set (Int.toNat j3) x2')
 else none)
 else none)
 else none)
 else none)
 else some ((), v1000000000000, ()))
noncomputable def DL112io1_1 (n : Nat × Nat) (m : Nat) : Int → Int → (List (Int × Int × Int × Int)) → Option R112io1 := Nat.rec (motive := fun _ => Int → Int → (List (Int × Int × Int × Int)) → Option R112io1) (fun _ _ _ => none) (fun _ ih => DF112io1_1 n ih) m
theorem DL112io1_1_succ (n : Nat × Nat) (m : Nat) : DL112io1_1 n (m + 1) = DF112io1_1 n (DL112io1_1 n m) := rfl
theorem DL112io1_1_eq (n : Nat × Nat) (hn : n.2 = 1) : ∀ m, L112io1_1 n m = DL112io1_1 n m
  | 0 => by funext i2 j3 v1000000000000; kernel_rfl
  | m + 1 => by
    have ih := DL112io1_1_eq n hn m
    funext i2 j3 v1000000000000; refine (L112io1_1_eq n m i2 j3 v1000000000000).trans ?_
    rw [DL112io1_1_succ]
    unfold DF112io1_1
    (try simp only [ih]) <;> first | with_reducible rfl | rfl
noncomputable def D112io1 (n : Nat × Nat) (s0 : List (Int × Int × Int × Int)) : Option R112io1 :=
    DL112io1_1 n n.1 0 (wr .i64 ((s0.length : Int) - 1)) s0
theorem S112io1_D (n : Nat × Nat) (hn : n.2 = 1) : S112io1 n = D112io1 n := by
  funext s0; refine (S112io1_eq n s0).trans ?_
  unfold D112io1
  (try simp only [DL112io1_1_eq n hn]) <;> first | with_reducible rfl | rfl
/-D 82 -/
noncomputable def DF82_2 (n : Nat × Nat) (f1 : (List (Int × Int)) → Int → (List (Int × Int × Int × Int × Int)) → Option R82) (f2 : (List (Int × Int)) → Int → Bool → (List (Int × Int × Int × Int × Int)) → Int → Int → Int → Int → Int → Int → Int → Int → Option R82) (l0 : List (Int × Int)) (v4 : Int) (is7 : Bool) (known3 : List (Int × Int × Int × Int × Int)) (now5_0 : Int) (now5_1 : Int) (now5_2 : Int) (now5_3 : Int) (before6_0 : Int) (before6_1 : Int) (before6_2 : Int) (before6_3 : Int) : Option R82 :=
 ((bif (is7 == true) then (D111 n (before6_2, before6_3) (now5_2, now5_3)).bind fun r2' =>
 some (decide (r2' ≥ 0))
 else some false)).bind fun b3' =>
 (bif b3' then (bif (v4 == v4) && bounds (some before6_0) (some v4) (some v4) l0.length then (D110 n ((l0.take (Int.toNat v4)).drop (Int.toNat before6_0))).bind fun r4' =>
        f2 l0 v4 ((alook (known3.eraseP (fun p => p.1 == now5_0)) before6_0).isSome) (known3.eraseP (fun p => p.1 == now5_0)) before6_0 v4 r4'.1 r4'.2 (((alook (known3.eraseP (fun p => p.1 == now5_0)) before6_0).getD (0, 0, 0, 0)).1) ((((alook (known3.eraseP (fun p => p.1 == now5_0)) before6_0).getD (0, 0, 0, 0)).2).1) (((((alook (known3.eraseP (fun p => p.1 == now5_0)) before6_0).getD (0, 0, 0, 0)).2).2).1) (((((alook (known3.eraseP (fun p => p.1 == now5_0)) before6_0).getD (0, 0, 0, 0)).2).2).2)
 else none)
 else f1 l0 (wr .i64 (v4 + 1)) (aset known3 v4 (now5_0, now5_1, now5_2, now5_3)))
noncomputable def DL82_2 (n : Nat × Nat) (f1 : (List (Int × Int)) → Int → (List (Int × Int × Int × Int × Int)) → Option R82) (m : Nat) : (List (Int × Int)) → Int → Bool → (List (Int × Int × Int × Int × Int)) → Int → Int → Int → Int → Int → Int → Int → Int → Option R82 := Nat.rec (motive := fun _ => (List (Int × Int)) → Int → Bool → (List (Int × Int × Int × Int × Int)) → Int → Int → Int → Int → Int → Int → Int → Int → Option R82) (fun _ _ _ _ _ _ _ _ _ _ _ _ => none) (fun _ ih => DF82_2 n f1 ih) m
theorem DL82_2_succ (n : Nat × Nat) (f1 : (List (Int × Int)) → Int → (List (Int × Int × Int × Int × Int)) → Option R82) (m : Nat) : DL82_2 n f1 (m + 1) = DF82_2 n f1 (DL82_2 n f1 m) := rfl
theorem DL82_2_eq (n : Nat × Nat) (hn : n.2 = 1) (m1 : Nat) : ∀ m, L82_2 n m1 m = DL82_2 n (L82_1 n m1) m
  | 0 => by funext l0 v4 is7 known3 now5_0 now5_1 now5_2 now5_3 before6_0 before6_1 before6_2 before6_3; kernel_rfl
  | m + 1 => by
    have ih := DL82_2_eq n hn m1 m
    funext l0 v4 is7 known3 now5_0 now5_1 now5_2 now5_3 before6_0 before6_1 before6_2 before6_3; refine (L82_2_eq n m1 m l0 v4 is7 known3 now5_0 now5_1 now5_2 now5_3 before6_0 before6_1 before6_2 before6_3).trans ?_
    rw [DL82_2_succ]
    unfold DF82_2
    (try simp only [ih, S110_D n hn, S111_D n hn, S112io1_D n hn]) <;> first | with_reducible rfl | rfl
noncomputable def DF82_3 (n : Nat × Nat) (f1 : Int → (List (Int × Int × Int × Int × Int)) → (List (Int × Int × Int × Int)) → Option R82) (v9 : Int) (known3 : List (Int × Int × Int × Int × Int)) (out8 : List (Int × Int × Int × Int)) : Option R82 :=
 (bif decide (v9 > 0) then (bif decide (out8.length + [(((alook known3 v9).getD (0, 0, 0, 0)).1, (((alook known3 v9).getD (0, 0, 0, 0)).2).1, (((alook known3 v9).getD (0, 0, 0, 0)).2).2)].length ≤ lim) then f1 (((alook known3 v9).getD (0, 0, 0, 0)).1) known3 (out8 ++ [(((alook known3 v9).getD (0, 0, 0, 0)).1, (((alook known3 v9).getD (0, 0, 0, 0)).2).1, (((alook known3 v9).getD (0, 0, 0, 0)).2).2)])
 else none)
 else (D112io1 n out8).bind fun r5' =>
 (bif Nat.beq r5'.2.1.length out8.length then some r5'.2.1
 else none))
noncomputable def DL82_3 (n : Nat × Nat) (m : Nat) : Int → (List (Int × Int × Int × Int × Int)) → (List (Int × Int × Int × Int)) → Option R82 := Nat.rec (motive := fun _ => Int → (List (Int × Int × Int × Int × Int)) → (List (Int × Int × Int × Int)) → Option R82) (fun _ _ _ => none) (fun _ ih => DF82_3 n ih) m
theorem DL82_3_succ (n : Nat × Nat) (m : Nat) : DL82_3 n (m + 1) = DF82_3 n (DL82_3 n m) := rfl
theorem DL82_3_eq (n : Nat × Nat) (hn : n.2 = 1) : ∀ m, L82_3 n m = DL82_3 n m
  | 0 => by funext v9 known3 out8; kernel_rfl
  | m + 1 => by
    have ih := DL82_3_eq n hn m
    funext v9 known3 out8; refine (L82_3_eq n m v9 known3 out8).trans ?_
    rw [DL82_3_succ]
    unfold DF82_3
    (try simp only [ih, DL82_2_eq n hn, S110_D n hn, S111_D n hn, S112io1_D n hn]) <;> first | with_reducible rfl | rfl
noncomputable def DF82_1 (n : Nat × Nat) (f1 : (List (Int × Int)) → Int → (List (Int × Int × Int × Int × Int)) → Option R82) (l0 : List (Int × Int)) (v4 : Int) (known3 : List (Int × Int × Int × Int × Int)) : Option R82 :=
 (bif decide (v4 ≤ (l0.length : Int)) then (bif (v4 == v4) && bounds (some (wr .i64 (v4 - 1))) (some v4) (some v4) l0.length then (D110 n ((l0.take (Int.toNat v4)).drop (Int.toNat (wr .i64 (v4 - 1))))).bind fun r1' =>
        DL82_2 n f1 n.1 l0 v4 ((alook known3 (wr .i64 (v4 - 1))).isSome) known3 (wr .i64 (v4 - 1)) v4 r1'.1 r1'.2 (((alook known3 (wr .i64 (v4 - 1))).getD (0, 0, 0, 0)).1) ((((alook known3 (wr .i64 (v4 - 1))).getD (0, 0, 0, 0)).2).1) (((((alook known3 (wr .i64 (v4 - 1))).getD (0, 0, 0, 0)).2).2).1) (((((alook known3 (wr .i64 (v4 - 1))).getD (0, 0, 0, 0)).2).2).2)
 else none)
 else DL82_3 n n.1 (l0.length : Int) known3 [])
noncomputable def DL82_1 (n : Nat × Nat) (m : Nat) : (List (Int × Int)) → Int → (List (Int × Int × Int × Int × Int)) → Option R82 := Nat.rec (motive := fun _ => (List (Int × Int)) → Int → (List (Int × Int × Int × Int × Int)) → Option R82) (fun _ _ _ => none) (fun _ ih => DF82_1 n ih) m
theorem DL82_1_succ (n : Nat × Nat) (m : Nat) : DL82_1 n (m + 1) = DF82_1 n (DL82_1 n m) := rfl
theorem DL82_1_eq (n : Nat × Nat) (hn : n.2 = 1) : ∀ m, L82_1 n m = DL82_1 n m
  | 0 => by funext l0 v4 known3; kernel_rfl
  | m + 1 => by
    have ih := DL82_1_eq n hn m
    funext l0 v4 known3; refine (L82_1_eq n m l0 v4 known3).trans ?_
    rw [DL82_1_succ]
    unfold DF82_1
    (try simp only [ih, DL82_2_eq n hn, DL82_3_eq n hn, S110_D n hn, S111_D n hn, S112io1_D n hn]) <;> first | with_reducible rfl | rfl
noncomputable def D82 (n : Nat × Nat) (l0 : List (Int × Int)) : Option R82 :=
    DL82_1 n n.1 l0 1 []
theorem S82_D (n : Nat × Nat) (hn : n.2 = 1) : S82 n = D82 n := by
  funext l0; refine (S82_eq n l0).trans ?_
  unfold D82
  (try simp only [DL82_2_eq n hn, DL82_3_eq n hn, DL82_1_eq n hn, S110_D n hn, S111_D n hn, S112io1_D n hn]) <;> first | with_reducible rfl | rfl
/-D 49 -/
noncomputable def DF49_2 (n : Nat × Nat) (f1 : Int → Int → (List (Int × Int)) → (List (Int × Int × Int × Int)) → Option R49) (f2 : Int → Int → Int → Int → (List (Int × Int)) → Int → Int → Int → Int → (List (Int × Int × Int × Int)) → Option R49) (v8 : Int) (v9 : Int) (v17 : Int) (v18 : Int) (out3 : List (Int × Int)) (b5_0 : Int) (b5_1 : Int) (b5_2 : Int) (b5_3 : Int) (v7 : List (Int × Int × Int × Int)) : Option R49 :=
 (bif decide (v18 < v17) then (bif decide (out3.length + [(b5_2, b5_3)].length ≤ lim) then f2 v8 v9 v17 (wr .i64 (v18 + 1)) (out3 ++ [(b5_2, b5_3)]) b5_0 b5_1 b5_2 b5_3 v7
 else none)
 else f1 v8 (wr .i64 (v9 + 1)) out3 v7)
noncomputable def DL49_2 (n : Nat × Nat) (f1 : Int → Int → (List (Int × Int)) → (List (Int × Int × Int × Int)) → Option R49) (m : Nat) : Int → Int → Int → Int → (List (Int × Int)) → Int → Int → Int → Int → (List (Int × Int × Int × Int)) → Option R49 := Nat.rec (motive := fun _ => Int → Int → Int → Int → (List (Int × Int)) → Int → Int → Int → Int → (List (Int × Int × Int × Int)) → Option R49) (fun _ _ _ _ _ _ _ _ _ _ => none) (fun _ ih => DF49_2 n f1 ih) m
theorem DL49_2_succ (n : Nat × Nat) (f1 : Int → Int → (List (Int × Int)) → (List (Int × Int × Int × Int)) → Option R49) (m : Nat) : DL49_2 n f1 (m + 1) = DF49_2 n f1 (DL49_2 n f1 m) := rfl
theorem DL49_2_eq (n : Nat × Nat) (hn : n.2 = 1) (m1 : Nat) : ∀ m, L49_2 n m1 m = DL49_2 n (L49_1 n m1) m
  | 0 => by funext v8 v9 v17 v18 out3 b5_0 b5_1 b5_2 b5_3 v7; kernel_rfl
  | m + 1 => by
    have ih := DL49_2_eq n hn m1 m
    funext v8 v9 v17 v18 out3 b5_0 b5_1 b5_2 b5_3 v7; refine (L49_2_eq n m1 m v8 v9 v17 v18 out3 b5_0 b5_1 b5_2 b5_3 v7).trans ?_
    rw [DL49_2_succ]
    unfold DF49_2
    (try simp only [ih, S82_D n hn]) <;> first | with_reducible rfl | rfl
noncomputable def DF49_1 (n : Nat × Nat) (f1 : Int → Int → (List (Int × Int)) → (List (Int × Int × Int × Int)) → Option R49) (v8 : Int) (v9 : Int) (out3 : List (Int × Int)) (v7 : List (Int × Int × Int × Int)) : Option R49 :=
 (bif decide (v9 < v8) then (bif inB v9 v7.length then (idx v7 v9).bind fun x2' =>
        DL49_2 n f1 n.1 v8 v9 (wr .i64 (x2'.2.1 - x2'.1)) 0 out3 x2'.1 x2'.2.1 x2'.2.2.1 x2'.2.2.2 v7
 else none)
 else some out3)
noncomputable def DL49_1 (n : Nat × Nat) (m : Nat) : Int → Int → (List (Int × Int)) → (List (Int × Int × Int × Int)) → Option R49 := Nat.rec (motive := fun _ => Int → Int → (List (Int × Int)) → (List (Int × Int × Int × Int)) → Option R49) (fun _ _ _ _ => none) (fun _ ih => DF49_1 n ih) m
theorem DL49_1_succ (n : Nat × Nat) (m : Nat) : DL49_1 n (m + 1) = DF49_1 n (DL49_1 n m) := rfl
theorem DL49_1_eq (n : Nat × Nat) (hn : n.2 = 1) : ∀ m, L49_1 n m = DL49_1 n m
  | 0 => by funext v8 v9 out3 v7; kernel_rfl
  | m + 1 => by
    have ih := DL49_1_eq n hn m
    funext v8 v9 out3 v7; refine (L49_1_eq n m v8 v9 out3 v7).trans ?_
    rw [DL49_1_succ]
    unfold DF49_1
    (try simp only [ih, DL49_2_eq n hn, S82_D n hn]) <;> first | with_reducible rfl | rfl
noncomputable def D49 (n : Nat × Nat) (l0 : List (Int × Int)) : Option R49 :=
 (D82 n l0).bind fun r1' =>
    DL49_1 n n.1 (r1'.length : Int) 0 [] r1'
theorem S49_D (n : Nat × Nat) (hn : n.2 = 1) : S49 n = D49 n := by
  funext l0; refine (S49_eq n l0).trans ?_
  unfold D49
  (try simp only [DL49_2_eq n hn, DL49_1_eq n hn, S82_D n hn]) <;> first | with_reducible rfl | rfl
/-D 19 -/
noncomputable def D19 (n : Nat × Nat) (l0 : List (Int × Int)) : Option R19 :=
 (D48 n l0).bind fun r1' =>
 (bif (r1' != 0) then some ([], r1')
 else (D49 n l0).bind fun r2' =>
 some (r2', 0))
theorem S19_D (n : Nat × Nat) (hn : n.2 = 1) : S19 n = D19 n := by
  funext l0; refine (S19_eq n l0).trans ?_
  unfold D19
  (try simp only [S48_D n hn, S49_D n hn]) <;> first | with_reducible rfl | rfl
/-D 101 -/
noncomputable def D101 (n : Nat × Nat) (x0 : Int) : Option R101 :=
 some (x0 != x0)
theorem S101_D (n : Nat × Nat) (hn : n.2 = 1) : S101 n = D101 n := by
  funext x0; refine (S101_eq n x0).trans ?_
  unfold D101
  first | with_reducible rfl | rfl
/-D 69 -/
noncomputable def D69 (n : Nat × Nat) (x0 : Int) (y1 : Int) : Option R69 :=
 (D101 n x0).bind fun r1' =>
 (D101 n y1).bind fun r2' =>
 (bif r1' then (bif r2' then some 0
 else some (-1))
 else (bif r2' then some 1
 else (bif decide (x0 < y1) then some (-1)
 else (bif decide (x0 > y1) then some 1
 else some 0))))
theorem S69_D (n : Nat × Nat) (hn : n.2 = 1) : S69 n = D69 n := by
  funext x0 y1; refine (S69_eq n x0 y1).trans ?_
  unfold D69
  (try simp only [S101_D n hn]) <;> first | with_reducible rfl | rfl
/-D 37 -/
noncomputable def DF37_1 (n : Nat × Nat) (f1 : List Int → List Int → List Int → Int → Int → Option R37) (s10 : List Int) (s21 : List Int) (v9 : List Int) (v10 : Int) (v11 : Int) : Option R37 :=
 (bif decide (v11 < v10) then (idx v9 v11).bind fun x1' =>
 (bif decide (v11 ≥ (s21.length : Int)) then some 1
 else (idx s21 v11).bind fun x2' =>
 (D69 n x1' x2').bind fun r3' =>
 (bif (r3' != 0) then some r3'
 else f1 s10 s21 v9 v10 (wr .i64 (v11 + 1))))
 else (bif decide ((s10.length : Int) < (s21.length : Int)) then some (-1)
 else some 0))
noncomputable def DL37_1 (n : Nat × Nat) (m : Nat) : List Int → List Int → List Int → Int → Int → Option R37 := Nat.rec (motive := fun _ => List Int → List Int → List Int → Int → Int → Option R37) (fun _ _ _ _ _ => none) (fun _ ih => DF37_1 n ih) m
theorem DL37_1_succ (n : Nat × Nat) (m : Nat) : DL37_1 n (m + 1) = DF37_1 n (DL37_1 n m) := rfl
theorem DL37_1_eq (n : Nat × Nat) (hn : n.2 = 1) : ∀ m, L37_1 n m = DL37_1 n m
  | 0 => by funext s10 s21 v9 v10 v11; kernel_rfl
  | m + 1 => by
    have ih := DL37_1_eq n hn m
    funext s10 s21 v9 v10 v11; refine (L37_1_eq n m s10 s21 v9 v10 v11).trans ?_
    rw [DL37_1_succ]
    unfold DF37_1
    (try simp only [ih, S69_D n hn]) <;> first | with_reducible rfl | rfl
noncomputable def D37 (n : Nat × Nat) (s10 : List Int) (s21 : List Int) : Option R37 :=
    DL37_1 n n.1 s10 s21 s10 (s10.length : Int) 0
theorem S37_D (n : Nat × Nat) (hn : n.2 = 1) : S37 n = D37 n := by
  funext s10 s21; refine (S37_eq n s10 s21).trans ?_
  unfold D37
  (try simp only [DL37_1_eq n hn, S69_D n hn]) <;> first | with_reducible rfl | rfl
/-D 50 -/
noncomputable def DL50_3 (n : Nat × Nat) (f1 : (List (Int × Int)) → Int → Int → List Int → Option R50) (f2 : (List (Int × Int)) → Int → Int → Bool → Int → Int → (List (Int × Int)) → Int → Int → List Int → List Int → Option R50) (l0 : List (Int × Int)) (v6 : Int) (v8 : Int) (good9 : Bool) (v19 : Int) (v20 : Int) (v23 : List (Int × Int)) (v24 : Int) (v25 : Int) (best5 : List Int) (out7 : List Int) : Option R50 :=
    f2 l0 v6 v8 good9 v19 v20 v23 v24 (wr .i64 (v25 + 1)) best5 out7
theorem DL50_3_eq (n : Nat × Nat) (hn : n.2 = 1) (m1 m2 : Nat) : L50_3 n m1 m2 = DL50_3 n (L50_1 n m1) (L50_2 n m1 m2) := by
  funext l0 v6 v8 good9 v19 v20 v23 v24 v25 best5 out7; refine ((held_eq hn _).trans (L50_3_raw n m1 m2 l0 v6 v8 good9 v19 v20 v23 v24 v25 best5 out7)).trans ?_
  unfold DL50_3
  (try simp only [S37_D n hn, S48_D n hn]) <;> first | with_reducible rfl | rfl
noncomputable def DL50_4 (n : Nat × Nat) (f1 : (List (Int × Int)) → Int → Int → List Int → Option R50) (l0 : List (Int × Int)) (v19 : Int) (v20 : Int) (best5 : List Int) : Option R50 :=
    f1 l0 v19 (wr .i64 (v20 + 1)) best5
theorem DL50_4_eq (n : Nat × Nat) (hn : n.2 = 1) (m1 : Nat) : L50_4 n m1 = DL50_4 n (L50_1 n m1) := by
  funext l0 v19 v20 best5; refine ((held_eq hn _).trans (L50_4_raw n m1 l0 v19 v20 best5)).trans ?_
  unfold DL50_4
  (try simp only [DL50_3_eq n hn, S37_D n hn, S48_D n hn]) <;> first | with_reducible rfl | rfl
noncomputable def DF50_2 (n : Nat × Nat) (f1 : (List (Int × Int)) → Int → Int → List Int → Option R50) (f2 : (List (Int × Int)) → Int → Int → Bool → Int → Int → (List (Int × Int)) → Int → Int → List Int → List Int → Option R50) (l0 : List (Int × Int)) (v6 : Int) (v8 : Int) (good9 : Bool) (v19 : Int) (v20 : Int) (v23 : List (Int × Int)) (v24 : Int) (v25 : Int) (best5 : List Int) (out7 : List Int) : Option R50 :=
 (bif decide (v25 < v24) then (idx v23 v25).bind fun x2' =>
 (bif decide (v25 < 0) then none
 else (bif ((wr .i64 (BitVec.ofInt (IntKind.bits .i64) (Int.fdiv v6 (2 ^ (min (Int.toNat v25) (IntKind.bits .i64)))) &&& BitVec.ofInt (IntKind.bits .i64) 1).toNat) == 1) then (bif decide (out7.length + [v25].length ≤ lim) then DL50_3 n f1 f2 l0 v6 v8 good9 v19 v20 v23 v24 v25 best5 (out7 ++ [v25])
 else none)
 else ((bif (good9 == true) then some (decide (x2'.1 ≥ v8))
 else some false)).bind fun b3' =>
          DL50_3 n f1 f2 l0 v6 x2'.1 b3' v19 v20 v23 v24 v25 best5 out7))
 else ((bif (good9 == true) then ((bif (best5.isEmpty == false) then some (decide ((out7.length : Int) < (best5.length : Int)))
 else some true)).bind fun b4' =>
 ((bif (b4' == false) then ((bif (((out7.length : Int) == (best5.length : Int)) == true) then (D37 n out7 best5).bind fun r5' =>
 some (decide (r5' < 0))
 else some false)).bind fun b6' =>
 some b6'
 else some true)).bind fun b7' =>
 some b7'
 else some false)).bind fun b8' =>
 (bif b8' then (bif out7.isEmpty then some ([], 0)
 else DL50_4 n f1 l0 v19 v20 out7)
 else DL50_4 n f1 l0 v19 v20 best5))
noncomputable def DL50_2 (n : Nat × Nat) (f1 : (List (Int × Int)) → Int → Int → List Int → Option R50) (m : Nat) : (List (Int × Int)) → Int → Int → Bool → Int → Int → (List (Int × Int)) → Int → Int → List Int → List Int → Option R50 := Nat.rec (motive := fun _ => (List (Int × Int)) → Int → Int → Bool → Int → Int → (List (Int × Int)) → Int → Int → List Int → List Int → Option R50) (fun _ _ _ _ _ _ _ _ _ _ _ => none) (fun _ ih => DF50_2 n f1 ih) m
theorem DL50_2_succ (n : Nat × Nat) (f1 : (List (Int × Int)) → Int → Int → List Int → Option R50) (m : Nat) : DL50_2 n f1 (m + 1) = DF50_2 n f1 (DL50_2 n f1 m) := rfl
theorem DL50_2_eq (n : Nat × Nat) (hn : n.2 = 1) (m1 : Nat) : ∀ m, L50_2 n m1 m = DL50_2 n (L50_1 n m1) m
  | 0 => by funext l0 v6 v8 good9 v19 v20 v23 v24 v25 best5 out7; kernel_rfl
  | m + 1 => by
    have ih := DL50_2_eq n hn m1 m
    funext l0 v6 v8 good9 v19 v20 v23 v24 v25 best5 out7; refine (L50_2_eq n m1 m l0 v6 v8 good9 v19 v20 v23 v24 v25 best5 out7).trans ?_
    rw [DL50_2_succ]
    unfold DF50_2
    (try simp only [ih, DL50_3_eq n hn, DL50_4_eq n hn, S37_D n hn, S48_D n hn]) <;> first | with_reducible rfl | rfl
noncomputable def DF50_1 (n : Nat × Nat) (f1 : (List (Int × Int)) → Int → Int → List Int → Option R50) (l0 : List (Int × Int)) (v19 : Int) (v20 : Int) (best5 : List Int) : Option R50 :=
 (bif decide (v20 < v19) then DL50_2 n f1 n.1 l0 v20 (-1) true v19 v20 l0 (l0.length : Int) 0 best5 []
 else some (best5, 0))
noncomputable def DL50_1 (n : Nat × Nat) (m : Nat) : (List (Int × Int)) → Int → Int → List Int → Option R50 := Nat.rec (motive := fun _ => (List (Int × Int)) → Int → Int → List Int → Option R50) (fun _ _ _ _ => none) (fun _ ih => DF50_1 n ih) m
theorem DL50_1_succ (n : Nat × Nat) (m : Nat) : DL50_1 n (m + 1) = DF50_1 n (DL50_1 n m) := rfl
theorem DL50_1_eq (n : Nat × Nat) (hn : n.2 = 1) : ∀ m, L50_1 n m = DL50_1 n m
  | 0 => by funext l0 v19 v20 best5; kernel_rfl
  | m + 1 => by
    have ih := DL50_1_eq n hn m
    funext l0 v19 v20 best5; refine (L50_1_eq n m l0 v19 v20 best5).trans ?_
    rw [DL50_1_succ]
    unfold DF50_1
    (try simp only [ih, DL50_3_eq n hn, DL50_4_eq n hn, DL50_2_eq n hn, S37_D n hn, S48_D n hn]) <;> first | with_reducible rfl | rfl
noncomputable def D50 (n : Nat × Nat) (l0 : List (Int × Int)) : Option R50 :=
 (D48 n l0).bind fun r1' =>
 (bif (r1' != 0) then some ([], r1')
 else (bif decide ((l0.length : Int) < 0) then none
 else DL50_1 n n.1 l0 (wr .i64 (1 * 2 ^ (min (Int.toNat (l0.length : Int)) (IntKind.bits .i64)))) 0 []))
theorem S50_D (n : Nat × Nat) (hn : n.2 = 1) : S50 n = D50 n := by
  funext l0; refine (S50_eq n l0).trans ?_
  unfold D50
  (try simp only [DL50_3_eq n hn, DL50_4_eq n hn, DL50_2_eq n hn, DL50_1_eq n hn, S37_D n hn, S48_D n hn]) <;> first | with_reducible rfl | rfl
/-D 14 -/
noncomputable def DF14_1 (n : Nat × Nat) (f1 : List Int → List Int → Int → Int → Option R14) (a0 : List Int) (b1 : List Int) (v12 : Int) (v13 : Int) : Option R14 :=
 (bif decide (v13 < v12) then (idx a0 v13).bind fun x1' =>
 (idx b1 v13).bind fun x2' =>
 (bif (x1' != x2') then some false
 else f1 a0 b1 v12 (wr .i64 (v13 + 1)))
 else some true)
noncomputable def DL14_1 (n : Nat × Nat) (m : Nat) : List Int → List Int → Int → Int → Option R14 := Nat.rec (motive := fun _ => List Int → List Int → Int → Int → Option R14) (fun _ _ _ _ => none) (fun _ ih => DF14_1 n ih) m
theorem DL14_1_succ (n : Nat × Nat) (m : Nat) : DL14_1 n (m + 1) = DF14_1 n (DL14_1 n m) := rfl
theorem DL14_1_eq (n : Nat × Nat) (hn : n.2 = 1) : ∀ m, L14_1 n m = DL14_1 n m
  | 0 => by funext a0 b1 v12 v13; kernel_rfl
  | m + 1 => by
    have ih := DL14_1_eq n hn m
    funext a0 b1 v12 v13; refine (L14_1_eq n m a0 b1 v12 v13).trans ?_
    rw [DL14_1_succ]
    unfold DF14_1
    (try simp only [ih]) <;> first | with_reducible rfl | rfl
noncomputable def D14 (n : Nat × Nat) (a0 : List Int) (b1 : List Int) : Option R14 :=
 (bif ((a0.length : Int) != (b1.length : Int)) then some false
 else DL14_1 n n.1 a0 b1 (a0.length : Int) 0)
theorem S14_D (n : Nat × Nat) (hn : n.2 = 1) : S14 n = D14 n := by
  funext a0 b1; refine (S14_eq n a0 b1).trans ?_
  unfold D14
  (try simp only [DL14_1_eq n hn]) <;> first | with_reducible rfl | rfl
/-D 117 -/
noncomputable def DF117_1 (n : Nat × Nat) (f1 : (List (Int × Int)) → Int → Int → Int → Int → Option R117) (s0 : List (Int × Int)) (v7 : Int) (v8 : Int) (v3_0 : Int) (v3_1 : Int) : Option R117 :=
 (bif decide (v8 < v7) then (idx s0 v8).bind fun x1' =>
 (bif ((v3_0 == x1'.1) && ((v3_1 == x1'.2) && true)) then some v8
 else f1 s0 v7 (wr .i64 (v8 + 1)) v3_0 v3_1)
 else some (-1))
noncomputable def DL117_1 (n : Nat × Nat) (m : Nat) : (List (Int × Int)) → Int → Int → Int → Int → Option R117 := Nat.rec (motive := fun _ => (List (Int × Int)) → Int → Int → Int → Int → Option R117) (fun _ _ _ _ _ => none) (fun _ ih => DF117_1 n ih) m
theorem DL117_1_succ (n : Nat × Nat) (m : Nat) : DL117_1 n (m + 1) = DF117_1 n (DL117_1 n m) := rfl
theorem DL117_1_eq (n : Nat × Nat) (hn : n.2 = 1) : ∀ m, L117_1 n m = DL117_1 n m
  | 0 => by funext s0 v7 v8 v3_0 v3_1; kernel_rfl
  | m + 1 => by
    have ih := DL117_1_eq n hn m
    funext s0 v7 v8 v3_0 v3_1; refine (L117_1_eq n m s0 v7 v8 v3_0 v3_1).trans ?_
    rw [DL117_1_succ]
    unfold DF117_1
    (try simp only [ih]) <;> first | with_reducible rfl | rfl
noncomputable def D117 (n : Nat × Nat) (s0 : List (Int × Int)) (v1 : Int × Int) : Option R117 :=
    DL117_1 n n.1 s0 (s0.length : Int) 0 v1.1 v1.2
theorem S117_D (n : Nat × Nat) (hn : n.2 = 1) : S117 n = D117 n := by
  funext s0 v1; refine (S117_eq n s0 v1).trans ?_
  unfold D117
  (try simp only [DL117_1_eq n hn]) <;> first | with_reducible rfl | rfl
/-D 90 -/
noncomputable def D90 (n : Nat × Nat) (s0 : List (Int × Int)) (v1 : Int × Int) : Option R90 :=
 (D117 n s0 v1).bind fun r1' =>
 some (decide (r1' ≥ 0))
theorem S90_D (n : Nat × Nat) (hn : n.2 = 1) : S90 n = D90 n := by
  funext s0 v1; refine (S90_eq n s0 v1).trans ?_
  unfold D90
  (try simp only [S117_D n hn]) <;> first | with_reducible rfl | rfl
/-D 126 -/
noncomputable def DF126_1 (n : Nat × Nat) (f1 : (List (Int × Int)) → Int → Int → Int → (List (Int × Int)) → Option R126) (v20 : List (Int × Int)) (v21 : Int) (v22 : Int) (b1_0 : Int) (b1_1 : List (Int × Int)) : Option R126 :=
 (bif decide (v22 < v21) then (idx v20 v22).bind fun x2' =>
 (bif inB 0 2 then (idx [x2'.1, x2'.2] 0).bind fun x3' =>
 (bif inB 1 2 then (idx [x2'.1, x2'.2] 1).bind fun x4' =>
 ((bif (decide ((if x4' < x3' then x4' else x3') < 0) == false) then (bif inB 0 2 then (idx [x2'.1, x2'.2] 0).bind fun x5' =>
 (bif inB 1 2 then (idx [x2'.1, x2'.2] 1).bind fun x6' =>
 some (decide ((if x6' > x5' then x6' else x5') ≥ b1_0))
 else none)
 else none)
 else some true)).bind fun b7' =>
 (bif b7' then some 2
 else (bif inB 0 2 then (idx [x2'.1, x2'.2] 0).bind fun x8' =>
 (bif inB 1 2 then (idx [x2'.1, x2'.2] 1).bind fun x9' =>
 (bif decide (x8' ≥ x9') then some 7
 else (bif bounds none (some v22) none b1_1.length then (D90 n (b1_1.take (Int.toNat v22)) x2').bind fun r10' =>
 (bif r10' then some 6
 else f1 v20 v21 (wr .i64 (v22 + 1)) b1_0 b1_1)
 else none))
 else none)
 else none))
 else none)
 else none)
 else some 0)
noncomputable def DL126_1 (n : Nat × Nat) (m : Nat) : (List (Int × Int)) → Int → Int → Int → (List (Int × Int)) → Option R126 := Nat.rec (motive := fun _ => (List (Int × Int)) → Int → Int → Int → (List (Int × Int)) → Option R126) (fun _ _ _ _ _ => none) (fun _ ih => DF126_1 n ih) m
theorem DL126_1_succ (n : Nat × Nat) (m : Nat) : DL126_1 n (m + 1) = DF126_1 n (DL126_1 n m) := rfl
theorem DL126_1_eq (n : Nat × Nat) (hn : n.2 = 1) : ∀ m, L126_1 n m = DL126_1 n m
  | 0 => by funext v20 v21 v22 b1_0 b1_1; kernel_rfl
  | m + 1 => by
    have ih := DL126_1_eq n hn m
    funext v20 v21 v22 b1_0 b1_1; refine (L126_1_eq n m v20 v21 v22 b1_0 b1_1).trans ?_
    rw [DL126_1_succ]
    unfold DF126_1
    (try simp only [ih, S90_D n hn]) <;> first | with_reducible rfl | rfl
noncomputable def D126 (n : Nat × Nat) (b0 : Int × List (Int × Int)) : Option R126 :=
 ((bif (decide (b0.1 < 1) == false) then some (decide (b0.1 > 7))
 else some true)).bind fun b1' =>
 (bif b1' then some 1
 else (bif decide ((b0.2.length : Int) > 10) then some 3
 else DL126_1 n n.1 b0.2 (b0.2.length : Int) 0 b0.1 b0.2))
theorem S126_D (n : Nat × Nat) (hn : n.2 = 1) : S126 n = D126 n := by
  funext b0; refine (S126_eq n b0).trans ?_
  unfold D126
  (try simp only [DL126_1_eq n hn, S90_D n hn]) <;> first | with_reducible rfl | rfl
/-D 137 -/
noncomputable def DF137_1 (n : Nat × Nat) (f1 : Int → List Int → Option R137) (v0 : Int) (out3 : List Int) : Option R137 :=
 (bif (v0 != 0) then (D41 n v0).bind fun r1' =>
 (bif decide (out3.length + [r1'].length ≤ lim) then f1 (wr .u64 (BitVec.ofInt (IntKind.bits .u64) v0 &&& BitVec.ofInt (IntKind.bits .u64) (wr .u64 (v0 - 1))).toNat) (out3 ++ [r1'])
 else none)
 else some out3)
noncomputable def DL137_1 (n : Nat × Nat) (m : Nat) : Int → List Int → Option R137 := Nat.rec (motive := fun _ => Int → List Int → Option R137) (fun _ _ => none) (fun _ ih => DF137_1 n ih) m
theorem DL137_1_succ (n : Nat × Nat) (m : Nat) : DL137_1 n (m + 1) = DF137_1 n (DL137_1 n m) := rfl
theorem DL137_1_eq (n : Nat × Nat) (hn : n.2 = 1) : ∀ m, L137_1 n m = DL137_1 n m
  | 0 => by funext v0 out3; kernel_rfl
  | m + 1 => by
    have ih := DL137_1_eq n hn m
    funext v0 out3; refine (L137_1_eq n m v0 out3).trans ?_
    rw [DL137_1_succ]
    unfold DF137_1
    (try simp only [ih, S41_D n hn]) <;> first | with_reducible rfl | rfl
noncomputable def D137 (n : Nat × Nat) (v0 : Int) : Option R137 :=
    DL137_1 n n.1 v0 []
theorem S137_D (n : Nat × Nat) (hn : n.2 = 1) : S137 n = D137 n := by
  funext v0; refine (S137_eq n v0).trans ?_
  unfold D137
  (try simp only [DL137_1_eq n hn, S41_D n hn]) <;> first | with_reducible rfl | rfl
/-D 144 -/
noncomputable def D144 (n : Nat × Nat) (p0 : Int × Int) (v1 : Int) : Option R144 :=
 (bif inB 0 2 then (idx [p0.1, p0.2] 0).bind fun x1' =>
 (bif decide (x1' < 0) then none
 else ((bif (((wr .u64 (BitVec.ofInt (IntKind.bits .u64) (Int.fdiv v1 (2 ^ (min (Int.toNat x1') (IntKind.bits .u64)))) &&& BitVec.ofInt (IntKind.bits .u64) 1).toNat) == 0) == true) then (bif inB 1 2 then (idx [p0.1, p0.2] 1).bind fun x2' =>
 (bif decide (x2' < 0) then none
 else some ((wr .u64 (BitVec.ofInt (IntKind.bits .u64) (Int.fdiv v1 (2 ^ (min (Int.toNat x2') (IntKind.bits .u64)))) &&& BitVec.ofInt (IntKind.bits .u64) 1).toNat) == 0))
 else none)
 else some false)).bind fun b3' =>
 some b3')
 else none)
theorem S144_D (n : Nat × Nat) (hn : n.2 = 1) : S144 n = D144 n := by
  funext p0 v1; refine (S144_eq n p0 v1).trans ?_
  unfold D144
  first | with_reducible rfl | rfl
/-D 148c144 -/
noncomputable def DF148c144_1 (n : Nat × Nat) (f1 : (List (Int × Int)) → Int → Int → Int → Option R148c144) (s0 : List (Int × Int)) (f1_0 : Int) (v7 : Int) (v8 : Int) : Option R148c144 :=
 (bif decide (v8 < v7) then (idx s0 v8).bind fun x1' =>
 (D144 n x1' f1_0).bind fun r2' =>
 (bif r2' then some v8
 else f1 s0 f1_0 v7 (wr .i64 (v8 + 1)))
 else some (-1))
noncomputable def DL148c144_1 (n : Nat × Nat) (m : Nat) : (List (Int × Int)) → Int → Int → Int → Option R148c144 := Nat.rec (motive := fun _ => (List (Int × Int)) → Int → Int → Int → Option R148c144) (fun _ _ _ _ => none) (fun _ ih => DF148c144_1 n ih) m
theorem DL148c144_1_succ (n : Nat × Nat) (m : Nat) : DL148c144_1 n (m + 1) = DF148c144_1 n (DL148c144_1 n m) := rfl
theorem DL148c144_1_eq (n : Nat × Nat) (hn : n.2 = 1) : ∀ m, L148c144_1 n m = DL148c144_1 n m
  | 0 => by funext s0 f1_0 v7 v8; kernel_rfl
  | m + 1 => by
    have ih := DL148c144_1_eq n hn m
    funext s0 f1_0 v7 v8; refine (L148c144_1_eq n m s0 f1_0 v7 v8).trans ?_
    rw [DL148c144_1_succ]
    unfold DF148c144_1
    (try simp only [ih, S144_D n hn]) <;> first | with_reducible rfl | rfl
noncomputable def D148c144 (n : Nat × Nat) (s0 : List (Int × Int)) (cp_1_0 : Int) : Option R148c144 :=
    DL148c144_1 n n.1 s0 cp_1_0 (s0.length : Int) 0
theorem S148c144_D (n : Nat × Nat) (hn : n.2 = 1) : S148c144 n = D148c144 n := by
  funext s0 cp_1_0; refine (S148c144_eq n s0 cp_1_0).trans ?_
  unfold D148c144
  (try simp only [DL148c144_1_eq n hn, S144_D n hn]) <;> first | with_reducible rfl | rfl
/-D 143c144 -/
noncomputable def D143c144 (n : Nat × Nat) (s0 : List (Int × Int)) (cp_1_0 : Int) : Option R143c144 :=
 (D148c144 n s0 cp_1_0).bind fun r1' =>
 some (decide (r1' ≥ 0))
theorem S143c144_D (n : Nat × Nat) (hn : n.2 = 1) : S143c144 n = D143c144 n := by
  funext s0 cp_1_0; refine (S143c144_eq n s0 cp_1_0).trans ?_
  unfold D143c144
  (try simp only [S148c144_D n hn]) <;> first | with_reducible rfl | rfl
/-D 138 -/
noncomputable def D138 (n : Nat × Nat) (b0 : Int × List (Int × Int)) (v1 : Int) : Option R138 :=
 (D143c144 n b0.2 v1).bind fun r1' =>
 some (!r1')
theorem S138_D (n : Nat × Nat) (hn : n.2 = 1) : S138 n = D138 n := by
  funext b0 v1; refine (S138_eq n b0 v1).trans ?_
  unfold D138
  (try simp only [S143c144_D n hn]) <;> first | with_reducible rfl | rfl
/-D 127 -/
noncomputable def DL127_2 (n : Nat × Nat) (f1 : Int → Int → Int → Int → (List (Int × Int)) → List Int → Option R127) (many5 : Int) (v10 : Int) (v11 : Int) (b1_0 : Int) (b1_1 : List (Int × Int)) (best4 : List Int) : Option R127 :=
    f1 many5 v10 (wr .u64 (v11 + 1)) b1_0 b1_1 best4
theorem DL127_2_eq (n : Nat × Nat) (hn : n.2 = 1) (m1 : Nat) : L127_2 n m1 = DL127_2 n (L127_1 n m1) := by
  funext many5 v10 v11 b1_0 b1_1 best4; refine ((held_eq hn _).trans (L127_2_raw n m1 many5 v10 v11 b1_0 b1_1 best4)).trans ?_
  unfold DL127_2
  (try simp only [S137_D n hn, S138_D n hn, S37_D n hn]) <;> first | with_reducible rfl | rfl
noncomputable def DF127_1 (n : Nat × Nat) (f1 : Int → Int → Int → Int → (List (Int × Int)) → List Int → Option R127) (many5 : Int) (v10 : Int) (v11 : Int) (b1_0 : Int) (b1_1 : List (Int × Int)) (best4 : List Int) : Option R127 :=
 (bif decide (v11 < v10) then (D137 n v11).bind fun r1' =>
 (D138 n (b1_0, b1_1) v11).bind fun r2' =>
 ((bif ((!r2') == false) then ((bif (decide (many5 > 0) == true) then some (decide ((r1'.length : Int) > (best4.length : Int)))
 else some false)).bind fun b3' =>
 some b3'
 else some true)).bind fun b4' =>
 (bif b4' then DL127_2 n f1 many5 v10 v11 b1_0 b1_1 best4
 else ((bif ((many5 == 0) == false) then some (decide ((r1'.length : Int) < (best4.length : Int)))
 else some true)).bind fun b5' =>
 (bif b5' then DL127_2 n f1 1 v10 v11 b1_0 b1_1 r1'
 else (D37 n r1' best4).bind fun r6' =>
 (bif decide (r6' < 0) then DL127_2 n f1 (wr .i64 (many5 + 1)) v10 v11 b1_0 b1_1 r1'
 else DL127_2 n f1 (wr .i64 (many5 + 1)) v10 v11 b1_0 b1_1 best4)))
 else some (best4, many5))
noncomputable def DL127_1 (n : Nat × Nat) (m : Nat) : Int → Int → Int → Int → (List (Int × Int)) → List Int → Option R127 := Nat.rec (motive := fun _ => Int → Int → Int → Int → (List (Int × Int)) → List Int → Option R127) (fun _ _ _ _ _ _ => none) (fun _ ih => DF127_1 n ih) m
theorem DL127_1_succ (n : Nat × Nat) (m : Nat) : DL127_1 n (m + 1) = DF127_1 n (DL127_1 n m) := rfl
theorem DL127_1_eq (n : Nat × Nat) (hn : n.2 = 1) : ∀ m, L127_1 n m = DL127_1 n m
  | 0 => by funext many5 v10 v11 b1_0 b1_1 best4; kernel_rfl
  | m + 1 => by
    have ih := DL127_1_eq n hn m
    funext many5 v10 v11 b1_0 b1_1 best4; refine (L127_1_eq n m many5 v10 v11 b1_0 b1_1 best4).trans ?_
    rw [DL127_1_succ]
    unfold DF127_1
    (try simp only [ih, DL127_2_eq n hn, S137_D n hn, S138_D n hn, S37_D n hn]) <;> first | with_reducible rfl | rfl
noncomputable def D127 (n : Nat × Nat) (b0 : Int × List (Int × Int)) : Option R127 :=
 (bif decide (b0.1 < 0) then none
 else DL127_1 n n.1 0 (wr .u64 (1 * 2 ^ (min (Int.toNat b0.1) (IntKind.bits .u64)))) 0 b0.1 b0.2 [])
theorem S127_D (n : Nat × Nat) (hn : n.2 = 1) : S127 n = D127 n := by
  funext b0; refine (S127_eq n b0).trans ?_
  unfold D127
  (try simp only [DL127_2_eq n hn, DL127_1_eq n hn, S137_D n hn, S138_D n hn, S37_D n hn]) <;> first | with_reducible rfl | rfl
/-D 113 -/
noncomputable def D113 (n : Nat × Nat) (b0 : Int × List (Int × Int)) : Option R113 :=
 (D126 n b0).bind fun r1' =>
 (bif (r1' != 0) then some ([], r1')
 else (D127 n b0).bind fun r2' =>
 some (r2'.1, 0))
theorem S113_D (n : Nat × Nat) (hn : n.2 = 1) : S113 n = D113 n := by
  funext b0; refine (S113_eq n b0).trans ?_
  unfold D113
  (try simp only [S126_D n hn, S127_D n hn]) <;> first | with_reducible rfl | rfl
/-D 66 -/
noncomputable def DF66_1 (n : Nat × Nat) (f1 : (List (Int × Int)) → Int → Int → Int → (List (Int × Int)) → Option R66) (v20 : List (Int × Int)) (v21 : Int) (v22 : Int) (b1_0 : Int) (b1_1 : List (Int × Int)) : Option R66 :=
 (bif decide (v22 < v21) then (idx v20 v22).bind fun x2' =>
 (bif inB 0 2 then (idx [x2'.1, x2'.2] 0).bind fun x3' =>
 (bif inB 1 2 then (idx [x2'.1, x2'.2] 1).bind fun x4' =>
 ((bif (decide ((if x4' < x3' then x4' else x3') < 0) == false) then (bif inB 0 2 then (idx [x2'.1, x2'.2] 0).bind fun x5' =>
 (bif inB 1 2 then (idx [x2'.1, x2'.2] 1).bind fun x6' =>
 some (decide ((if x6' > x5' then x6' else x5') ≥ b1_0))
 else none)
 else none)
 else some true)).bind fun b7' =>
 (bif b7' then some 2
 else (bif inB 0 2 then (idx [x2'.1, x2'.2] 0).bind fun x8' =>
 (bif inB 1 2 then (idx [x2'.1, x2'.2] 1).bind fun x9' =>
 (bif (x8' == x9') then some 5
 else (bif bounds none (some v22) none b1_1.length then (D90 n (b1_1.take (Int.toNat v22)) x2').bind fun r10' =>
 (bif r10' then some 6
 else f1 v20 v21 (wr .i64 (v22 + 1)) b1_0 b1_1)
 else none))
 else none)
 else none))
 else none)
 else none)
 else some 0)
noncomputable def DL66_1 (n : Nat × Nat) (m : Nat) : (List (Int × Int)) → Int → Int → Int → (List (Int × Int)) → Option R66 := Nat.rec (motive := fun _ => (List (Int × Int)) → Int → Int → Int → (List (Int × Int)) → Option R66) (fun _ _ _ _ _ => none) (fun _ ih => DF66_1 n ih) m
theorem DL66_1_succ (n : Nat × Nat) (m : Nat) : DL66_1 n (m + 1) = DF66_1 n (DL66_1 n m) := rfl
theorem DL66_1_eq (n : Nat × Nat) (hn : n.2 = 1) : ∀ m, L66_1 n m = DL66_1 n m
  | 0 => by funext v20 v21 v22 b1_0 b1_1; kernel_rfl
  | m + 1 => by
    have ih := DL66_1_eq n hn m
    funext v20 v21 v22 b1_0 b1_1; refine (L66_1_eq n m v20 v21 v22 b1_0 b1_1).trans ?_
    rw [DL66_1_succ]
    unfold DF66_1
    (try simp only [ih, S90_D n hn]) <;> first | with_reducible rfl | rfl
noncomputable def D66 (n : Nat × Nat) (b0 : Int × List (Int × Int)) : Option R66 :=
 ((bif (decide (b0.1 < 1) == false) then some (decide (b0.1 > 7))
 else some true)).bind fun b1' =>
 (bif b1' then some 1
 else (bif decide ((b0.2.length : Int) > 16) then some 3
 else DL66_1 n n.1 b0.2 (b0.2.length : Int) 0 b0.1 b0.2))
theorem S66_D (n : Nat × Nat) (hn : n.2 = 1) : S66 n = D66 n := by
  funext b0; refine (S66_eq n b0).trans ?_
  unfold D66
  (try simp only [DL66_1_eq n hn, S90_D n hn]) <;> first | with_reducible rfl | rfl
/-D 33 -/
noncomputable def DF33_1 (n : Nat × Nat) (f1 : (List (Int × Int)) → Int → Int → Int → Int → Int → Int → Int → Int → Int → Int → Int → Int → Int → Int → Int → Int → Int → Int → Option R33) (v18 : List (Int × Int)) (v19 : Int) (v20 : Int) (v2_0 : Int) (v2_1 : Int) (v2_2 : Int) (v2_3 : Int) (v2_4 : Int) (v2_5 : Int) (v2_6 : Int) (v2_7 : Int) (w4_0 : Int) (w4_1 : Int) (w4_2 : Int) (w4_3 : Int) (w4_4 : Int) (w4_5 : Int) (w4_6 : Int) (w4_7 : Int) : Option R33 :=
 (bif decide (v20 < v19) then (idx v18 v20).bind fun x2' =>
 (bif inB 0 2 then (idx [x2'.1, x2'.2] 0).bind fun x3' =>
 (bif inB x3' 7 then (idx [w4_1, w4_2, w4_3, w4_4, w4_5, w4_6, w4_7] x3').bind fun x4' =>
 (bif inB 1 2 then (idx [x2'.1, x2'.2] 1).bind fun x5' =>
 (bif decide (x5' < 0) then none
 else (bif inB x3' 7 then f1 v18 v19 (wr .i64 (v20 + 1)) v2_0 v2_1 v2_2 v2_3 v2_4 v2_5 v2_6 v2_7 w4_0 (bif (x3' == 0) then wr .u64 (BitVec.ofInt (IntKind.bits .u64) x4' ||| BitVec.ofInt (IntKind.bits .u64) (wr .u64 (1 * 2 ^ (min (Int.toNat x5') (IntKind.bits .u64))))).toNat else w4_1) (bif (x3' == 1) then wr .u64 (BitVec.ofInt (IntKind.bits .u64) x4' ||| BitVec.ofInt (IntKind.bits .u64) (wr .u64 (1 * 2 ^ (min (Int.toNat x5') (IntKind.bits .u64))))).toNat else w4_2) (bif (x3' == 2) then wr .u64 (BitVec.ofInt (IntKind.bits .u64) x4' ||| BitVec.ofInt (IntKind.bits .u64) (wr .u64 (1 * 2 ^ (min (Int.toNat x5') (IntKind.bits .u64))))).toNat else w4_3) (bif (x3' == 3) then wr .u64 (BitVec.ofInt (IntKind.bits .u64) x4' ||| BitVec.ofInt (IntKind.bits .u64) (wr .u64 (1 * 2 ^ (min (Int.toNat x5') (IntKind.bits .u64))))).toNat else w4_4) (bif (x3' == 4) then wr .u64 (BitVec.ofInt (IntKind.bits .u64) x4' ||| BitVec.ofInt (IntKind.bits .u64) (wr .u64 (1 * 2 ^ (min (Int.toNat x5') (IntKind.bits .u64))))).toNat else w4_5) (bif (x3' == 5) then wr .u64 (BitVec.ofInt (IntKind.bits .u64) x4' ||| BitVec.ofInt (IntKind.bits .u64) (wr .u64 (1 * 2 ^ (min (Int.toNat x5') (IntKind.bits .u64))))).toNat else w4_6) (bif (x3' == 6) then wr .u64 (BitVec.ofInt (IntKind.bits .u64) x4' ||| BitVec.ofInt (IntKind.bits .u64) (wr .u64 (1 * 2 ^ (min (Int.toNat x5') (IntKind.bits .u64))))).toNat else w4_7)
 else none))
 else none)
 else none)
 else none)
 else some ((w4_0, w4_1, w4_2, w4_3, w4_4, w4_5, w4_6, w4_7), 0))
noncomputable def DL33_1 (n : Nat × Nat) (m : Nat) : (List (Int × Int)) → Int → Int → Int → Int → Int → Int → Int → Int → Int → Int → Int → Int → Int → Int → Int → Int → Int → Int → Option R33 := Nat.rec (motive := fun _ => (List (Int × Int)) → Int → Int → Int → Int → Int → Int → Int → Int → Int → Int → Int → Int → Int → Int → Int → Int → Int → Int → Option R33) (fun _ _ _ _ _ _ _ _ _ _ _ _ _ _ _ _ _ _ _ => none) (fun _ ih => DF33_1 n ih) m
theorem DL33_1_succ (n : Nat × Nat) (m : Nat) : DL33_1 n (m + 1) = DF33_1 n (DL33_1 n m) := rfl
theorem DL33_1_eq (n : Nat × Nat) (hn : n.2 = 1) : ∀ m, L33_1 n m = DL33_1 n m
  | 0 => by funext v18 v19 v20 v2_0 v2_1 v2_2 v2_3 v2_4 v2_5 v2_6 v2_7 w4_0 w4_1 w4_2 w4_3 w4_4 w4_5 w4_6 w4_7; kernel_rfl
  | m + 1 => by
    have ih := DL33_1_eq n hn m
    funext v18 v19 v20 v2_0 v2_1 v2_2 v2_3 v2_4 v2_5 v2_6 v2_7 w4_0 w4_1 w4_2 w4_3 w4_4 w4_5 w4_6 w4_7; refine (L33_1_eq n m v18 v19 v20 v2_0 v2_1 v2_2 v2_3 v2_4 v2_5 v2_6 v2_7 w4_0 w4_1 w4_2 w4_3 w4_4 w4_5 w4_6 w4_7).trans ?_
    rw [DL33_1_succ]
    unfold DF33_1
    (try simp only [ih, S66_D n hn]) <;> first | with_reducible rfl | rfl
noncomputable def D33 (n : Nat × Nat) (b0 : Int × List (Int × Int)) : Option R33 :=
 (D66 n b0).bind fun r1' =>
 (bif (r1' != 0) then some ((b0.1, 0, 0, 0, 0, 0, 0, 0), r1')
 else DL33_1 n n.1 b0.2 (b0.2.length : Int) 0 0 0 0 0 0 0 0 0 b0.1 0 0 0 0 0 0 0)
theorem S33_D (n : Nat × Nat) (hn : n.2 = 1) : S33 n = D33 n := by
  funext b0; refine (S33_eq n b0).trans ?_
  unfold D33
  (try simp only [DL33_1_eq n hn, S66_D n hn]) <;> first | with_reducible rfl | rfl
/-D 34 -/
noncomputable def DL34_2 (n : Nat × Nat) (f1 : Int → Bool → List Int → Int → Int → Option R34) (choice1 : Int) (v5 : Bool) (v12 : List Int) (v13 : Int) (v14 : Int) : Option R34 :=
    f1 choice1 v5 v12 v13 (wr .i64 (v14 + 1))
theorem DL34_2_eq (n : Nat × Nat) (hn : n.2 = 1) (m1 : Nat) : L34_2 n m1 = DL34_2 n (L34_1 n m1) := by
  funext choice1 v5 v12 v13 v14; refine ((held_eq hn _).trans (L34_2_raw n m1 choice1 v5 v12 v13 v14)).trans ?_
  unfold DL34_2
  first | with_reducible rfl | rfl
noncomputable def DF34_1 (n : Nat × Nat) (f1 : Int → Bool → List Int → Int → Int → Option R34) (choice1 : Int) (v5 : Bool) (v12 : List Int) (v13 : Int) (v14 : Int) : Option R34 :=
 (bif decide (v14 < v13) then (idx v12 v14).bind fun x1' =>
 (bif decide (v14 < 0) then none
 else ((bif (((wr .u64 (BitVec.ofInt (IntKind.bits .u64) (Int.fdiv choice1 (2 ^ (min (Int.toNat v14) (IntKind.bits .u64)))) &&& BitVec.ofInt (IntKind.bits .u64) 1).toNat) == 1) == true) then some ((wr .u64 (BitVec.ofInt (IntKind.bits .u64) x1' &&& BitVec.ofInt (IntKind.bits .u64) choice1).toNat) != 0)
 else some false)).bind fun b2' =>
 (bif b2' then some 13
 else ((bif ((!((wr .u64 (BitVec.ofInt (IntKind.bits .u64) (Int.fdiv choice1 (2 ^ (min (Int.toNat v14) (IntKind.bits .u64)))) &&& BitVec.ofInt (IntKind.bits .u64) 1).toNat) == 1)) == true) then some ((wr .u64 (BitVec.ofInt (IntKind.bits .u64) x1' &&& BitVec.ofInt (IntKind.bits .u64) choice1).toNat) == 0)
 else some false)).bind fun b3' =>
 (bif b3' then DL34_2 n f1 choice1 true v12 v13 v14
 else DL34_2 n f1 choice1 v5 v12 v13 v14)))
 else (bif v5 then some 21
 else some 0))
noncomputable def DL34_1 (n : Nat × Nat) (m : Nat) : Int → Bool → List Int → Int → Int → Option R34 := Nat.rec (motive := fun _ => Int → Bool → List Int → Int → Int → Option R34) (fun _ _ _ _ _ => none) (fun _ ih => DF34_1 n ih) m
theorem DL34_1_succ (n : Nat × Nat) (m : Nat) : DL34_1 n (m + 1) = DF34_1 n (DL34_1 n m) := rfl
theorem DL34_1_eq (n : Nat × Nat) (hn : n.2 = 1) : ∀ m, L34_1 n m = DL34_1 n m
  | 0 => by funext choice1 v5 v12 v13 v14; kernel_rfl
  | m + 1 => by
    have ih := DL34_1_eq n hn m
    funext choice1 v5 v12 v13 v14; refine (L34_1_eq n m choice1 v5 v12 v13 v14).trans ?_
    rw [DL34_1_succ]
    unfold DF34_1
    (try simp only [ih, DL34_2_eq n hn]) <;> first | with_reducible rfl | rfl
noncomputable def D34 (n : Nat × Nat) (w0 : Int × Int × Int × Int × Int × Int × Int × Int) (choice1 : Int) : Option R34 :=
 (bif bounds none (some w0.1) none 7 then DL34_1 n n.1 choice1 false ([w0.2.1, w0.2.2.1, w0.2.2.2.1, w0.2.2.2.2.1, w0.2.2.2.2.2.1, w0.2.2.2.2.2.2.1, w0.2.2.2.2.2.2.2].take (Int.toNat w0.1)) (([w0.2.1, w0.2.2.1, w0.2.2.2.1, w0.2.2.2.2.1, w0.2.2.2.2.2.1, w0.2.2.2.2.2.2.1, w0.2.2.2.2.2.2.2].take (Int.toNat w0.1)).length : Int) 0
 else none)
theorem S34_D (n : Nat × Nat) (hn : n.2 = 1) : S34 n = D34 n := by
  funext w0 choice1; refine (S34_eq n w0 choice1).trans ?_
  unfold D34
  (try simp only [DL34_2_eq n hn, DL34_1_eq n hn]) <;> first | with_reducible rfl | rfl
/-D 35 -/
noncomputable def DF35_1 (n : Nat × Nat) (f1 : Int → List Int → Option R35) (v0 : Int) (out3 : List Int) : Option R35 :=
 (bif (v0 != 0) then (D41 n v0).bind fun r1' =>
 (bif decide (out3.length + [r1'].length ≤ lim) then f1 (wr .u64 (BitVec.ofInt (IntKind.bits .u64) v0 &&& BitVec.ofInt (IntKind.bits .u64) (wr .u64 (v0 - 1))).toNat) (out3 ++ [r1'])
 else none)
 else some out3)
noncomputable def DL35_1 (n : Nat × Nat) (m : Nat) : Int → List Int → Option R35 := Nat.rec (motive := fun _ => Int → List Int → Option R35) (fun _ _ => none) (fun _ ih => DF35_1 n ih) m
theorem DL35_1_succ (n : Nat × Nat) (m : Nat) : DL35_1 n (m + 1) = DF35_1 n (DL35_1 n m) := rfl
theorem DL35_1_eq (n : Nat × Nat) (hn : n.2 = 1) : ∀ m, L35_1 n m = DL35_1 n m
  | 0 => by funext v0 out3; kernel_rfl
  | m + 1 => by
    have ih := DL35_1_eq n hn m
    funext v0 out3; refine (L35_1_eq n m v0 out3).trans ?_
    rw [DL35_1_succ]
    unfold DF35_1
    (try simp only [ih, S41_D n hn]) <;> first | with_reducible rfl | rfl
noncomputable def D35 (n : Nat × Nat) (v0 : Int) : Option R35 :=
    DL35_1 n n.1 v0 []
theorem S35_D (n : Nat × Nat) (hn : n.2 = 1) : S35 n = D35 n := by
  funext v0; refine (S35_eq n v0).trans ?_
  unfold D35
  (try simp only [DL35_1_eq n hn, S41_D n hn]) <;> first | with_reducible rfl | rfl
noncomputable def D36c37 (n : Nat × Nat) (x0 : List (List Int)) : Option R36c37 := HF36 x0
theorem S36c37_D (n : Nat × Nat) (hn : n.2 = 1) : S36c37 n = D36c37 n := rfl
/-D 11 -/
noncomputable def DL11_2 (n : Nat × Nat) (f1 : Int → Int → Int → Int → Int → Int → Int → Int → Int → Int → List (List Int) → Option R11) (v18 : Int) (v19 : Int) (w4_0 : Int) (w4_1 : Int) (w4_2 : Int) (w4_3 : Int) (w4_4 : Int) (w4_5 : Int) (w4_6 : Int) (w4_7 : Int) (out6 : List (List Int)) : Option R11 :=
    f1 v18 (wr .u64 (v19 + 1)) w4_0 w4_1 w4_2 w4_3 w4_4 w4_5 w4_6 w4_7 out6
theorem DL11_2_eq (n : Nat × Nat) (hn : n.2 = 1) (m1 : Nat) : L11_2 n m1 = DL11_2 n (L11_1 n m1) := by
  funext v18 v19 w4_0 w4_1 w4_2 w4_3 w4_4 w4_5 w4_6 w4_7 out6; refine ((held_eq hn _).trans (L11_2_raw n m1 v18 v19 w4_0 w4_1 w4_2 w4_3 w4_4 w4_5 w4_6 w4_7 out6)).trans ?_
  unfold DL11_2
  (try simp only [S33_D n hn, S34_D n hn, S35_D n hn, S36c37_D n hn]) <;> first | with_reducible rfl | rfl
noncomputable def DF11_1 (n : Nat × Nat) (f1 : Int → Int → Int → Int → Int → Int → Int → Int → Int → Int → List (List Int) → Option R11) (v18 : Int) (v19 : Int) (w4_0 : Int) (w4_1 : Int) (w4_2 : Int) (w4_3 : Int) (w4_4 : Int) (w4_5 : Int) (w4_6 : Int) (w4_7 : Int) (out6 : List (List Int)) : Option R11 :=
 (bif decide (v19 < v18) then (D34 n (w4_0, w4_1, w4_2, w4_3, w4_4, w4_5, w4_6, w4_7) v19).bind fun r2' =>
 (bif (r2' == 0) then (D35 n v19).bind fun r3' =>
 (bif decide (out6.length + [r3'].length ≤ lim) then DL11_2 n f1 v18 v19 w4_0 w4_1 w4_2 w4_3 w4_4 w4_5 w4_6 w4_7 (out6 ++ [r3'])
 else none)
 else DL11_2 n f1 v18 v19 w4_0 w4_1 w4_2 w4_3 w4_4 w4_5 w4_6 w4_7 out6)
 else (D36c37 n out6).bind fun r4' =>
 some (out6, 0))
noncomputable def DL11_1 (n : Nat × Nat) (m : Nat) : Int → Int → Int → Int → Int → Int → Int → Int → Int → Int → List (List Int) → Option R11 := Nat.rec (motive := fun _ => Int → Int → Int → Int → Int → Int → Int → Int → Int → Int → List (List Int) → Option R11) (fun _ _ _ _ _ _ _ _ _ _ _ => none) (fun _ ih => DF11_1 n ih) m
theorem DL11_1_succ (n : Nat × Nat) (m : Nat) : DL11_1 n (m + 1) = DF11_1 n (DL11_1 n m) := rfl
theorem DL11_1_eq (n : Nat × Nat) (hn : n.2 = 1) : ∀ m, L11_1 n m = DL11_1 n m
  | 0 => by funext v18 v19 w4_0 w4_1 w4_2 w4_3 w4_4 w4_5 w4_6 w4_7 out6; kernel_rfl
  | m + 1 => by
    have ih := DL11_1_eq n hn m
    funext v18 v19 w4_0 w4_1 w4_2 w4_3 w4_4 w4_5 w4_6 w4_7 out6; refine (L11_1_eq n m v18 v19 w4_0 w4_1 w4_2 w4_3 w4_4 w4_5 w4_6 w4_7 out6).trans ?_
    rw [DL11_1_succ]
    unfold DF11_1
    (try simp only [ih, DL11_2_eq n hn, S33_D n hn, S34_D n hn, S35_D n hn, S36c37_D n hn]) <;> first | with_reducible rfl | rfl
noncomputable def D11 (n : Nat × Nat) (b0 : Int × List (Int × Int)) : Option R11 :=
 (D33 n b0).bind fun r1' =>
 (bif (r1'.2 != 0) then some ([], r1'.2)
 else (bif decide (r1'.1.1 < 0) then none
 else DL11_1 n n.1 (wr .u64 (1 * 2 ^ (min (Int.toNat r1'.1.1) (IntKind.bits .u64)))) 0 r1'.1.1 r1'.1.2.1 r1'.1.2.2.1 r1'.1.2.2.2.1 r1'.1.2.2.2.2.1 r1'.1.2.2.2.2.2.1 r1'.1.2.2.2.2.2.2.1 r1'.1.2.2.2.2.2.2.2 []))
theorem S11_D (n : Nat × Nat) (hn : n.2 = 1) : S11 n = D11 n := by
  funext b0; refine (S11_eq n b0).trans ?_
  unfold D11
  (try simp only [DL11_2_eq n hn, DL11_1_eq n hn, S33_D n hn, S34_D n hn, S35_D n hn, S36c37_D n hn]) <;> first | with_reducible rfl | rfl
/-D 44 -/
noncomputable def D44 (n : Nat × Nat) (b0 : Int × List (Int × Int)) : Option R44 :=
 (D11 n b0).bind fun r1' =>
 (bif (r1'.2 != 0) then some ([], r1'.2)
 else (bif ((r1'.1.length : Int) == 0) then some ([], 12)
 else (bif inB 0 r1'.1.length then (idx r1'.1 0).bind fun x2' =>
 some (x2', 0)
 else none)))
theorem S44_D (n : Nat × Nat) (hn : n.2 = 1) : S44 n = D44 n := by
  funext b0; refine (S44_eq n b0).trans ?_
  unfold D44
  (try simp only [S11_D n hn]) <;> first | with_reducible rfl | rfl
/-D 65 -/
noncomputable def DF65_1 (n : Nat × Nat) (f1 : ByteArray → Nat → Option R65) (v9s : ByteArray) (v9p : Nat) : Option R65 :=
 (bif Nat.blt v9p v9s.size then ((strBytes v9s)[v9p]?).bind fun x1' =>
 (bif decide (x1' < 128) then ((bif (decide (x1' < 97) == false) then some (decide (x1' ≥ 103))
 else some true)).bind fun b2' =>
 (bif b2' then some 10
 else f1 v9s (v9p + 1))
 else none)
 else some 0)
noncomputable def DL65_1 (n : Nat × Nat) (m : Nat) : ByteArray → Nat → Option R65 := Nat.rec (motive := fun _ => ByteArray → Nat → Option R65) (fun _ _ => none) (fun _ ih => DF65_1 n ih) m
theorem DL65_1_succ (n : Nat × Nat) (m : Nat) : DL65_1 n (m + 1) = DF65_1 n (DL65_1 n m) := rfl
theorem DL65_1_eq (n : Nat × Nat) (hn : n.2 = 1) : ∀ m, L65_1 n m = DL65_1 n m
  | 0 => by funext v9s v9p; kernel_rfl
  | m + 1 => by
    have ih := DL65_1_eq n hn m
    funext v9s v9p; refine (L65_1_eq n m v9s v9p).trans ?_
    rw [DL65_1_succ]
    unfold DF65_1
    (try simp only [ih]) <;> first | with_reducible rfl | rfl
noncomputable def D65 (n : Nat × Nat) (word0 : ByteArray) : Option R65 :=
 (bif decide ((word0.size : Int) > 10) then some 19
 else DL65_1 n n.1 word0 0)
theorem S65_D (n : Nat × Nat) (hn : n.2 = 1) : S65 n = D65 n := by
  funext word0; refine (S65_eq n word0).trans ?_
  unfold D65
  (try simp only [DL65_1_eq n hn]) <;> first | with_reducible rfl | rfl
/-D 31 -/
noncomputable def DF31_1 (n : Nat × Nat) (f1 : List ByteArray → Int → Int → Option R31) (v6 : List ByteArray) (v7 : Int) (v8 : Int) : Option R31 :=
 (bif decide (v8 < v7) then (idx v6 v8).bind fun x1' =>
 (D65 n x1').bind fun r2' =>
 (bif (r2' != 0) then some r2'
 else f1 v6 v7 (wr .i64 (v8 + 1)))
 else some 0)
noncomputable def DL31_1 (n : Nat × Nat) (m : Nat) : List ByteArray → Int → Int → Option R31 := Nat.rec (motive := fun _ => List ByteArray → Int → Int → Option R31) (fun _ _ _ => none) (fun _ ih => DF31_1 n ih) m
theorem DL31_1_succ (n : Nat × Nat) (m : Nat) : DL31_1 n (m + 1) = DF31_1 n (DL31_1 n m) := rfl
theorem DL31_1_eq (n : Nat × Nat) (hn : n.2 = 1) : ∀ m, L31_1 n m = DL31_1 n m
  | 0 => by funext v6 v7 v8; kernel_rfl
  | m + 1 => by
    have ih := DL31_1_eq n hn m
    funext v6 v7 v8; refine (L31_1_eq n m v6 v7 v8).trans ?_
    rw [DL31_1_succ]
    unfold DF31_1
    (try simp only [ih, S65_D n hn]) <;> first | with_reducible rfl | rfl
noncomputable def D31 (n : Nat × Nat) (words0 : List ByteArray) : Option R31 :=
    DL31_1 n n.1 words0 (words0.length : Int) 0
theorem S31_D (n : Nat × Nat) (hn : n.2 = 1) : S31 n = D31 n := by
  funext words0; refine (S31_eq n words0).trans ?_
  unfold D31
  (try simp only [DL31_1_eq n hn, S65_D n hn]) <;> first | with_reducible rfl | rfl
/-D 75 -/
noncomputable def DL75_3 (n : Nat × Nat) (f1 : ByteArray → List Int → Int → Int → List Int → Option R75) (f2 : ByteArray → Int → Int → List Int → Int → Int → List Int → Option R75) (part1 : ByteArray) (c9 : Int) (k10 : Int) (v25 : List Int) (v26 : Int) (v27 : Int) (begun7 : List Int) : Option R75 :=
    f2 part1 c9 (wr .i64 (k10 - 1)) v25 v26 v27 begun7
theorem DL75_3_eq (n : Nat × Nat) (hn : n.2 = 1) (m1 m2 : Nat) : L75_3 n m1 m2 = DL75_3 n (L75_1 n m1) (L75_2 n m1 m2) := by
  funext part1 c9 k10 v25 v26 v27 begun7; refine ((held_eq hn _).trans (L75_3_raw n m1 m2 part1 c9 k10 v25 v26 v27 begun7)).trans ?_
  unfold DL75_3
  (try simp only [S31_D n hn]) <;> first | with_reducible rfl | rfl
noncomputable def DF75_2 (n : Nat × Nat) (f1 : ByteArray → List Int → Int → Int → List Int → Option R75) (f2 : ByteArray → Int → Int → List Int → Int → Int → List Int → Option R75) (part1 : ByteArray) (c9 : Int) (k10 : Int) (v25 : List Int) (v26 : Int) (v27 : Int) (begun7 : List Int) : Option R75 :=
 (bif decide (k10 > 0) then (idx (strBytes part1) (wr .i64 (k10 - 1))).bind fun x5' =>
 (bif (x5' == c9) then (bif inB k10 begun7.length then (idx begun7 k10).bind fun x6' =>
 (bif inB (wr .i64 (k10 - 1)) begun7.length then (idx begun7 (wr .i64 (k10 - 1))).bind fun x7' =>
 (bif inB k10 begun7.length then (idx begun7 k10).bind fun x8' =>
              DL75_3 n f1 f2 part1 c9 k10 v25 v26 v27 (begun7.set (Int.toNat k10) (wr .i64 (x6' + x7')))
 else none)
 else none)
 else none)
 else DL75_3 n f1 f2 part1 c9 k10 v25 v26 v27 begun7)
 else f1 part1 v25 v26 (wr .i64 (v27 + 1)) begun7)
noncomputable def DL75_2 (n : Nat × Nat) (f1 : ByteArray → List Int → Int → Int → List Int → Option R75) (m : Nat) : ByteArray → Int → Int → List Int → Int → Int → List Int → Option R75 := Nat.rec (motive := fun _ => ByteArray → Int → Int → List Int → Int → Int → List Int → Option R75) (fun _ _ _ _ _ _ _ => none) (fun _ ih => DF75_2 n f1 ih) m
theorem DL75_2_succ (n : Nat × Nat) (f1 : ByteArray → List Int → Int → Int → List Int → Option R75) (m : Nat) : DL75_2 n f1 (m + 1) = DF75_2 n f1 (DL75_2 n f1 m) := rfl
theorem DL75_2_eq (n : Nat × Nat) (hn : n.2 = 1) (m1 : Nat) : ∀ m, L75_2 n m1 m = DL75_2 n (L75_1 n m1) m
  | 0 => by funext part1 c9 k10 v25 v26 v27 begun7; kernel_rfl
  | m + 1 => by
    have ih := DL75_2_eq n hn m1 m
    funext part1 c9 k10 v25 v26 v27 begun7; refine (L75_2_eq n m1 m part1 c9 k10 v25 v26 v27 begun7).trans ?_
    rw [DL75_2_succ]
    unfold DF75_2
    (try simp only [ih, DL75_3_eq n hn, S31_D n hn]) <;> first | with_reducible rfl | rfl
noncomputable def DF75_1 (n : Nat × Nat) (f1 : ByteArray → List Int → Int → Int → List Int → Option R75) (part1 : ByteArray) (v25 : List Int) (v26 : Int) (v27 : Int) (begun7 : List Int) : Option R75 :=
 (bif decide (v27 < v26) then (idx v25 v27).bind fun x3' =>
      DL75_2 n f1 n.1 part1 x3' (part1.size : Int) v25 v26 v27 begun7
 else (bif inB (part1.size : Int) begun7.length then (idx begun7 (part1.size : Int)).bind fun x4' =>
 some (x4', 0)
 else none))
noncomputable def DL75_1 (n : Nat × Nat) (m : Nat) : ByteArray → List Int → Int → Int → List Int → Option R75 := Nat.rec (motive := fun _ => ByteArray → List Int → Int → Int → List Int → Option R75) (fun _ _ _ _ _ => none) (fun _ ih => DF75_1 n ih) m
theorem DL75_1_succ (n : Nat × Nat) (m : Nat) : DL75_1 n (m + 1) = DF75_1 n (DL75_1 n m) := rfl
theorem DL75_1_eq (n : Nat × Nat) (hn : n.2 = 1) : ∀ m, L75_1 n m = DL75_1 n m
  | 0 => by funext part1 v25 v26 v27 begun7; kernel_rfl
  | m + 1 => by
    have ih := DL75_1_eq n hn m
    funext part1 v25 v26 v27 begun7; refine (L75_1_eq n m part1 v25 v26 v27 begun7).trans ?_
    rw [DL75_1_succ]
    unfold DF75_1
    (try simp only [ih, DL75_3_eq n hn, DL75_2_eq n hn, S31_D n hn]) <;> first | with_reducible rfl | rfl
noncomputable def D75 (n : Nat × Nat) (word0 : ByteArray) (part1 : ByteArray) : Option R75 :=
 (D31 n [word0, part1]).bind fun r1' =>
 (bif (r1' != 0) then some (0, r1')
 else (bif decide (0 ≤ wr .i64 ((part1.size : Int) + 1)) && decide (wr .i64 ((part1.size : Int) + 1) ≤ wr .i64 ((part1.size : Int) + 1)) && decide (wr .i64 ((part1.size : Int) + 1) ≤ lim) then (bif inB 0 (List.replicate (Int.toNat (wr .i64 ((part1.size : Int) + 1))) (0 : Int)).length then (idx (List.replicate (Int.toNat (wr .i64 ((part1.size : Int) + 1))) (0 : Int)) 0).bind fun x2' =>
          DL75_1 n n.1 part1 (strBytes word0) ((strBytes word0).length : Int) 0 ((List.replicate (Int.toNat (wr .i64 ((part1.size : Int) + 1))) (0 : Int)).set (Int.toNat 0) 1)
 else none)
 else none))
theorem S75_D (n : Nat × Nat) (hn : n.2 = 1) : S75 n = D75 n := by
  funext word0 part1; refine (S75_eq n word0 part1).trans ?_
  unfold D75
  (try simp only [DL75_3_eq n hn, DL75_2_eq n hn, DL75_1_eq n hn, S31_D n hn]) <;> first | with_reducible rfl | rfl
/-D 105 -/
noncomputable def DF105_1 (n : Nat × Nat) (f1 : Int → ByteArray → Nat → Option R105) (letters1 : Int) (v22s : ByteArray) (v22p : Nat) : Option R105 :=
 (bif Nat.blt v22p v22s.size then ((strBytes v22s)[v22p]?).bind fun x3' =>
 (bif decide (x3' < 128) then (bif decide (x3' ≥ wr .i32 (97 + (wr .i32 letters1))) then some 2
 else f1 letters1 v22s (v22p + 1))
 else none)
 else some 0)
noncomputable def DL105_1 (n : Nat × Nat) (m : Nat) : Int → ByteArray → Nat → Option R105 := Nat.rec (motive := fun _ => Int → ByteArray → Nat → Option R105) (fun _ _ _ => none) (fun _ ih => DF105_1 n ih) m
theorem DL105_1_succ (n : Nat × Nat) (m : Nat) : DL105_1 n (m + 1) = DF105_1 n (DL105_1 n m) := rfl
theorem DL105_1_eq (n : Nat × Nat) (hn : n.2 = 1) : ∀ m, L105_1 n m = DL105_1 n m
  | 0 => by funext letters1 v22s v22p; kernel_rfl
  | m + 1 => by
    have ih := DL105_1_eq n hn m
    funext letters1 v22s v22p; refine (L105_1_eq n m letters1 v22s v22p).trans ?_
    rw [DL105_1_succ]
    unfold DF105_1
    (try simp only [ih, S65_D n hn]) <;> first | with_reducible rfl | rfl
noncomputable def D105 (n : Nat × Nat) (word0 : ByteArray) (letters1 : Int) : Option R105 :=
 (D65 n word0).bind fun r1' =>
 (bif (r1' != 0) then some r1'
 else ((bif (decide (letters1 < 1) == false) then some (decide (letters1 > 6))
 else some true)).bind fun b2' =>
 (bif b2' then some 1
 else DL105_1 n n.1 letters1 word0 0))
theorem S105_D (n : Nat × Nat) (hn : n.2 = 1) : S105 n = D105 n := by
  funext word0 letters1; refine (S105_eq n word0 letters1).trans ?_
  unfold D105
  (try simp only [DL105_1_eq n hn, S65_D n hn]) <;> first | with_reducible rfl | rfl
/-D 106 -/
noncomputable def DF106_1 (n : Nat × Nat) (f1 : Int → List Int → (List (Int × Bool)) → ByteArray → Nat → Option R106) (letters1 : Int) (out5 : List Int) (met6 : List (Int × Bool)) (v11s : ByteArray) (v11p : Nat) : Option R106 :=
 (bif Nat.blt v11p v11s.size then ((strBytes v11s)[v11p]?).bind fun x1' =>
 (bif decide (x1' < 128) then (bif (((aset met6 x1' true).length : Int) == letters1) then (bif decide (out5.length + [wr .i64 ((v11p : Int) + 1)].length ≤ lim) then f1 letters1 (out5 ++ [wr .i64 ((v11p : Int) + 1)]) [] v11s (v11p + 1)
 else none)
 else f1 letters1 out5 (aset met6 x1' true) v11s (v11p + 1))
 else none)
 else some out5)
noncomputable def DL106_1 (n : Nat × Nat) (m : Nat) : Int → List Int → (List (Int × Bool)) → ByteArray → Nat → Option R106 := Nat.rec (motive := fun _ => Int → List Int → (List (Int × Bool)) → ByteArray → Nat → Option R106) (fun _ _ _ _ _ => none) (fun _ ih => DF106_1 n ih) m
theorem DL106_1_succ (n : Nat × Nat) (m : Nat) : DL106_1 n (m + 1) = DF106_1 n (DL106_1 n m) := rfl
theorem DL106_1_eq (n : Nat × Nat) (hn : n.2 = 1) : ∀ m, L106_1 n m = DL106_1 n m
  | 0 => by funext letters1 out5 met6 v11s v11p; kernel_rfl
  | m + 1 => by
    have ih := DL106_1_eq n hn m
    funext letters1 out5 met6 v11s v11p; refine (L106_1_eq n m letters1 out5 met6 v11s v11p).trans ?_
    rw [DL106_1_succ]
    unfold DF106_1
    (try simp only [ih]) <;> first | with_reducible rfl | rfl
noncomputable def D106 (n : Nat × Nat) (word0 : ByteArray) (letters1 : Int) : Option R106 :=
    DL106_1 n n.1 letters1 [] [] word0 0
theorem S106_D (n : Nat × Nat) (hn : n.2 = 1) : S106 n = D106 n := by
  funext word0 letters1; refine (S106_eq n word0 letters1).trans ?_
  unfold D106
  (try simp only [DL106_1_eq n hn]) <;> first | with_reducible rfl | rfl
/-D 107 -/
noncomputable def DF107_1 (n : Nat × Nat) (f1 : List Int → Int → Int → Int → Option R107) (s0 : List Int) (v1 : Int) (v7 : Int) (v8 : Int) : Option R107 :=
 (bif decide (v8 < v7) then (idx s0 v8).bind fun x1' =>
 (bif (v1 == x1') then some v8
 else f1 s0 v1 v7 (wr .i64 (v8 + 1)))
 else some (-1))
noncomputable def DL107_1 (n : Nat × Nat) (m : Nat) : List Int → Int → Int → Int → Option R107 := Nat.rec (motive := fun _ => List Int → Int → Int → Int → Option R107) (fun _ _ _ _ => none) (fun _ ih => DF107_1 n ih) m
theorem DL107_1_succ (n : Nat × Nat) (m : Nat) : DL107_1 n (m + 1) = DF107_1 n (DL107_1 n m) := rfl
theorem DL107_1_eq (n : Nat × Nat) (hn : n.2 = 1) : ∀ m, L107_1 n m = DL107_1 n m
  | 0 => by funext s0 v1 v7 v8; kernel_rfl
  | m + 1 => by
    have ih := DL107_1_eq n hn m
    funext s0 v1 v7 v8; refine (L107_1_eq n m s0 v1 v7 v8).trans ?_
    rw [DL107_1_succ]
    unfold DF107_1
    (try simp only [ih]) <;> first | with_reducible rfl | rfl
noncomputable def D107 (n : Nat × Nat) (s0 : List Int) (v1 : Int) : Option R107 :=
    DL107_1 n n.1 s0 v1 (s0.length : Int) 0
theorem S107_D (n : Nat × Nat) (hn : n.2 = 1) : S107 n = D107 n := by
  funext s0 v1; refine (S107_eq n s0 v1).trans ?_
  unfold D107
  (try simp only [DL107_1_eq n hn]) <;> first | with_reducible rfl | rfl
/-D 76 -/
noncomputable def DL76_3 (n : Nat × Nat) (f1 : ByteArray → Int → List Int → Option R76) (f2 : ByteArray → Int → Int → Bool → Int → List Int → Option R76) (word0 : ByteArray) (letters1 : Int) (left8 : Int) (found9 : Bool) (c10 : Int) (out7 : List Int) : Option R76 :=
    f2 word0 letters1 left8 found9 (wr .u8 (c10 + 1)) out7
theorem DL76_3_eq (n : Nat × Nat) (hn : n.2 = 1) (m1 m2 : Nat) : L76_3 n m1 m2 = DL76_3 n (L76_1 n m1) (L76_2 n m1 m2) := by
  funext word0 letters1 left8 found9 c10 out7; refine ((held_eq hn _).trans (L76_3_raw n m1 m2 word0 letters1 left8 found9 c10 out7)).trans ?_
  unfold DL76_3
  (try simp only [S105_D n hn, S106_D n hn, S107_D n hn]) <;> first | with_reducible rfl | rfl
noncomputable def DF76_2 (n : Nat × Nat) (f1 : ByteArray → Int → List Int → Option R76) (f2 : ByteArray → Int → Int → Bool → Int → List Int → Option R76) (word0 : ByteArray) (letters1 : Int) (left8 : Int) (found9 : Bool) (c10 : Int) (out7 : List Int) : Option R76 :=
 ((bif (decide (c10 < wr .u8 (wr .i64 (97 + letters1))) == true) then some (!found9)
 else some false)).bind fun b3' =>
 (bif b3' then (D107 n (strBytes word0) c10).bind fun r4' =>
 (bif decide (r4' < 0) then (bif decide (out7.length + [c10].length ≤ lim) then some (strNums (out7 ++ [c10]), 0)
 else none)
 else ((bif (decide (left8 > 0) == true) then (bif bounds (some (wr .i64 (r4' + 1))) none none word0.size then (D106 n (strCut (some (wr .i64 (r4' + 1))) none word0) letters1).bind fun r5' =>
 some ((r5'.length : Int) == (wr .i64 (left8 - 1)))
 else none)
 else some false)).bind fun b6' =>
 (bif b6' then (bif decide (out7.length + [c10].length ≤ lim) then (bif bounds (some (wr .i64 (r4' + 1))) none none word0.size then DL76_3 n f1 f2 (strCut (some (wr .i64 (r4' + 1))) none word0) letters1 left8 true c10 (out7 ++ [c10])
 else none)
 else none)
 else DL76_3 n f1 f2 word0 letters1 left8 found9 c10 out7))
 else f1 word0 letters1 out7)
noncomputable def DL76_2 (n : Nat × Nat) (f1 : ByteArray → Int → List Int → Option R76) (m : Nat) : ByteArray → Int → Int → Bool → Int → List Int → Option R76 := Nat.rec (motive := fun _ => ByteArray → Int → Int → Bool → Int → List Int → Option R76) (fun _ _ _ _ _ _ => none) (fun _ ih => DF76_2 n f1 ih) m
theorem DL76_2_succ (n : Nat × Nat) (f1 : ByteArray → Int → List Int → Option R76) (m : Nat) : DL76_2 n f1 (m + 1) = DF76_2 n f1 (DL76_2 n f1 m) := rfl
theorem DL76_2_eq (n : Nat × Nat) (hn : n.2 = 1) (m1 : Nat) : ∀ m, L76_2 n m1 m = DL76_2 n (L76_1 n m1) m
  | 0 => by funext word0 letters1 left8 found9 c10 out7; kernel_rfl
  | m + 1 => by
    have ih := DL76_2_eq n hn m1 m
    funext word0 letters1 left8 found9 c10 out7; refine (L76_2_eq n m1 m word0 letters1 left8 found9 c10 out7).trans ?_
    rw [DL76_2_succ]
    unfold DF76_2
    (try simp only [ih, DL76_3_eq n hn, S105_D n hn, S106_D n hn, S107_D n hn]) <;> first | with_reducible rfl | rfl
noncomputable def DF76_1 (n : Nat × Nat) (f1 : ByteArray → Int → List Int → Option R76) (word0 : ByteArray) (letters1 : Int) (out7 : List Int) : Option R76 :=
 (D106 n word0 letters1).bind fun r2' =>
    DL76_2 n f1 n.1 word0 letters1 (r2'.length : Int) false 97 out7
noncomputable def DL76_1 (n : Nat × Nat) (m : Nat) : ByteArray → Int → List Int → Option R76 := Nat.rec (motive := fun _ => ByteArray → Int → List Int → Option R76) (fun _ _ _ => none) (fun _ ih => DF76_1 n ih) m
theorem DL76_1_succ (n : Nat × Nat) (m : Nat) : DL76_1 n (m + 1) = DF76_1 n (DL76_1 n m) := rfl
theorem DL76_1_eq (n : Nat × Nat) (hn : n.2 = 1) : ∀ m, L76_1 n m = DL76_1 n m
  | 0 => by funext word0 letters1 out7; kernel_rfl
  | m + 1 => by
    have ih := DL76_1_eq n hn m
    funext word0 letters1 out7; refine (L76_1_eq n m word0 letters1 out7).trans ?_
    rw [DL76_1_succ]
    unfold DF76_1
    (try simp only [ih, DL76_3_eq n hn, DL76_2_eq n hn, S105_D n hn, S106_D n hn, S107_D n hn]) <;> first | with_reducible rfl | rfl
noncomputable def D76 (n : Nat × Nat) (word0 : ByteArray) (letters1 : Int) : Option R76 :=
 (D105 n word0 letters1).bind fun r1' =>
 (bif (r1' != 0) then some ((⟨#[]⟩ : ByteArray), r1')
 else DL76_1 n n.1 word0 letters1 [])
theorem S76_D (n : Nat × Nat) (hn : n.2 = 1) : S76 n = D76 n := by
  funext word0 letters1; refine (S76_eq n word0 letters1).trans ?_
  unfold D76
  (try simp only [DL76_3_eq n hn, DL76_2_eq n hn, DL76_1_eq n hn, S105_D n hn, S106_D n hn, S107_D n hn]) <;> first | with_reducible rfl | rfl
/-D 32 -/
noncomputable def DL32_2 (n : Nat × Nat) (f1 : ByteArray → ByteArray → Int → Option R32) (word0 : ByteArray) (part1 : ByteArray) (i5 : Int) : Option R32 :=
    f1 word0 part1 (wr .i64 (i5 + 1))
theorem DL32_2_eq (n : Nat × Nat) (hn : n.2 = 1) (m1 : Nat) : L32_2 n m1 = DL32_2 n (L32_1 n m1) := by
  funext word0 part1 i5; refine ((held_eq hn _).trans (L32_2_raw n m1 word0 part1 i5)).trans ?_
  unfold DL32_2
  first | with_reducible rfl | rfl
noncomputable def DF32_1 (n : Nat × Nat) (f1 : ByteArray → ByteArray → Int → Option R32) (word0 : ByteArray) (part1 : ByteArray) (i5 : Int) : Option R32 :=
 ((bif (decide (i5 < (word0.size : Int)) == true) then some (!strEq part1 (⟨#[]⟩ : ByteArray))
 else some false)).bind fun b1' =>
 (bif b1' then (idx (strBytes word0) i5).bind fun x2' =>
 (idx (strBytes part1) 0).bind fun x3' =>
 (bif (x2' == x3') then (bif bounds (some 1) none none part1.size then DL32_2 n f1 word0 (strCut (some 1) none part1) i5
 else none)
 else DL32_2 n f1 word0 part1 i5)
 else some (strEq part1 (⟨#[]⟩ : ByteArray)))
noncomputable def DL32_1 (n : Nat × Nat) (m : Nat) : ByteArray → ByteArray → Int → Option R32 := Nat.rec (motive := fun _ => ByteArray → ByteArray → Int → Option R32) (fun _ _ _ => none) (fun _ ih => DF32_1 n ih) m
theorem DL32_1_succ (n : Nat × Nat) (m : Nat) : DL32_1 n (m + 1) = DF32_1 n (DL32_1 n m) := rfl
theorem DL32_1_eq (n : Nat × Nat) (hn : n.2 = 1) : ∀ m, L32_1 n m = DL32_1 n m
  | 0 => by funext word0 part1 i5; kernel_rfl
  | m + 1 => by
    have ih := DL32_1_eq n hn m
    funext word0 part1 i5; refine (L32_1_eq n m word0 part1 i5).trans ?_
    rw [DL32_1_succ]
    unfold DF32_1
    (try simp only [ih, DL32_2_eq n hn]) <;> first | with_reducible rfl | rfl
noncomputable def D32 (n : Nat × Nat) (word0 : ByteArray) (part1 : ByteArray) : Option R32 :=
    DL32_1 n n.1 word0 part1 0
theorem S32_D (n : Nat × Nat) (hn : n.2 = 1) : S32 n = D32 n := by
  funext word0 part1; refine (S32_eq n word0 part1).trans ?_
  unfold D32
  (try simp only [DL32_2_eq n hn, DL32_1_eq n hn]) <;> first | with_reducible rfl | rfl
/-D 45 -/
noncomputable def D45 (n : Nat × Nat) : Option R45 :=
 (D75 n (⟨#[97, 98, 99, 97]⟩ : ByteArray) (⟨#[97]⟩ : ByteArray)).bind fun r1' =>
 (D76 n (⟨#[97, 98, 98, 97]⟩ : ByteArray) 2).bind fun r2' =>
 ((bif ((r1'.2 == 0) == true) then some (r2'.2 == 0)
 else some false)).bind fun b3' =>
 ((bif (b3' == true) then some (r1'.1 == 2)
 else some false)).bind fun b4' =>
 ((bif (b4' == true) then some (strEq r2'.1 (⟨#[97, 97, 97]⟩ : ByteArray))
 else some false)).bind fun b5' =>
 ((bif (b5' == true) then (D32 n (⟨#[100, 97, 121, 45, 98, 111, 111, 107]⟩ : ByteArray) (⟨#[121, 98, 107]⟩ : ByteArray)).bind fun r6' =>
 some r6'
 else some false)).bind fun b7' =>
 some b7'
theorem S45_D (n : Nat × Nat) (hn : n.2 = 1) : S45 n = D45 n := by
  refine (S45_eq n).trans ?_
  unfold D45
  (try simp only [S32_D n hn, S75_D n hn, S76_D n hn]) <;> first | with_reducible rfl | rfl
/-D 16 -/
noncomputable def D16 (n : Nat × Nat) : Option R16 :=
 (D44 n (3, [(0, 1), (1, 2)])).bind fun r1' =>
 ((bif ((r1'.2 == 0) == true) then (D14 n r1'.1 [0, 2]).bind fun r2' =>
 some r2'
 else some false)).bind fun b3' =>
 ((bif (b3' == true) then (D45 n).bind fun r4' =>
 some r4'
 else some false)).bind fun b5' =>
 some b5'
theorem S16_D (n : Nat × Nat) (hn : n.2 = 1) : S16 n = D16 n := by
  refine (S16_eq n).trans ?_
  unfold D16
  (try simp only [S14_D n hn, S44_D n hn, S45_D n hn]) <;> first | with_reducible rfl | rfl
/-D 83 -/
noncomputable def D83 (n : Nat × Nat) : Option R83 :=
 (D113 n (3, [(0, 1), (0, 2), (1, 2)])).bind fun r1' =>
 ((bif ((r1'.2 == 0) == true) then (D14 n r1'.1 [0, 1]).bind fun r2' =>
 some r2'
 else some false)).bind fun b3' =>
 ((bif (b3' == true) then (D16 n).bind fun r4' =>
 some r4'
 else some false)).bind fun b5' =>
 some b5'
theorem S83_D (n : Nat × Nat) (hn : n.2 = 1) : S83 n = D83 n := by
  refine (S83_eq n).trans ?_
  unfold D83
  (try simp only [S113_D n hn, S14_D n hn, S16_D n hn]) <;> first | with_reducible rfl | rfl
/-D 51 -/
noncomputable def D51 (n : Nat × Nat) : Option R51 :=
 (D17 n (2, [0, 1, 2, 0, 1])).bind fun r1' =>
 ((bif ((r1'.2 == 0) == true) then some (r1'.1 == 4)
 else some false)).bind fun b2' =>
 ((bif (b2' == true) then (D83 n).bind fun r3' =>
 some r3'
 else some false)).bind fun b4' =>
 some b4'
theorem S51_D (n : Nat × Nat) (hn : n.2 = 1) : S51 n = D51 n := by
  refine (S51_eq n).trans ?_
  unfold D51
  (try simp only [S17_D n hn, S83_D n hn]) <;> first | with_reducible rfl | rfl
/-D 20 -/
noncomputable def D20 (n : Nat × Nat) : Option R20 :=
 (D50 n [(3, 1), (1, 1), (2, 1)]).bind fun r1' =>
 ((bif ((r1'.2 == 0) == true) then (D14 n r1'.1 [0]).bind fun r2' =>
 some r2'
 else some false)).bind fun b3' =>
 ((bif (b3' == true) then (D51 n).bind fun r4' =>
 some r4'
 else some false)).bind fun b5' =>
 some b5'
theorem S20_D (n : Nat × Nat) (hn : n.2 = 1) : S20 n = D20 n := by
  refine (S20_eq n).trans ?_
  unfold D20
  (try simp only [S14_D n hn, S50_D n hn, S51_D n hn]) <;> first | with_reducible rfl | rfl
/-D 4 -/
noncomputable def DF4_3 (n : Nat × Nat) (f1 : Int → Int → (List (Int × Int)) → (List (Int × Int)) → Option R4) (v88 : Int) (v89 : Int) (l8 : List (Int × Int)) (v87 : List (Int × Int)) : Option R4 :=
 (bif decide (v89 < v88) then (bif inB v89 v87.length then (idx v87 v89).bind fun x9' =>
 (bif inB v89 l8.length then (idx l8 v89).bind fun x10' =>
 (bif (!((x9'.1 == x10'.1) && ((x9'.2 == 1) && true))) then some false
 else f1 v88 (wr .i64 (v89 + 1)) l8 v87)
 else none)
 else none)
 else (D20 n).bind fun r11' =>
 some r11')
noncomputable def DL4_3 (n : Nat × Nat) (m : Nat) : Int → Int → (List (Int × Int)) → (List (Int × Int)) → Option R4 := Nat.rec (motive := fun _ => Int → Int → (List (Int × Int)) → (List (Int × Int)) → Option R4) (fun _ _ _ _ => none) (fun _ ih => DF4_3 n ih) m
theorem DL4_3_succ (n : Nat × Nat) (m : Nat) : DL4_3 n (m + 1) = DF4_3 n (DL4_3 n m) := rfl
theorem DL4_3_eq (n : Nat × Nat) (hn : n.2 = 1) : ∀ m, L4_3 n m = DL4_3 n m
  | 0 => by funext v88 v89 l8 v87; kernel_rfl
  | m + 1 => by
    have ih := DL4_3_eq n hn m
    funext v88 v89 l8 v87; refine (L4_3_eq n m v88 v89 l8 v87).trans ?_
    rw [DL4_3_succ]
    unfold DF4_3
    (try simp only [ih, S17_D n hn, S18_D n hn, S19_D n hn, S20_D n hn]) <;> first | with_reducible rfl | rfl
noncomputable def DF4_2 (n : Nat × Nat) (f1 : Int → Int → List Int → (List (Int × Int)) → Option R4) (room9 : Int) (j5_0 : Int) (j5_1 : List Int) (l8 : List (Int × Int)) : Option R4 :=
 (bif decide (room9 > 0) then (D17 n (room9, j5_1)).bind fun r2' =>
 ((bif ((r2'.2 != 0) == false) then some (decide (r2'.1 < 0))
 else some true)).bind fun b3' =>
 ((bif (b3' == false) then some (decide (r2'.1 > 12))
 else some true)).bind fun b4' =>
 (bif b4' then some false
 else (bif decide (l8.length + [(r2'.1, room9)].length ≤ lim) then f1 (wr .i64 (room9 - 1)) room9 j5_1 (l8 ++ [(r2'.1, room9)])
 else none))
 else (D18 n l8).bind fun r5' =>
 (D19 n l8).bind fun r6' =>
 ((bif ((r5'.2 != 13) == false) then some (r6'.2 != 0)
 else some true)).bind fun b7' =>
 ((bif (b7' == false) then some ((r6'.1.length : Int) != (l8.length : Int))
 else some true)).bind fun b8' =>
 (bif b8' then some false
 else DL4_3 n n.1 (r6'.1.length : Int) 0 l8 r6'.1))
noncomputable def DL4_2 (n : Nat × Nat) (m : Nat) : Int → Int → List Int → (List (Int × Int)) → Option R4 := Nat.rec (motive := fun _ => Int → Int → List Int → (List (Int × Int)) → Option R4) (fun _ _ _ _ => none) (fun _ ih => DF4_2 n ih) m
theorem DL4_2_succ (n : Nat × Nat) (m : Nat) : DL4_2 n (m + 1) = DF4_2 n (DL4_2 n m) := rfl
theorem DL4_2_eq (n : Nat × Nat) (hn : n.2 = 1) : ∀ m, L4_2 n m = DL4_2 n m
  | 0 => by funext room9 j5_0 j5_1 l8; kernel_rfl
  | m + 1 => by
    have ih := DL4_2_eq n hn m
    funext room9 j5_0 j5_1 l8; refine (L4_2_eq n m room9 j5_0 j5_1 l8).trans ?_
    rw [DL4_2_succ]
    unfold DF4_2
    (try simp only [ih, DL4_3_eq n hn, S17_D n hn, S18_D n hn, S19_D n hn, S20_D n hn]) <;> first | with_reducible rfl | rfl
noncomputable def DF4_1 (n : Nat × Nat) (f1 : List Int → Int → Int → Int → List Int → Option R4) (v22 : List Int) (v23 : Int) (v24 : Int) (j5_0 : Int) (v500379999 : List Int) : Option R4 :=
 (bif decide (v24 < v23) then (idx v22 v24).bind fun x1' =>
 (bif 6 == 0 then none
 else (bif decide (v500379999.length + [Int.tmod (wr .i64 x1') 6].length ≤ lim) then f1 v22 v23 (wr .i64 (v24 + 1)) j5_0 (v500379999 ++ [Int.tmod (wr .i64 x1') 6])
 else none))
 else DL4_2 n n.1 5 j5_0 v500379999 [])
noncomputable def DL4_1 (n : Nat × Nat) (m : Nat) : List Int → Int → Int → Int → List Int → Option R4 := Nat.rec (motive := fun _ => List Int → Int → Int → Int → List Int → Option R4) (fun _ _ _ _ _ => none) (fun _ ih => DF4_1 n ih) m
theorem DL4_1_succ (n : Nat × Nat) (m : Nat) : DL4_1 n (m + 1) = DF4_1 n (DL4_1 n m) := rfl
theorem DL4_1_eq (n : Nat × Nat) (hn : n.2 = 1) : ∀ m, L4_1 n m = DL4_1 n m
  | 0 => by funext v22 v23 v24 j5_0 v500379999; kernel_rfl
  | m + 1 => by
    have ih := DL4_1_eq n hn m
    funext v22 v23 v24 j5_0 v500379999; refine (L4_1_eq n m v22 v23 v24 j5_0 v500379999).trans ?_
    rw [DL4_1_succ]
    unfold DF4_1
    (try simp only [ih, DL4_3_eq n hn, DL4_2_eq n hn, S17_D n hn, S18_D n hn, S19_D n hn, S20_D n hn]) <;> first | with_reducible rfl | rfl
noncomputable def D4 (n : Nat × Nat) (asked0 : Int) (pages1 : Int × Int × Int × Int × Int × Int × Int × Int × Int × Int × Int × Int) : Option R4 :=
 (bif 13 == 0 then none
 else (bif bounds none (some (Int.tmod (wr .i64 asked0) 13)) none 12 then DL4_1 n n.1 ([pages1.1, pages1.2.1, pages1.2.2.1, pages1.2.2.2.1, pages1.2.2.2.2.1, pages1.2.2.2.2.2.1, pages1.2.2.2.2.2.2.1, pages1.2.2.2.2.2.2.2.1, pages1.2.2.2.2.2.2.2.2.1, pages1.2.2.2.2.2.2.2.2.2.1, pages1.2.2.2.2.2.2.2.2.2.2.1, pages1.2.2.2.2.2.2.2.2.2.2.2].take (Int.toNat (Int.tmod (wr .i64 asked0) 13))) (([pages1.1, pages1.2.1, pages1.2.2.1, pages1.2.2.2.1, pages1.2.2.2.2.1, pages1.2.2.2.2.2.1, pages1.2.2.2.2.2.2.1, pages1.2.2.2.2.2.2.2.1, pages1.2.2.2.2.2.2.2.2.1, pages1.2.2.2.2.2.2.2.2.2.1, pages1.2.2.2.2.2.2.2.2.2.2.1, pages1.2.2.2.2.2.2.2.2.2.2.2].take (Int.toNat (Int.tmod (wr .i64 asked0) 13))).length : Int) 0 0 []
 else none))
theorem S4_D (n : Nat × Nat) (hn : n.2 = 1) : S4 n = D4 n := by
  funext asked0 pages1; refine (S4_eq n asked0 pages1).trans ?_
  unfold D4
  (try simp only [DL4_3_eq n hn, DL4_2_eq n hn, DL4_1_eq n hn, S17_D n hn, S18_D n hn, S19_D n hn, S20_D n hn]) <;> first | with_reducible rfl | rfl
end Go.Proofs.YtkfkbebinhkdlaaDoor
/-
  Years that never fall are their own nearest values.
-/
set_option linter.unusedVariables false
set_option linter.unusedSimpArgs false
set_option maxRecDepth 100000
namespace Go.Proofs.YtkfkbebinhkdlaaDoor
open Go.Vi
abbrev Bl := Int × Int × Int × Int
abbrev Kn := List (Int × Int × Int × Int × Int)
def yr (l : List (Int × Int)) (i : Nat) : Int := (l.getD i (0, 0)).1
theorem wr_small {x : Int} (h0 : -1000000 ≤ x) (h1 : x ≤ 1000000) : wr .i64 x = x := by
  show IntKind.i64.wrap _ = _
  rw [IntKind.wrap_i64]
  omega
theorem find_aset_self (k : Int) (x : Bl) : ∀ m : Kn, alook (aset m k x) k = some x
  | [] => by simp [alook, aset]
  | p :: r => by
    unfold aset
    cases h : p.1 == k with
    | true => simp [alook]
    | false =>
      have := find_aset_self k x r
      simp only [alook, cond_false, List.find?_cons, h] at this ⊢
      exact this
theorem find_aset_ne {j k : Int} (h : j ≠ k) (x : Bl) : ∀ m : Kn, alook (aset m k x) j = alook m j
  | [] => by
    have : (k == j) = false := by simpa using fun e => h e.symm
    simp [alook, aset, this]
  | p :: r => by
    have hk : (k == j) = false := by simpa using fun e => h e.symm
    unfold aset
    cases hp : p.1 == k with
    | true =>
      have e : p.1 = k := by simpa using hp
      simp only [alook, cond_true, List.find?_cons, hk, e]
    | false =>
      have := find_aset_ne h x r
      simp only [alook, cond_false, List.find?_cons] at this ⊢
      cases hj : p.1 == j with
      | true => rfl
      | false => exact this
theorem find_erase_ne {j k : Int} (h : j ≠ k) : ∀ m : Kn, alook (m.eraseP fun p => p.1 == k) j = alook m j
  | [] => rfl
  | p :: r => by
    rw [List.eraseP_cons]
    cases hp : p.1 == k with
    | true =>
      have e : p.1 = k := by simpa using hp
      have hk : (p.1 == j) = false := by rw [e]; simpa using fun e => h e.symm
      simp only [alook, cond_true, List.find?_cons, hk]
    | false =>
      have := find_erase_ne h r
      simp only [alook, cond_false, List.find?_cons] at this ⊢
      cases hj : p.1 == j with
      | true => rfl
      | false => exact this
/-- Blocks of equal years, one behind the other, up to k. -/
inductive Ch (l : List (Int × Int)) (kn : Kn) : Nat → Prop
  | zero : Ch l kn 0
  | step {b k : Nat} {y : Int} (h : b < k) (e : alook kn (k : Int) = some ((b : Int), (k : Int), y, 1)) (hy : ∀ i, b ≤ i → i < k → yr l i = y) (hb : Ch l kn b) : Ch l kn k
theorem Ch.congr {l : List (Int × Int)} {kn kn' : Kn} {k : Nat} (h : Ch l kn k) : (∀ j : Nat, j ≤ k → alook kn (j : Int) = alook kn' (j : Int)) → Ch l kn' k := by
  induction h with
  | zero => intro _; exact .zero
  | step h e hy hb ih => intro hc; exact .step h ((hc _ (Nat.le_refl _)).symm.trans e) hy (ih fun j hj => hc j (by omega))
section
variable {n : Nat × Nat} {l : List (Int × Int)}
theorem inner (f1 : List (Int × Int) → Int → Kn → Option R82) {e : Nat} (hel : e ≤ l.length) (hl : l.length ≤ 12) (hyr : ∀ i, 0 ≤ yr l i ∧ yr l i ≤ 12) (hmon : ∀ i, i + 1 < e → yr l i ≤ yr l (i + 1))
    (hmean : ∀ (b : Nat) (y : Int), b < e → (∀ i, b ≤ i → i < e → yr l i = y) → D110 n ((l.take e).drop b) = some (y, 1)) :
    ∀ (b m : Nat) (kn : Kn) (y : Int), b < e → b < m → Ch l kn b → alook kn 0 = none → (∀ i, b ≤ i → i < e → yr l i = y) →
      ∃ (kn' : Kn) (b' : Nat), b' < e ∧ Ch l kn' b' ∧ alook kn' 0 = none ∧ (∀ i, b' ≤ i → i < e → yr l i = y) ∧
        DL82_2 n f1 m l (e : Int) ((alook kn (b : Int)).isSome) kn (b : Int) (e : Int) y 1 (((alook kn (b : Int)).getD (0, 0, 0, 0)).1) ((((alook kn (b : Int)).getD (0, 0, 0, 0)).2).1) (((((alook kn (b : Int)).getD (0, 0, 0, 0)).2).2).1) (((((alook kn (b : Int)).getD (0, 0, 0, 0)).2).2).2) =
          f1 l (wr .i64 ((e : Int) + 1)) (aset kn' (e : Int) ((b' : Int), (e : Int), y, 1)) := by
  intro b
  induction b using Nat.strongRecOn with
  | ind b ih =>
    intro m kn y hbe hm hc h0 hy
    obtain ⟨m, rfl⟩ : ∃ k, m = k + 1 := ⟨m - 1, by omega⟩
    rw [DL82_2_succ]
    unfold DF82_2
    cases hc with
    | zero =>
      refine ⟨kn, 0, hbe, .zero, h0, hy, ?_⟩
      rw [show ((0 : Nat) : Int) = 0 from rfl, h0]
      rfl
    | step hb he hy0 hc =>
      rename_i b0 y0
      rw [he]
      have e1 : yr l (b - 1) = y0 := hy0 (b - 1) (by omega) (by omega)
      have e2 : yr l b = y := hy b (Nat.le_refl _) hbe
      have e3 := hmon (b - 1) (by omega)
      rw [show b - 1 + 1 = b by omega, e1, e2] at e3
      have b1 := hyr (b - 1)
      have b2 := hyr b
      rw [e1] at b1
      rw [e2] at b2
      have e4 : D111 n (y0, 1) (y, 1) = some (y0 - y) := by
        unfold D111
        simp only [Int.mul_one]
        rw [wr_small (x := y0) (by omega) (by omega), wr_small (x := y) (by omega) (by omega), wr_small (by omega) (by omega)]
      simp only [Option.isSome_some, Option.getD_some, beq_self_eq_true, cond_true, e4, Option.bind_some]
      by_cases hq : y0 = y
      · subst hq
        have hall : ∀ i, b0 ≤ i → i < e → yr l i = y0 := fun i h1 h2 => by
          by_cases h : i < b
          · exact hy0 i h1 h
          · exact hy i (by omega) h2
        have hbd : bounds (some (b0 : Int)) (some (e : Int)) (some (e : Int)) l.length = true := by
          unfold bounds
          simp
          omega
        rw [show decide (y0 - y0 ≥ 0) = true by simp, cond_true, hbd]
        simp only [Int.toNat_natCast, Bool.true_and, cond_true]
        rw [hmean b0 y0 (by omega) hall, Option.bind_some]
        exact ih b0 hb m (kn.eraseP fun p => p.1 == (b : Int)) y0 (by omega) (by omega) (hc.congr fun j hj => (find_erase_ne (by omega) kn).symm) ((find_erase_ne (by omega) kn).trans h0) hall
      · refine ⟨kn, b, hbe, .step hb he hy0 hc, h0, hy, ?_⟩
        rw [show decide (y0 - y ≥ 0) = false by simp; omega, cond_false]
theorem outer (hl : l.length ≤ 12) (hyr : ∀ i, 0 ≤ yr l i ∧ yr l i ≤ 12) (hmon : ∀ i, i + 1 < l.length → yr l i ≤ yr l (i + 1)) (hn : 20 < n.1)
    (hmean : ∀ (e b : Nat) (y : Int), e ≤ l.length → b < e → (∀ i, b ≤ i → i < e → yr l i = y) → D110 n ((l.take e).drop b) = some (y, 1)) :
    ∀ (d k m : Nat) (kn : Kn), k + d = l.length → d < m → Ch l kn k → alook kn 0 = none → ∃ kn', Ch l kn' l.length ∧ DL82_1 n m l ((k : Int) + 1) kn = DL82_3 n n.1 (l.length : Int) kn' []
  | 0, k, m, kn, hk, hm, hc, h0 => by
    obtain ⟨m, rfl⟩ : ∃ k, m = k + 1 := ⟨m - 1, by omega⟩
    obtain rfl : k = l.length := by omega
    refine ⟨kn, hc, ?_⟩
    rw [DL82_1_succ]
    unfold DF82_1
    rw [show decide ((l.length : Int) + 1 ≤ (l.length : Int)) = false by simp; omega, cond_false]
  | d + 1, k, m, kn, hk, hm, hc, h0 => by
    obtain ⟨m, rfl⟩ : ∃ k, m = k + 1 := ⟨m - 1, by omega⟩
    rw [DL82_1_succ]
    unfold DF82_1
    have w1 : wr .i64 ((k : Int) + 1 - 1) = (k : Int) := by rw [wr_small (by omega) (by omega)]; omega
    rw [show decide ((k : Int) + 1 ≤ (l.length : Int)) = true by simp; omega, cond_true, w1]
    have hbd : bounds (some (k : Int)) (some ((k : Int) + 1)) (some ((k : Int) + 1)) l.length = true := by
      unfold bounds
      simp
      omega
    have hself : ∀ i, k ≤ i → i < k + 1 → yr l i = yr l k := fun i h1 h2 => by rw [show i = k by omega]
    have hd := hmean (k + 1) k (yr l k) (by omega) (by omega) hself
    have ec : ((k : Int) + 1) = ((k + 1 : Nat) : Int) := rfl
    rw [hbd, beq_self_eq_true, Bool.true_and, cond_true, show Int.toNat ((k : Int) + 1) = k + 1 by omega, Int.toNat_natCast, hd, Option.bind_some]
    obtain ⟨kn', b', h1, h2, h3, h4, h5⟩ := inner (n := n) (l := l) (DL82_1 n m) (e := k + 1) (by omega) hl hyr (fun i hi => hmon i (by omega)) (fun b y hb hy => hmean (k + 1) b y (by omega) hb hy) k n.1 kn (yr l k) (by omega) (by omega) hc h0 hself
    rw [ec, h5]
    have w2 : wr .i64 (((k + 1 : Nat) : Int) + 1) = ((k + 1 : Nat) : Int) + 1 := wr_small (by omega) (by omega)
    rw [w2]
    refine outer hl hyr hmon hn hmean d (k + 1) m _ (by omega) (by omega) (.step h1 (find_aset_self _ _ _) h4 (h2.congr fun j hj => (find_aset_ne (by omega) _ _).symm)) ((find_aset_ne (by omega) _ _).trans h3)
/-- The blocks up to k, the last one first. -/
inductive Bs (l : List (Int × Int)) : Nat → List Bl → Prop
  | zero : Bs l 0 []
  | step {b k : Nat} {y : Int} {bs : List Bl} (h : b < k) (hy : ∀ i, b ≤ i → i < k → yr l i = y) (hb : Bs l b bs) : Bs l k (((b : Int), (k : Int), y, 1) :: bs)
theorem Bs.len {l : List (Int × Int)} {k : Nat} {bs : List Bl} (h : Bs l k bs) : bs.length ≤ k := by
  induction h with
  | zero => exact Nat.le_refl _
  | step h hy hb ih => rw [List.length_cons]; omega
theorem lim_big {a : Nat} (h : a ≤ 1000) : decide (a ≤ lim) = true := by
  have : (1000 : Nat) ≤ lim := by unfold lim; omega
  exact decide_eq_true (Nat.le_trans h this)
theorem collect {kn : Kn} {k : Nat} (h : Ch l kn k) : k ≤ 12 → ∃ bs, Bs l k bs ∧ ∀ (m : Nat) (out : List Bl), k < m → out.length + k ≤ 500 →
    DL82_3 n m (k : Int) kn out = (D112io1 n (out ++ bs)).bind fun r5' => bif Nat.beq r5'.2.1.length (out ++ bs).length then some r5'.2.1 else none := by
  induction h with
  | zero =>
    intro _
    refine ⟨[], .zero, fun m out hm ho => ?_⟩
    obtain ⟨m, rfl⟩ : ∃ k, m = k + 1 := ⟨m - 1, by omega⟩
    rw [DL82_3_succ]
    unfold DF82_3
    rw [List.append_nil]
    rfl
  | step h he hy hb ih =>
    rename_i b k y
    intro hk
    obtain ⟨bs, h1, h2⟩ := ih (by omega)
    refine ⟨_, .step h hy h1, fun m out hm ho => ?_⟩
    obtain ⟨m, rfl⟩ : ∃ k, m = k + 1 := ⟨m - 1, by omega⟩
    rw [DL82_3_succ]
    unfold DF82_3
    rw [show decide ((k : Int) > 0) = true by simp; omega, cond_true, he]
    simp only [Option.getD_some]
    rw [show decide (out.length + [((b : Int), (k : Int), y, (1 : Int))].length ≤ lim) = true from lim_big (by simp; omega), cond_true, h2 m _ (by omega) (by simp; omega), List.append_assoc]
    rfl
theorem rev_ok {bs : List Bl} (h : bs.length ≤ 5) (k : Nat) : D112io1 (k + 20, 1) bs = some ((), bs.reverse, ()) := by
  rcases bs with _ | ⟨a, _ | ⟨b, _ | ⟨c, _ | ⟨d, _ | ⟨e, _ | ⟨f, r⟩⟩⟩⟩⟩⟩
  · kernel_rfl
  · kernel_rfl
  · kernel_rfl
  · kernel_rfl
  · kernel_rfl
  · kernel_rfl
  · simp at h
/-- The values of blocks. -/
def vals (bs : List Bl) : List (Int × Int) := bs.flatMap fun b => List.replicate (b.2.1 - b.1).toNat (b.2.2.1, b.2.2.2)
theorem fill2 (f1 : Int → Int → List (Int × Int) → List Bl → Option R49) (v8 v9 : Int) (b : Bl) (v7 : List Bl) (q : Nat) (hq : q ≤ 100) : ∀ (d m : Nat) (out : List (Int × Int)), d ≤ q → d < m → out.length + d ≤ 500 →
    DL49_2 n f1 m v8 v9 (q : Int) ((q - d : Nat) : Int) out b.1 b.2.1 b.2.2.1 b.2.2.2 v7 = f1 v8 (wr .i64 (v9 + 1)) (out ++ List.replicate d (b.2.2.1, b.2.2.2)) v7
  | 0, m, out, hd, hm, ho => by
    obtain ⟨m, rfl⟩ : ∃ k, m = k + 1 := ⟨m - 1, by omega⟩
    rw [DL49_2_succ]
    unfold DF49_2
    rw [show decide (((q - 0 : Nat) : Int) < (q : Int)) = false by simp, cond_false]
    simp
  | d + 1, m, out, hd, hm, ho => by
    obtain ⟨m, rfl⟩ : ∃ k, m = k + 1 := ⟨m - 1, by omega⟩
    rw [DL49_2_succ]
    unfold DF49_2
    have w : wr .i64 (((q - (d + 1) : Nat) : Int) + 1) = ((q - d : Nat) : Int) := by rw [wr_small (by omega) (by omega)]; omega
    rw [show decide (((q - (d + 1) : Nat) : Int) < (q : Int)) = true by simp; omega, cond_true, show decide (out.length + [(b.2.2.1, b.2.2.2)].length ≤ lim) = true from lim_big (by simp; omega), cond_true, w]
    rw [fill2 f1 v8 v9 b v7 q hq d m _ (by omega) (by omega) (by simp; omega), List.append_assoc]
    rfl
theorem vals_cons {bs : List Bl} {i q : Nat} (hlt : i < bs.length) (hq : bs[i].2.1 - bs[i].1 = (q : Int)) : vals (bs.drop i) = List.replicate q (bs[i].2.2.1, bs[i].2.2.2) ++ vals (bs.drop (i + 1)) := by
  rw [List.drop_eq_getElem_cons hlt]
  unfold vals
  rw [List.flatMap_cons, hq, Int.toNat_natCast]
theorem fill1 (hn : 120 < n.1) (bs : List Bl) (hb : bs.length ≤ 100) (hw : ∀ b ∈ bs, 0 ≤ b.2.1 - b.1 ∧ b.2.1 - b.1 ≤ 20) : ∀ (d i m : Nat) (out : List (Int × Int)), i + d = bs.length → d < m → out.length + 20 * d ≤ 500 →
    DL49_1 n m (bs.length : Int) (i : Int) out bs = some (out ++ vals (bs.drop i))
  | 0, i, m, out, hi, hm, ho => by
    obtain ⟨m, rfl⟩ : ∃ k, m = k + 1 := ⟨m - 1, by omega⟩
    rw [DL49_1_succ]
    unfold DF49_1
    rw [show decide ((i : Int) < (bs.length : Int)) = false by simp; omega, cond_false, List.drop_of_length_le (by omega)]
    simp [vals]
  | d + 1, i, m, out, hi, hm, ho => by
    obtain ⟨m, rfl⟩ : ∃ k, m = k + 1 := ⟨m - 1, by omega⟩
    rw [DL49_1_succ]
    unfold DF49_1
    have hlt : i < bs.length := by omega
    have e1 : inB (i : Int) bs.length = true := by unfold inB; simp; omega
    have e2 : idx bs (i : Int) = some bs[i] := by
      unfold idx
      rw [if_pos (by omega), Int.toNat_natCast, List.getElem?_eq_getElem hlt]
    obtain ⟨w0, w1⟩ := hw bs[i] (List.getElem_mem _)
    obtain ⟨q, hq⟩ := Int.eq_ofNat_of_zero_le w0
    have w2 : wr .i64 (bs[i].2.1 - bs[i].1) = (q : Int) := by rw [wr_small (by omega) (by omega)]; exact hq
    have w3 : wr .i64 ((i : Int) + 1) = ((i + 1 : Nat) : Int) := by rw [wr_small (by omega) (by omega)]; rfl
    rw [show decide ((i : Int) < (bs.length : Int)) = true by simp; omega, cond_true, e1, cond_true, e2, Option.bind_some, w2]
    have hf := fill2 (n := n) (DL49_1 n m) (bs.length : Int) (i : Int) bs[i] bs q (by omega) q n.1 out (Nat.le_refl _) (by omega) (by omega)
    rw [Nat.sub_self] at hf
    rw [show ((0 : Nat) : Int) = 0 from rfl] at hf
    rw [hf, w3, fill1 hn bs hb hw d (i + 1) m _ (by omega) (by omega) (by simp; omega), List.append_assoc]
    rw [vals_cons hlt hq]
theorem vals_rev {k : Nat} {bs : List Bl} (h : Bs l k bs) : vals bs.reverse = (List.range k).map fun i => (yr l i, (1 : Int)) := by
  induction h with
  | zero => rfl
  | step h hy hb ih =>
    rename_i b k y bs
    have e1 : vals ((((b : Int), (k : Int), y, (1 : Int)) :: bs).reverse) = vals bs.reverse ++ List.replicate (k - b) (y, 1) := by
      rw [List.reverse_cons]
      unfold vals
      rw [List.flatMap_append]
      congr 1
      simp only [List.flatMap_cons, List.flatMap_nil, List.append_nil]
      congr 1
      omega
    rw [e1, ih]
    apply List.ext_getElem
    · simp; omega
    · intro i h1 h2
      have hik : i < k := by simpa using h2
      rw [List.getElem_map, List.getElem_range]
      by_cases hib : i < b
      · rw [List.getElem_append_left (by simpa using hib)]
        simp
      · rw [List.getElem_append_right (by simpa using hib)]
        rw [List.getElem_replicate, hy i (by omega) hik]
theorem Bs.wid {k : Nat} {bs : List Bl} (h : Bs l k bs) (hk : k ≤ 12) : ∀ b ∈ bs, 0 ≤ b.2.1 - b.1 ∧ b.2.1 - b.1 ≤ 20 := by
  induction h with
  | zero => intro b hb; cases hb
  | step h hy hb ih =>
    intro x hx
    rcases List.mem_cons.1 hx with rfl | hx
    · simp only
      omega
    · exact ih (by omega) x hx
end
/-- Nearest values of years that never fall, of at most five sources. -/
theorem near_own {l : List (Int × Int)} (j : Nat) (hl : l.length ≤ 5) (hyr : ∀ i, 0 ≤ yr l i ∧ yr l i ≤ 12) (hmon : ∀ i, i + 1 < l.length → yr l i ≤ yr l (i + 1))
    (hmean : ∀ (e b : Nat) (y : Int), e ≤ l.length → b < e → (∀ i, b ≤ i → i < e → yr l i = y) → D110 (j + 200, 1) ((l.take e).drop b) = some (y, 1)) :
    D49 (j + 200, 1) l = some ((List.range l.length).map fun i => (yr l i, (1 : Int))) := by
  obtain ⟨kn, h1, h2⟩ := outer (n := (j + 200, 1)) (by omega) hyr hmon (by show 20 < j + 200; omega) hmean l.length 0 (j + 200) [] (by omega) (by omega) .zero rfl
  obtain ⟨bs, h3, h4⟩ := collect (n := (j + 200, 1)) h1 (by omega)
  have hb := h3.len
  have e1 : D82 (j + 200, 1) l = some bs.reverse := by
    unfold D82
    rw [show (1 : Int) = ((0 : Nat) : Int) + 1 from rfl, h2, h4 _ [] (by show l.length < j + 200; omega) (by simp; omega), List.nil_append]
    have := rev_ok (bs := bs) (by omega) (j + 180)
    rw [show j + 180 + 20 = j + 200 by omega] at this
    rw [this, Option.bind_some]
    simp
  unfold D49
  rw [e1, Option.bind_some]
  have hw : ∀ b ∈ bs.reverse, 0 ≤ b.2.1 - b.1 ∧ b.2.1 - b.1 ≤ 20 := fun b hb => h3.wid (by omega) b (List.mem_reverse.1 hb)
  have hf := fill1 (n := (j + 200, 1)) (by show 120 < j + 200; omega) bs.reverse (by rw [List.length_reverse]; omega) hw bs.reverse.length 0 (j + 200) [] (by omega) (by rw [List.length_reverse]; omega) (by rw [List.length_reverse]; simp; omega)
  rw [show ((0 : Nat) : Int) = 0 from rfl, List.drop_zero, List.nil_append, vals_rev h3] at hf
  exact hf
end Go.Proofs.YtkfkbebinhkdlaaDoor
set_option linter.unusedVariables false
set_option linter.unusedSimpArgs false
namespace Go.Proofs.YtkfkbebinhkdlaaDoor
theorem cnt_tab : (all64 fun f => all6 fun p => bif f.testBit p then true else Nat.beq (cntF (addF f p)) (cntF f + 1) && (bitsF f).all fun y => Nat.beq (cntF (swF f p y)) (cntF f)) = true := by decide +kernel
theorem mem_tab : (all64 fun f => all64 fun g => bif Nat.beq (f ||| g) g then (bitsF f).all fun y => (bitsF g).contains y else true) = true := by decide +kernel
theorem cnt_add {f p : Nat} (hf : f < 64) (hp : p < 6) (h : f.testBit p = false) : cntF (addF f p) = cntF f + 1 := by
  have := all6_get (all64_get cnt_tab hf) hp
  rw [h, cond_false, Bool.and_eq_true] at this
  exact Nat.eq_of_beq_eq_true this.1
theorem cnt_sw {f p y : Nat} (hf : f < 64) (hp : p < 6) (h : f.testBit p = false) (hy : y ∈ bitsF f) : cntF (swF f p y) = cntF f := by
  have := all6_get (all64_get cnt_tab hf) hp
  rw [h, cond_false, Bool.and_eq_true] at this
  exact Nat.eq_of_beq_eq_true (List.all_eq_true.1 this.2 y hy)
theorem bits_sub {f g y : Nat} (hf : f < 64) (hg : g < 64) (h : f ||| g = g) (hy : y ∈ bitsF f) : y ∈ bitsF g := by
  have := all64_get (all64_get mem_tab hf) hg
  rw [h, Nat.beq_refl, cond_true] at this
  have := List.all_eq_true.1 this y hy
  exact List.contains_iff_mem.1 this
/-- What the table says of two floors, one within the other. -/
theorem sub_get {f g p : Nat} (hf : f < 64) (hg : g < 64) (hp : p < 6) (h : f ||| g = g) :
    (f.testBit p = true → g.testBit p = true) ∧ (addF f p ||| addF g p = addF g p) ∧
    (g.testBit p = true → (addF f p ||| g = g) ∧ ∀ y ∈ bitsF f, swF f p y ||| g = g) ∧
    (g.testBit p = false → (∀ y ∈ bitsF f, (swF f p y ||| addF g p = addF g p) ∧ (swF f p y ||| swF g p y = swF g p y)) ∧ (cntF f < cntF g → ∃ x ∈ bitsF g, addF f p ||| swF g p x = swF g p x)) := by
  have := all64_get (all64_get sub_ok hf) hg
  rw [h, Nat.beq_refl, cond_true] at this
  have := all6_get this hp
  simp only [Bool.and_eq_true] at this
  obtain ⟨⟨h1, h2⟩, h3⟩ := this
  refine ⟨fun e => ?_, Nat.eq_of_beq_eq_true h2, fun e => ?_, fun e => ?_⟩
  · rw [e, cond_true] at h1; exact h1
  · rw [e, cond_true, Bool.and_eq_true] at h3
    exact ⟨Nat.eq_of_beq_eq_true h3.1, fun y hy => Nat.eq_of_beq_eq_true (List.all_eq_true.1 h3.2 y hy)⟩
  · rw [e, cond_false, Bool.and_eq_true] at h3
    refine ⟨fun y hy => ?_, fun hc => ?_⟩
    · have := List.all_eq_true.1 h3.1 y hy
      simp only [Bool.and_eq_true] at this
      exact ⟨Nat.eq_of_beq_eq_true this.1, Nat.eq_of_beq_eq_true this.2⟩
    · have h4 := h3.2
      rw [show Nat.blt (cntF f) (cntF g) = true by simpa using hc, cond_true] at h4
      obtain ⟨x, hx, e⟩ := List.any_eq_true.1 h4
      exact ⟨x, hx, Nat.eq_of_beq_eq_true e⟩
theorem lst_mono {r : Nat} (hr : 0 < r) : ∀ (ps : List Nat), (∀ p ∈ ps, p < 6) → ∀ f g : Nat, f < 64 → g < 64 → f ||| g = g → cntF f ≤ r → cntF g ≤ r + 1 → lst (r + 1) ps g ≤ lst r ps f
  | [], _, f, g, _, _, _, _, _ => Int.le_refl _
  | p :: ps, hps, f, g, hf, hg, hs, hcf, hcg => by
    have hp := hps p (by simp)
    have ih := lst_mono hr ps (fun q hq => hps q (by simp [hq]))
    obtain ⟨s1, s2, s3, s4⟩ := sub_get hf hg hp hs
    cases hfp : f.testBit p with
    | true =>
      rw [lst_step hfp, lst_step (s1 hfp)]
      exact ih f g hf hg hs hcf hcg
    | false =>
      have hne : ¬ cntF f < r → bitsF f ≠ [] := fun h e => by
        rw [cntF_bits, e] at h
        exact h hr
      cases hgp : g.testBit p with
      | true =>
        obtain ⟨t1, t2⟩ := s3 hgp
        rw [lst_step hgp]
        by_cases hc : cntF f < r
        · rw [lst_add hfp hc]
          have := ih _ g (addF_lt hf hp) hg t1 (by rw [cnt_add hf hp hfp]; omega) hcg
          omega
        · rw [lst_sw hfp hc]
          obtain ⟨y, hy, e⟩ := mnl_mem (fun g => 1 + lst r ps (swF f p g)) (bitsF f) (hne hc)
          rw [e]
          have := ih _ g (swF_lt hf hp (bitsF_lt hy)) hg (t2 y hy) (by rw [cnt_sw hf hp hfp hy]; omega) hcg
          omega
      | false =>
        obtain ⟨t1, t2⟩ := s4 hgp
        by_cases hc2 : cntF g < r + 1
        · rw [lst_add hgp hc2]
          have hg2 : cntF (addF g p) ≤ r + 1 := by rw [cnt_add hg hp hgp]; omega
          by_cases hc : cntF f < r
          · rw [lst_add hfp hc]
            have := ih _ _ (addF_lt hf hp) (addF_lt hg hp) s2 (by rw [cnt_add hf hp hfp]; omega) hg2
            omega
          · rw [lst_sw hfp hc]
            obtain ⟨y, hy, e⟩ := mnl_mem (fun g => 1 + lst r ps (swF f p g)) (bitsF f) (hne hc)
            rw [e]
            have := ih _ _ (swF_lt hf hp (bitsF_lt hy)) (addF_lt hg hp) (t1 y hy).1 (by rw [cnt_sw hf hp hfp hy]; omega) hg2
            omega
        · rw [lst_sw hgp hc2]
          by_cases hc : cntF f < r
          · rw [lst_add hfp hc]
            obtain ⟨x, hx, e⟩ := t2 (by omega)
            have h1 := mnl_le (fun y => 1 + lst (r + 1) ps (swF g p y)) (bitsF g) hx
            have := ih _ _ (addF_lt hf hp) (swF_lt hg hp (bitsF_lt hx)) e (by rw [cnt_add hf hp hfp]; omega) (by rw [cnt_sw hg hp hgp hx]; omega)
            omega
          · rw [lst_sw hfp hc]
            obtain ⟨y, hy, e⟩ := mnl_mem (fun g => 1 + lst r ps (swF f p g)) (bitsF f) (hne hc)
            rw [e]
            have hyg := bits_sub hf hg hs hy
            have h1 := mnl_le (fun y => 1 + lst (r + 1) ps (swF g p y)) (bitsF g) hyg
            have := ih _ _ (swF_lt hf hp (bitsF_lt hy)) (swF_lt hg hp (bitsF_lt hyg)) (t1 y hy).2 (by rw [cnt_sw hf hp hfp hy]; omega) (by rw [cnt_sw hg hp hgp hyg]; omega)
            omega
theorem lst_room {r : Nat} (hr : 0 < r) {ps : List Nat} (hps : ∀ p ∈ ps, p < 6) : lst (r + 1) ps 0 ≤ lst r ps 0 := lst_mono hr ps hps 0 0 (by omega) (by omega) rfl (by rw [show cntF 0 = 0 by decide]; omega) (by rw [show cntF 0 = 0 by decide]; omega)
end Go.Proofs.YtkfkbebinhkdlaaDoor
set_option linter.unusedVariables false
set_option linter.unusedSimpArgs false
set_option maxRecDepth 100000
namespace Go.Proofs.YtkfkbebinhkdlaaDoor
open Go.Vi
/- (headword/volume.Article).most -/
/- (headword/volume.Book).counted -/
/- (headword/volume.lines).between -/
/- (headword/volume.lines).filled -/
/-D 84 -/
/-D 52 -/
/-D 63 -/
/-D 87 -/
/-D 58 -/
/-D 54 -/
/-D 56 -/
/-D 55c56 -/
/-D 86 -/
/-D 57 -/
/-D 24 -/
/-D 59 -/
/-D 25 -/
def M : Nat × Nat := (100000, 1)
theorem reigns_ok : D20 M = some true := by kernel_rfl
end Go.Proofs.YtkfkbebinhkdlaaDoor
/-
  The payment by greatest coins: the walk.
-/
set_option linter.unusedVariables false
set_option linter.unusedSimpArgs false
set_option maxRecDepth 100000
namespace Go.Proofs.YtkfkbebinhkdlaaDoor
open Go.RowKit Go.Shelf
section
attribute [local go_sem] Oper.semAt_some
end
open Go.Vi
end Go.Proofs.YtkfkbebinhkdlaaDoor
set_option linter.unusedVariables false
set_option linter.unusedSimpArgs false
set_option maxRecDepth 100000
namespace Go.Proofs.YtkfkbebinhkdlaaDoor
open Go.Vi
noncomputable def c5 : Code := bodyOf Tryd.f5
/-D 53 -/
/-D 21 -/
/-D 23 -/
/-D 5 -/
theorem by_u8 {n : Int} (h : Wf (.int .u8) n) : 0 ≤ n ∧ n ≤ 255 := by
  have h : (Lit.int .u8 n).wf = true := h
  simp only [Lit.wf, Bool.and_eq_true, decide_eq_true_eq] at h
  exact h
theorem tmod_small (k : Nat) (hk : 0 < k) {m : Int} (h : 0 ≤ m ∧ m ≤ 255) : ∃ a : Nat, a < k ∧ Int.tmod (wr .i64 m) (k : Int) = (a : Int) := by
  obtain ⟨x, rfl⟩ := Int.eq_ofNat_of_zero_le h.1
  have e : wr .i64 (x : Int) = (x : Int) := by
    show IntKind.i64.wrap _ = _
    rw [IntKind.wrap_i64]
    omega
  rw [e]
  exact ⟨x % k, Nat.mod_lt _ hk, (Int.ofNat_tmod x k).symm⟩
end Go.Proofs.YtkfkbebinhkdlaaDoor
