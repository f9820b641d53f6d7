/- Texts of this claim, joined: G88 to D100. -/
import Derived.KernelRfl
import Derived.LoopTactic
import Derived.Test.YtkfkbebinhkdlaaGreatDoorProg
import Derived.WalkKit
import Derived.Test.YtkfkbebinhkdlaaGreatDoorQTopSheetsCard6
set_option linter.unusedVariables false
set_option linter.unusedSimpArgs false
set_option maxRecDepth 100000
namespace Go.Proofs.YtkfkbebinhkdlaaGreatDoor
open Go.Vi
abbrev R88 := (Int × Int × Int × Int × Int × Int × Int × Int) × Int
noncomputable def c88 : Code := bodyOf Tryz.f88
noncomputable def an88 : Ann := (.s .l (.s .l (.s (.s .l (.s .l (.j [1, 2, 4] .l .l))) (.s (.s .l (.j [2, 4] (.j [2, 4, 18, 19, 20] (.s .l (.s (.j [2, 4, 18, 19, 20] .l .l) (.s (.j [2, 4, 18, 19, 20] .l .l) .l))) .l) .l)) .l))))
def pk88 : List PK := [.c (.pair (.int .i64) (.sl (.pair (.int .i64) (.int .i64))))]
def rk88 : List RK := [.box (.pair (.int .i64) (.pair (.int .u64) (.pair (.int .u64) (.pair (.int .u64) (.pair (.int .u64) (.pair (.int .u64) (.pair (.int .u64) (.int .u64)))))))) 2, .c (.int .i64) 3]
noncomputable def rt88 (st : St) : Option R88 := rtG rk88 st
noncomputable def E88 (n : Nat × Nat) : Env := { T := tab, phi := (consPhi 97 (fun _ => true) (P97 n) noPhi), eff := fun _ => false, fuel := n.1, hold := n.2 }
noncomputable def kq88_3 (n : Nat × Nat) : St → Option R88 := run (E88 n) (cB (cB (cB (cB c88)))) (Ann.snd (Ann.snd (Ann.snd (Ann.snd an88)))) rt88 (fun _ _ => none) rt88
noncomputable def xb88_5 (n : Nat × Nat) : Nat → St → Option R88 := fun j s => bif Nat.beq j 0 then normC [2, 4] s (kq88_3 n) else (fun _ _ => none) j s
noncomputable def F88_6 (n : Nat × Nat) : (St → Option R88) → St → Option R88 := fun K s => run (E88 n) (cA (cA (cB (cA (cB (cB (cB c88))))))) (Ann.fst (Ann.fst (Ann.snd (Ann.fst (Ann.snd (Ann.snd (Ann.snd an88))))))) (fun s => normC [2, 4, 18, 19, 20] s K) (xb88_5 n) rt88 s
noncomputable def L88_1 (n : Nat × Nat) (m : Nat) (v18 : List (Int × Int)) (v19 : Int) (v20 : Int) (v2_0 : Int) (v2_1 : Int) (v2_2 : Int) (v2_3 : Int) (v2_4 : Int) (v2_5 : Int) (v2_6 : Int) (v2_7 : Int) (w4_0 : Int) (w4_1 : Int) (w4_2 : Int) (w4_3 : Int) (w4_4 : Int) (w4_5 : Int) (w4_6 : Int) (w4_7 : Int) : Option R88 := loopN (F88_6 n) m { tm := [uu, uu, .ptr 2 0, uu, .ptr 4 0, uu, uu, uu, uu, uu, uu, uu, uu, uu, uu, uu, uu, uu, .c (.sl (.pair (.int .i64) (.int .i64)) v18 false), .c (.int .i64 v19), .c (.int .i64 v20), uu, uu, uu, uu, uu, uu, uu, uu, uu, uu, uu, uu, uu, uu, uu, uu], hp := (upd (upd emp 4 (.box [.int .i64 w4_0, .int .u64 w4_1, .int .u64 w4_2, .int .u64 w4_3, .int .u64 w4_4, .int .u64 w4_5, .int .u64 w4_6, .int .u64 w4_7])) 2 (.box [.int .i64 v2_0, .int .u64 v2_1, .int .u64 v2_2, .int .u64 v2_3, .int .u64 v2_4, .int .u64 v2_5, .int .u64 v2_6, .int .u64 v2_7])) }
theorem L88_1_eq (n : Nat × Nat) (m1 : Nat) (v18 : List (Int × Int)) (v19 : Int) (v20 : Int) (v2_0 : Int) (v2_1 : Int) (v2_2 : Int) (v2_3 : Int) (v2_4 : Int) (v2_5 : Int) (v2_6 : Int) (v2_7 : Int) (w4_0 : Int) (w4_1 : Int) (w4_2 : Int) (w4_3 : Int) (w4_4 : Int) (w4_5 : Int) (w4_6 : Int) (w4_7 : Int) : L88_1 n (m1 + 1) v18 v19 v20 v2_0 v2_1 v2_2 v2_3 v2_4 v2_5 v2_6 v2_7 w4_0 w4_1 w4_2 w4_3 w4_4 w4_5 w4_6 w4_7 =
 (bif decide (v20 < v19) then (idx v18 v20).bind fun x2' =>
 (bif inB 0 2 then (idx [x2'.1, x2'.2] 0).bind fun x3' =>
 (bif inB x3' 7 then (idx [w4_1, w4_2, w4_3, w4_4, w4_5, w4_6, w4_7] x3').bind fun x4' =>
 (bif inB 1 2 then (idx [x2'.1, x2'.2] 1).bind fun x5' =>
 (bif decide (x5' < 0) then none
 else (bif inB x3' 7 then L88_1 n m1 v18 v19 (wr .i64 (v20 + 1)) v2_0 v2_1 v2_2 v2_3 v2_4 v2_5 v2_6 v2_7 w4_0 (bif (x3' == 0) then wr .u64 (BitVec.ofInt (IntKind.bits .u64) x4' ||| BitVec.ofInt (IntKind.bits .u64) (wr .u64 (1 * 2 ^ (min (Int.toNat x5') (IntKind.bits .u64))))).toNat else w4_1) (bif (x3' == 1) then wr .u64 (BitVec.ofInt (IntKind.bits .u64) x4' ||| BitVec.ofInt (IntKind.bits .u64) (wr .u64 (1 * 2 ^ (min (Int.toNat x5') (IntKind.bits .u64))))).toNat else w4_2) (bif (x3' == 2) then wr .u64 (BitVec.ofInt (IntKind.bits .u64) x4' ||| BitVec.ofInt (IntKind.bits .u64) (wr .u64 (1 * 2 ^ (min (Int.toNat x5') (IntKind.bits .u64))))).toNat else w4_3) (bif (x3' == 3) then wr .u64 (BitVec.ofInt (IntKind.bits .u64) x4' ||| BitVec.ofInt (IntKind.bits .u64) (wr .u64 (1 * 2 ^ (min (Int.toNat x5') (IntKind.bits .u64))))).toNat else w4_4) (bif (x3' == 4) then wr .u64 (BitVec.ofInt (IntKind.bits .u64) x4' ||| BitVec.ofInt (IntKind.bits .u64) (wr .u64 (1 * 2 ^ (min (Int.toNat x5') (IntKind.bits .u64))))).toNat else w4_5) (bif (x3' == 5) then wr .u64 (BitVec.ofInt (IntKind.bits .u64) x4' ||| BitVec.ofInt (IntKind.bits .u64) (wr .u64 (1 * 2 ^ (min (Int.toNat x5') (IntKind.bits .u64))))).toNat else w4_6) (bif (x3' == 6) then wr .u64 (BitVec.ofInt (IntKind.bits .u64) x4' ||| BitVec.ofInt (IntKind.bits .u64) (wr .u64 (1 * 2 ^ (min (Int.toNat x5') (IntKind.bits .u64))))).toNat else w4_7)
 else none))
 else none)
 else none)
 else none)
 else some ((w4_0, w4_1, w4_2, w4_3, w4_4, w4_5, w4_6, w4_7), 0)) := by kernel_rfl
noncomputable def S88 (n : Nat × Nat) (b0 : Int × List (Int × Int)) : Option R88 := run (E88 n) c88 an88 rt88 (fun _ _ => none) rt88 { tm := [.agg [.int .i64 b0.1, .sl (.pair (.int .i64) (.int .i64)) b0.2 false], uu, uu, uu, uu, uu, uu, uu, uu, uu, uu, uu, uu, uu, uu, uu, uu, uu, uu, uu, uu, uu, uu, uu, uu, uu, uu, uu, uu, uu, uu, uu, uu, uu, uu, uu, uu], hp := emp }
theorem S88_eq (n : Nat × Nat) (b0 : Int × List (Int × Int)) : S88 n b0 =
 (S97 n b0).bind fun r1' =>
 (bif (r1' != 0) then some ((b0.1, 0, 0, 0, 0, 0, 0, 0), r1')
 else L88_1 n n.1 b0.2 (b0.2.length : Int) 0 0 0 0 0 0 0 0 0 b0.1 0 0 0 0 0 0 0) := by kernel_rfl
theorem S88_run (n : Nat × Nat) (xs : pksDen pk88) : S88 n xs.1 = runG (E88 n) noScope c88 an88 (rtG rk88) (fun _ _ => none) (rtG rk88) (st0 pk88 xs Tryz.f88.ntmps) := by kernel_rfl
noncomputable def P88 (n : Nat × Nat) := phiOf pk88 rk88 (fun xs => S88 n xs.1)
theorem call88 : CallOK Tryz.prog 88 := callOK_of Tryz.func88 (by kernel_rfl) (by kernel_rfl)
theorem env88 (n : Nat × Nat) : EnvOK Tryz.prog (E88 n) := envOK0 (consPhi_ok (FC97 n) call97 noPhi_ok) rfl rfl
theorem par88 (n : Nat × Nat) : EnvPar (E88 n) := envPar0 (consPhi_par phiOf_Par1 noPhi_par) rfl
theorem FC88 (n : Nat × Nat) : FCs Tryz.prog 88 (P88 n) := phiOf_FCs fun xs r h vs hv => FC.of_runG tabOK eqsOK (env88 n) (par88 n) mixed (fun _ p _ => noScope_ok p.1 p.2) Tryz.func88 (c := c88) (an := an88) (pks := pk88) (rks := rk88) (by kernel_rfl) (by kernel_rfl) hv ((S88_run n xs).symm.trans h)
/- (headword/see.web).judged -/
abbrev R89 := Int
noncomputable def c89 : Code := bodyOf Tryz.f89
noncomputable def an89 : Ann := (.s .l (.s .l (.s (.s .l (.j [5] (.j [1, 5, 12, 13, 14, 27, 28, 29, 30, 36, 37, 38, 39] (.s .l (.s (.j [1, 5, 12, 13, 14, 27, 28, 29, 30, 36, 37, 38, 39] .l .l) (.j [] (.j [1, 5, 12, 13, 14, 27, 28, 29, 30, 36, 37, 38, 39] (.s .l (.s .l (.j [1, 5, 12, 13, 14, 27, 28, 29, 30, 36, 37, 38, 39] (.s .l (.j [1, 5, 12, 13, 14, 27, 28, 29, 30, 36, 37, 38, 39] .l (.s .l (.j [1, 5, 12, 13, 14, 27, 28, 29, 30, 36, 37, 38, 39] .l .l)))) .l))) .l) .l))) .l) .l)) (.s (.s .l (.j [] .l .l)) .l))))
def pk89 : List PK := [.c (.pair (.int .i64) (.pair (.int .u64) (.pair (.int .u64) (.pair (.int .u64) (.pair (.int .u64) (.pair (.int .u64) (.pair (.int .u64) (.int .u64)))))))), .c (.int .u64)]
def rk89 : List RK := [.c (.int .i64) 4]
noncomputable def rt89 (st : St) : Option R89 := rtG rk89 st
noncomputable def E89 (n : Nat × Nat) : Env := { T := tab, phi := noPhi, eff := fun _ => false, fuel := n.1, hold := n.2 }
noncomputable def kq89_1 (n : Nat × Nat) : St → Option R89 := run (E89 n) (cB (cB (cB c89))) (Ann.snd (Ann.snd (Ann.snd an89))) rt89 (fun _ _ => none) rt89
noncomputable def xb89_3 (n : Nat × Nat) : Nat → St → Option R89 := fun j s => bif Nat.beq j 0 then normC [5] s (kq89_1 n) else (fun _ _ => none) j s
noncomputable def F89_4 (n : Nat × Nat) : (St → Option R89) → St → Option R89 := fun K s => run (E89 n) (cA (cA (cB (cA (cB (cB c89)))))) (Ann.fst (Ann.fst (Ann.snd (Ann.fst (Ann.snd (Ann.snd an89)))))) (fun s => normC [1, 5, 12, 13, 14, 27, 28, 29, 30, 36, 37, 38, 39] s K) (xb89_3 n) rt89 s
noncomputable def kq89_7 (n : Nat × Nat) (m1 : Nat) : St → Option R89 := run (E89 n) (cB (cB (cB (cA (cA (cB (cA (cB (cB c89))))))))) (Ann.snd (Ann.snd (Ann.snd (Ann.fst (Ann.fst (Ann.snd (Ann.fst (Ann.snd (Ann.snd an89))))))))) (fun s => normC [1, 5, 12, 13, 14, 27, 28, 29, 30, 36, 37, 38, 39] s (loopN (F89_4 n) m1)) (xb89_3 n) rt89
noncomputable def L89_1 (n : Nat × Nat) (m : Nat) (choice1 : Int) (v5 : Bool) (v12 : List Int) (v13 : Int) (v14 : Int) : Option R89 := loopN (F89_4 n) m { tm := [uu, .c (.int .u64 choice1), uu, uu, uu, .c (.bool v5), uu, uu, uu, uu, uu, uu, .c (.sl (.int .u64) v12 false), .c (.int .i64 v13), .c (.int .i64 v14), uu, uu, uu, uu, uu, uu, uu, uu, uu, uu, uu, uu, uu, uu, uu, uu, uu, uu, uu, uu, uu, uu, uu, uu, uu, uu, uu, uu], hp := emp }
noncomputable def L89_2 (n : Nat × Nat) (m1 : Nat) (choice1 : Int) (v5 : Bool) (v12 : List Int) (v13 : Int) (v14 : Int) : Option R89 := loopN (fun _ => (kq89_7 n m1)) n.2 { tm := [uu, .c (.int .u64 choice1), uu, uu, uu, .c (.bool v5), uu, uu, uu, uu, uu, uu, .c (.sl (.int .u64) v12 false), .c (.int .i64 v13), .c (.int .i64 v14), uu, uu, uu, uu, uu, uu, uu, uu, uu, uu, uu, uu, uu, uu, uu, uu, uu, uu, uu, uu, uu, uu, uu, uu, uu, uu, uu, uu], hp := emp }
theorem L89_1_eq (n : Nat × Nat) (m1 : Nat) (choice1 : Int) (v5 : Bool) (v12 : List Int) (v13 : Int) (v14 : Int) : L89_1 n (m1 + 1) choice1 v5 v12 v13 v14 =
 (bif decide (v14 < v13) then (idx v12 v14).bind fun x1' =>
 (bif decide (v14 < 0) then none
 else ((bif (((wr .u64 (BitVec.ofInt (IntKind.bits .u64) (Int.fdiv choice1 (2 ^ (min (Int.toNat v14) (IntKind.bits .u64)))) &&& BitVec.ofInt (IntKind.bits .u64) 1).toNat) == 1) == true) then some ((wr .u64 (BitVec.ofInt (IntKind.bits .u64) x1' &&& BitVec.ofInt (IntKind.bits .u64) choice1).toNat) != 0)
 else some false)).bind fun b2' =>
 (bif b2' then some 13
 else ((bif ((!((wr .u64 (BitVec.ofInt (IntKind.bits .u64) (Int.fdiv choice1 (2 ^ (min (Int.toNat v14) (IntKind.bits .u64)))) &&& BitVec.ofInt (IntKind.bits .u64) 1).toNat) == 1)) == true) then some ((wr .u64 (BitVec.ofInt (IntKind.bits .u64) x1' &&& BitVec.ofInt (IntKind.bits .u64) choice1).toNat) == 0)
 else some false)).bind fun b3' =>
 (bif b3' then L89_2 n m1 choice1 true v12 v13 v14
 else L89_2 n m1 choice1 v5 v12 v13 v14)))
 else (bif v5 then some 21
 else some 0)) := by kernel_rfl
theorem L89_2_raw (n : Nat × Nat) (m1 : Nat) (choice1 : Int) (v5 : Bool) (v12 : List Int) (v13 : Int) (v14 : Int) : (kq89_7 n m1) { tm := [uu, .c (.int .u64 choice1), uu, uu, uu, .c (.bool v5), uu, uu, uu, uu, uu, uu, .c (.sl (.int .u64) v12 false), .c (.int .i64 v13), .c (.int .i64 v14), uu, uu, uu, uu, uu, uu, uu, uu, uu, uu, uu, uu, uu, uu, uu, uu, uu, uu, uu, uu, uu, uu, uu, uu, uu, uu, uu, uu], hp := emp } =
    L89_1 n m1 choice1 v5 v12 v13 (wr .i64 (v14 + 1)) := by kernel_rfl
noncomputable def S89 (n : Nat × Nat) (w0 : Int × Int × Int × Int × Int × Int × Int × Int) (choice1 : Int) : Option R89 := run (E89 n) c89 an89 rt89 (fun _ _ => none) rt89 { tm := [.agg [.int .i64 w0.1, .int .u64 w0.2.1, .int .u64 w0.2.2.1, .int .u64 w0.2.2.2.1, .int .u64 w0.2.2.2.2.1, .int .u64 w0.2.2.2.2.2.1, .int .u64 w0.2.2.2.2.2.2.1, .int .u64 w0.2.2.2.2.2.2.2], .c (.int .u64 choice1), uu, uu, uu, uu, uu, uu, uu, uu, uu, uu, uu, uu, uu, uu, uu, uu, uu, uu, uu, uu, uu, uu, uu, uu, uu, uu, uu, uu, uu, uu, uu, uu, uu, uu, uu, uu, uu, uu, uu, uu, uu], hp := emp }
theorem S89_eq (n : Nat × Nat) (w0 : Int × Int × Int × Int × Int × Int × Int × Int) (choice1 : Int) : S89 n w0 choice1 =
 (bif bounds none (some w0.1) none 7 then L89_1 n n.1 choice1 false ([w0.2.1, w0.2.2.1, w0.2.2.2.1, w0.2.2.2.2.1, w0.2.2.2.2.2.1, w0.2.2.2.2.2.2.1, w0.2.2.2.2.2.2.2].take (Int.toNat w0.1)) (([w0.2.1, w0.2.2.1, w0.2.2.2.1, w0.2.2.2.2.1, w0.2.2.2.2.2.1, w0.2.2.2.2.2.2.1, w0.2.2.2.2.2.2.2].take (Int.toNat w0.1)).length : Int) 0
 else none) := by kernel_rfl
theorem S89_run (n : Nat × Nat) (xs : pksDen pk89) : S89 n xs.1 xs.2.1 = runG (E89 n) noScope c89 an89 (rtG rk89) (fun _ _ => none) (rtG rk89) (st0 pk89 xs Tryz.f89.ntmps) := by kernel_rfl
noncomputable def P89 (n : Nat × Nat) := phiOf pk89 rk89 (fun xs => S89 n xs.1 xs.2.1)
theorem call89 : CallOK Tryz.prog 89 := callOK_of Tryz.func89 (by kernel_rfl) (by kernel_rfl)
theorem env89 (n : Nat × Nat) : EnvOK Tryz.prog (E89 n) := envOK0 noPhi_ok rfl rfl
theorem par89 (n : Nat × Nat) : EnvPar (E89 n) := envPar0 noPhi_par rfl
theorem FC89 (n : Nat × Nat) : FCs Tryz.prog 89 (P89 n) := phiOf_FCs fun xs r h vs hv => FC.of_runG tabOK eqsOK (env89 n) (par89 n) mixed (fun _ p _ => noScope_ok p.1 p.2) Tryz.func89 (c := c89) (an := an89) (pks := pk89) (rks := rk89) (by kernel_rfl) (by kernel_rfl) hv ((S89_run n xs).symm.trans h)
abbrev R90 := List Int
noncomputable def c90 : Code := bodyOf Tryz.f90
noncomputable def an90 : Ann := (.s .l (.s .l (.s (.j [3] (.j [0, 3] (.s (.s .l (.j [0, 3] .l .l)) (.s (.j [0, 3] .l .l) .l)) .l) .l) .l)))
def pk90 : List PK := [.c (.int .u64)]
def rk90 : List RK := [.own (.int .i64) 2]
noncomputable def rt90 (st : St) : Option R90 := rtG rk90 st
noncomputable def E90 (n : Nat × Nat) : Env := { T := tab, phi := (consPhi 73 (fun _ => true) (P73 n) noPhi), eff := fun _ => false, fuel := n.1, hold := n.2 }
noncomputable def kq90_1 (n : Nat × Nat) : St → Option R90 := run (E90 n) (cB (cB (cB c90))) (Ann.snd (Ann.snd (Ann.snd an90))) rt90 (fun _ _ => none) rt90
noncomputable def xb90_3 (n : Nat × Nat) : Nat → St → Option R90 := fun j s => bif Nat.beq j 0 then normC [3] s (kq90_1 n) else (fun _ _ => none) j s
noncomputable def F90_4 (n : Nat × Nat) : (St → Option R90) → St → Option R90 := fun K s => run (E90 n) (cA (cA (cA (cB (cB c90))))) (Ann.fst (Ann.fst (Ann.fst (Ann.snd (Ann.snd an90))))) (fun s => normC [0, 3] s K) (xb90_3 n) rt90 s
noncomputable def L90_1 (n : Nat × Nat) (m : Nat) (v0 : Int) (out3 : List Int) : Option R90 := loopN (F90_4 n) m { tm := [.c (.int .u64 v0), uu, uu, .own 3 none false, uu, uu, uu, uu, uu, uu, uu, uu, uu, uu, uu, uu], hp := (upd emp 3 (.arr (.int .i64) out3 false)) }
theorem L90_1_eq (n : Nat × Nat) (m1 : Nat) (v0 : Int) (out3 : List Int) : L90_1 n (m1 + 1) v0 out3 =
 (bif (v0 != 0) then (S73 n v0).bind fun r1' =>
 (bif decide (out3.length + [r1'].length ≤ lim) then L90_1 n m1 (wr .u64 (BitVec.ofInt (IntKind.bits .u64) v0 &&& BitVec.ofInt (IntKind.bits .u64) (wr .u64 (v0 - 1))).toNat) (out3 ++ [r1'])
 else none)
 else some out3) := by kernel_rfl
noncomputable def S90 (n : Nat × Nat) (v0 : Int) : Option R90 := run (E90 n) c90 an90 rt90 (fun _ _ => none) rt90 { tm := [.c (.int .u64 v0), uu, uu, uu, uu, uu, uu, uu, uu, uu, uu, uu, uu, uu, uu, uu], hp := emp }
theorem S90_eq (n : Nat × Nat) (v0 : Int) : S90 n v0 =
    L90_1 n n.1 v0 [] := by kernel_rfl
theorem S90_run (n : Nat × Nat) (xs : pksDen pk90) : S90 n xs.1 = runG (E90 n) noScope c90 an90 (rtG rk90) (fun _ _ => none) (rtG rk90) (st0 pk90 xs Tryz.f90.ntmps) := by kernel_rfl
noncomputable def P90 (n : Nat × Nat) := phiOf pk90 rk90 (fun xs => S90 n xs.1)
theorem call90 : CallOK Tryz.prog 90 := callOK_of Tryz.func90 (by kernel_rfl) (by kernel_rfl)
theorem env90 (n : Nat × Nat) : EnvOK Tryz.prog (E90 n) := envOK0 (consPhi_ok (FC73 n) call73 noPhi_ok) rfl rfl
theorem par90 (n : Nat × Nat) : EnvPar (E90 n) := envPar0 (consPhi_par phiOf_Par1 noPhi_par) rfl
theorem FC90 (n : Nat × Nat) : FCs Tryz.prog 90 (P90 n) := phiOf_FCs fun xs r h vs hv => FC.of_runG tabOK eqsOK (env90 n) (par90 n) mixed (fun _ p _ => noScope_ok p.1 p.2) Tryz.func90 (c := c90) (an := an90) (pks := pk90) (rks := rk90) (by kernel_rfl) (by kernel_rfl) hv ((S90_run n xs).symm.trans h)
end Go.Proofs.YtkfkbebinhkdlaaGreatDoor
/-
  slices.SortFunc at a list of at most one element: it stays as it is.
-/
set_option linter.unusedVariables false
set_option linter.unusedSimpArgs false
set_option maxRecDepth 100000
namespace Go.Proofs.YtkfkbebinhkdlaaGreatDoor
open Go.RowKit
theorem ins_in (a : Option Addr) (L cap : Nat) (w : World) (f : Value) (hL : L ≤ 1) :
    Calls Tryz.prog 101 #[.slice a L cap, .int .i64 0, .int .i64 L, f] w fun e W' => e = .returned (.tuple #[]) ∧ w = W' := by
  go_enter Tryz.func101, Tryz.ntmps101
  go_wp2
  refine wp_loop_rounds 1 ?_
  rw [rounds_succ]
  go_wp2
  go_end0
  exact ⟨rfl, rfl⟩
theorem pdq_in (a : Option Addr) (L cap : Nat) (w : World) (f : Value) (k : Int) (hL : L ≤ 1) :
    Calls Tryz.prog 98 #[.slice a L cap, .int .i64 0, .int .i64 L, .int .i64 k, f] w fun e W' => e = .returned (.tuple #[]) ∧ w = W' := by
  go_enter Tryz.func98, Tryz.ntmps98
  go_wp2
  refine wp_loop_rounds 1 ?_
  rw [rounds_succ]
  go_wp2_with (go_at_call 101; refine (ins_in a L cap _ f hL).mono ?_; rintro e w1 ⟨rfl, rfl⟩)
  exact bodyPost_ret (results_none rfl _ _ _) rfl ⟨rfl, rfl⟩
theorem len0_in (w : World) : Calls Tryz.prog 99 #[.int .u64 0] w fun e W' => ∃ k : Int, e = .returned (.int .i64 k) ∧ w = W' := by
  have h : Calls Tryz.prog 110 #[.int .u64 0] w fun e W' => ∃ k : Int, e = .returned (.int .i64 k) ∧ w = W' := by
    go_enter Tryz.func110, Tryz.ntmps110
    go_wp2
    go_ret
    exact ⟨_, rfl, rfl⟩
  go_enter Tryz.func99, Tryz.ntmps99
  go_wp2_with (go_at_call 110; refine h.mono ?_; rintro e w1 ⟨k, rfl, rfl⟩)
  go_ret
  exact ⟨_, rfl, rfl⟩
theorem len1_in (w : World) : Calls Tryz.prog 99 #[.int .u64 1] w fun e W' => ∃ k : Int, e = .returned (.int .i64 k) ∧ w = W' := by
  have h : Calls Tryz.prog 110 #[.int .u64 1] w fun e W' => ∃ k : Int, e = .returned (.int .i64 k) ∧ w = W' := by
    go_enter Tryz.func110, Tryz.ntmps110
    go_wp2
    go_ret
    exact ⟨_, rfl, rfl⟩
  go_enter Tryz.func99, Tryz.ntmps99
  go_wp2_with (go_at_call 110; refine h.mono ?_; rintro e w1 ⟨k, rfl, rfl⟩)
  go_ret
  exact ⟨_, rfl, rfl⟩
theorem sort_in (a : Option Addr) (L cap : Nat) (w : World) (f : Value) (hL : L ≤ 1) :
    Calls Tryz.prog 91 #[.slice a L cap, f] w fun e W' => e = .returned (.tuple #[]) ∧ w = W' := by
  have key : L = 0 ∨ L = 1 := by omega
  rcases key with rfl | rfl
  · have hp := fun k => pdq_in a 0 cap w f k (by omega)
    go_enter Tryz.func91, Tryz.ntmps91
    go_wp2_with (first | (go_at_call 99; refine (len0_in _).mono ?_; rintro e w1 ⟨k, rfl, rfl⟩) | (go_at_call 98; refine (hp _).mono ?_; rintro e w1 ⟨rfl, rfl⟩))
    go_end0
    exact ⟨rfl, rfl⟩
  · have hp := fun k => pdq_in a 1 cap w f k (by omega)
    go_enter Tryz.func91, Tryz.ntmps91
    go_wp2_with (first | (go_at_call 99; refine (len1_in _).mono ?_; rintro e w1 ⟨k, rfl, rfl⟩) | (go_at_call 98; refine (hp _).mono ?_; rintro e w1 ⟨rfl, rfl⟩))
    go_end0
    exact ⟨rfl, rfl⟩
open Go.Vi
def HF91 (l : List (List Int)) : Option Unit := bif Nat.ble l.length 1 then some () else none
theorem HC91 (xs : pksDen [.c (.sl (.sl (.int .i64))), .f 47 []]) (r : rksDen []) (h : HF91 xs.1 = some r) (vs : List V) (hv : pksArg [.c (.sl (.sl (.int .i64))), .f 47 []] vs = some xs) :
    FC Tryz.prog 91 vs (rets [] r) := by
  obtain ⟨l, y, ⟨⟩⟩ := xs
  unfold HF91 at h
  obtain ⟨hl, h⟩ := cond_some h rfl
  have hl : l.length ≤ 1 := Nat.le_of_ble_eq_true hl
  intro w A0 args hA hargs hgl
  have hv2 := pksArg_VR _ _ _ _ hv hargs
  match args, hv2 with
  | [u1, u2], ⟨g0, _, _⟩ =>
    have g0 : CR w A0 (.sl (.sl (.int .i64)) l false) u1 := g0
    obtain ⟨a, cap, rfl, _⟩ := g0
    refine (sort_in a l.length cap w u2 hl).mono ?_
    rintro e W' ⟨rfl, rfl⟩
    exact ⟨⟨Nat.le_refl _, rfl, rfl, rfl, fun _ _ => rfl⟩, [], [], rfl, trivial⟩
end Go.Proofs.YtkfkbebinhkdlaaGreatDoor
set_option linter.unusedVariables false
set_option linter.unusedSimpArgs false
set_option maxRecDepth 100000
namespace Go.Proofs.YtkfkbebinhkdlaaGreatDoor
open Go.Vi
abbrev R91c47 := Unit
def pk91c47 : List PK := [.c (.sl (.sl (.int .i64))), .f 47 []]
def rk91c47 : List RK := []
noncomputable def S91c47 (n : Nat × Nat) (x0 : List (List Int)) : Option R91c47 := HF91 x0
noncomputable def P91c47 (n : Nat × Nat) := phiOf pk91c47 rk91c47 (fun xs => S91c47 n xs.1)
theorem call91 : CallOK Tryz.prog 91 := callOK_of Tryz.func91 (by kernel_rfl) (by kernel_rfl)
theorem FC91c47 (n : Nat × Nat) : FCs Tryz.prog 91 (P91c47 n) := phiOf_FCs fun xs r h vs hv => HC91 xs r h vs hv
abbrev R77 := List (List Int) × Int
noncomputable def c77 : Code := bodyOf Tryz.f77
noncomputable def an77 : Ann := (.s .l (.s .l (.s (.s .l (.j [4] .l .l)) (.s .l (.s (.s .l (.j [6] (.j [4, 6, 18, 19] (.s .l (.s (.j [4, 6, 18, 19] .l .l) (.j [] (.j [4, 6, 18, 19] (.s .l (.s .l (.j [4, 6, 18, 19] .l .l))) .l) .l))) .l) .l)) .l)))))
def pk77 : List PK := [.c (.pair (.int .i64) (.sl (.pair (.int .i64) (.int .i64))))]
def rk77 : List RK := [.own (.sl (.int .i64)) 2, .c (.int .i64) 3]
noncomputable def rt77 (st : St) : Option R77 := rtG rk77 st
noncomputable def E77 (n : Nat × Nat) : Env := { T := tab, phi := (consPhi 88 (fun _ => true) (P88 n) (consPhi 89 (fun _ => true) (P89 n) (consPhi 90 (fun _ => true) (P90 n) (consPhi 91 (isFns [none, some 47]) (P91c47 n) noPhi)))), eff := fun _ => false, fuel := n.1, hold := n.2 }
noncomputable def kq77_3 (n : Nat × Nat) : St → Option R77 := run (E77 n) (cB (cB (cB (cB (cB c77))))) (Ann.snd (Ann.snd (Ann.snd (Ann.snd (Ann.snd an77))))) rt77 (fun _ _ => none) rt77
noncomputable def xb77_5 (n : Nat × Nat) : Nat → St → Option R77 := fun j s => bif Nat.beq j 0 then normC [6] s (kq77_3 n) else (fun _ _ => none) j s
noncomputable def F77_6 (n : Nat × Nat) : (St → Option R77) → St → Option R77 := fun K s => run (E77 n) (cA (cA (cB (cA (cB (cB (cB (cB c77)))))))) (Ann.fst (Ann.fst (Ann.snd (Ann.fst (Ann.snd (Ann.snd (Ann.snd (Ann.snd an77)))))))) (fun s => normC [4, 6, 18, 19] s K) (xb77_5 n) rt77 s
noncomputable def kq77_9 (n : Nat × Nat) (m1 : Nat) : St → Option R77 := run (E77 n) (cB (cB (cB (cA (cA (cB (cA (cB (cB (cB (cB c77))))))))))) (Ann.snd (Ann.snd (Ann.snd (Ann.fst (Ann.fst (Ann.snd (Ann.fst (Ann.snd (Ann.snd (Ann.snd (Ann.snd an77))))))))))) (fun s => normC [4, 6, 18, 19] s (loopN (F77_6 n) m1)) (xb77_5 n) rt77
noncomputable def L77_1 (n : Nat × Nat) (m : Nat) (v18 : Int) (v19 : Int) (w4_0 : Int) (w4_1 : Int) (w4_2 : Int) (w4_3 : Int) (w4_4 : Int) (w4_5 : Int) (w4_6 : Int) (w4_7 : Int) (out6 : List (List Int)) : Option R77 := loopN (F77_6 n) m { tm := [uu, uu, uu, uu, .ptr 4 0, uu, .own 6 none false, uu, uu, uu, uu, uu, uu, uu, uu, uu, uu, uu, .c (.int .u64 v18), .c (.int .u64 v19), uu, uu, uu, uu, uu, uu, uu, uu, uu, uu, uu, uu, uu, uu, uu], hp := (upd (upd emp 6 (.arr (.sl (.int .i64)) out6 false)) 4 (.box [.int .i64 w4_0, .int .u64 w4_1, .int .u64 w4_2, .int .u64 w4_3, .int .u64 w4_4, .int .u64 w4_5, .int .u64 w4_6, .int .u64 w4_7])) }
noncomputable def L77_2 (n : Nat × Nat) (m1 : Nat) (v18 : Int) (v19 : Int) (w4_0 : Int) (w4_1 : Int) (w4_2 : Int) (w4_3 : Int) (w4_4 : Int) (w4_5 : Int) (w4_6 : Int) (w4_7 : Int) (out6 : List (List Int)) : Option R77 := loopN (fun _ => (kq77_9 n m1)) n.2 { tm := [uu, uu, uu, uu, .ptr 4 0, uu, .own 6 none false, uu, uu, uu, uu, uu, uu, uu, uu, uu, uu, uu, .c (.int .u64 v18), .c (.int .u64 v19), uu, uu, uu, uu, uu, uu, uu, uu, uu, uu, uu, uu, uu, uu, uu], hp := (upd (upd emp 6 (.arr (.sl (.int .i64)) out6 false)) 4 (.box [.int .i64 w4_0, .int .u64 w4_1, .int .u64 w4_2, .int .u64 w4_3, .int .u64 w4_4, .int .u64 w4_5, .int .u64 w4_6, .int .u64 w4_7])) }
theorem L77_1_eq (n : Nat × Nat) (m1 : Nat) (v18 : Int) (v19 : Int) (w4_0 : Int) (w4_1 : Int) (w4_2 : Int) (w4_3 : Int) (w4_4 : Int) (w4_5 : Int) (w4_6 : Int) (w4_7 : Int) (out6 : List (List Int)) : L77_1 n (m1 + 1) v18 v19 w4_0 w4_1 w4_2 w4_3 w4_4 w4_5 w4_6 w4_7 out6 =
 (bif decide (v19 < v18) then (S89 n (w4_0, w4_1, w4_2, w4_3, w4_4, w4_5, w4_6, w4_7) v19).bind fun r2' =>
 (bif (r2' == 0) then (S90 n v19).bind fun r3' =>
 (bif decide (out6.length + [r3'].length ≤ lim) then L77_2 n m1 v18 v19 w4_0 w4_1 w4_2 w4_3 w4_4 w4_5 w4_6 w4_7 (out6 ++ [r3'])
 else none)
 else L77_2 n m1 v18 v19 w4_0 w4_1 w4_2 w4_3 w4_4 w4_5 w4_6 w4_7 out6)
 else (S91c47 n out6).bind fun r4' =>
 some (out6, 0)) := by kernel_rfl
theorem L77_2_raw (n : Nat × Nat) (m1 : Nat) (v18 : Int) (v19 : Int) (w4_0 : Int) (w4_1 : Int) (w4_2 : Int) (w4_3 : Int) (w4_4 : Int) (w4_5 : Int) (w4_6 : Int) (w4_7 : Int) (out6 : List (List Int)) : (kq77_9 n m1) { tm := [uu, uu, uu, uu, .ptr 4 0, uu, .own 6 none false, uu, uu, uu, uu, uu, uu, uu, uu, uu, uu, uu, .c (.int .u64 v18), .c (.int .u64 v19), uu, uu, uu, uu, uu, uu, uu, uu, uu, uu, uu, uu, uu, uu, uu], hp := (upd (upd emp 6 (.arr (.sl (.int .i64)) out6 false)) 4 (.box [.int .i64 w4_0, .int .u64 w4_1, .int .u64 w4_2, .int .u64 w4_3, .int .u64 w4_4, .int .u64 w4_5, .int .u64 w4_6, .int .u64 w4_7])) } =
    L77_1 n m1 v18 (wr .u64 (v19 + 1)) w4_0 w4_1 w4_2 w4_3 w4_4 w4_5 w4_6 w4_7 out6 := by kernel_rfl
noncomputable def S77 (n : Nat × Nat) (b0 : Int × List (Int × Int)) : Option R77 := run (E77 n) c77 an77 rt77 (fun _ _ => none) rt77 { tm := [.agg [.int .i64 b0.1, .sl (.pair (.int .i64) (.int .i64)) b0.2 false], uu, uu, uu, uu, uu, uu, uu, uu, uu, uu, uu, uu, uu, uu, uu, uu, uu, uu, uu, uu, uu, uu, uu, uu, uu, uu, uu, uu, uu, uu, uu, uu, uu, uu], hp := emp }
theorem S77_eq (n : Nat × Nat) (b0 : Int × List (Int × Int)) : S77 n b0 =
 (S88 n b0).bind fun r1' =>
 (bif (r1'.2 != 0) then some ([], r1'.2)
 else (bif decide (r1'.1.1 < 0) then none
 else L77_1 n n.1 (wr .u64 (1 * 2 ^ (min (Int.toNat r1'.1.1) (IntKind.bits .u64)))) 0 r1'.1.1 r1'.1.2.1 r1'.1.2.2.1 r1'.1.2.2.2.1 r1'.1.2.2.2.2.1 r1'.1.2.2.2.2.2.1 r1'.1.2.2.2.2.2.2.1 r1'.1.2.2.2.2.2.2.2 [])) := by kernel_rfl
theorem S77_run (n : Nat × Nat) (xs : pksDen pk77) : S77 n xs.1 = runG (E77 n) noScope c77 an77 (rtG rk77) (fun _ _ => none) (rtG rk77) (st0 pk77 xs Tryz.f77.ntmps) := by kernel_rfl
noncomputable def P77 (n : Nat × Nat) := phiOf pk77 rk77 (fun xs => S77 n xs.1)
theorem call77 : CallOK Tryz.prog 77 := callOK_of Tryz.func77 (by kernel_rfl) (by kernel_rfl)
theorem env77 (n : Nat × Nat) : EnvOK Tryz.prog (E77 n) := envOK0 (consPhi_ok (FC88 n) call88 (consPhi_ok (FC89 n) call89 (consPhi_ok (FC90 n) call90 (consPhi_ok (FC91c47 n) call91 noPhi_ok)))) rfl rfl
theorem par77 (n : Nat × Nat) : EnvPar (E77 n) := envPar0 (consPhi_par phiOf_Par1 (consPhi_par phiOf_Par1 (consPhi_par phiOf_Par1 (consPhi_par phiOf_Par1 noPhi_par)))) rfl
theorem FC77 (n : Nat × Nat) : FCs Tryz.prog 77 (P77 n) := phiOf_FCs fun xs r h vs hv => FC.of_runG tabOK eqsOK (env77 n) (par77 n) mixed (fun _ p _ => noScope_ok p.1 p.2) Tryz.func77 (c := c77) (an := an77) (pks := pk77) (rks := rk77) (by kernel_rfl) (by kernel_rfl) hv ((S77_run n xs).symm.trans h)
abbrev R69 := List Int × Int
noncomputable def c69 : Code := bodyOf Tryz.f69
noncomputable def an69 : Ann := (.s .l (.s .l (.s (.j [4] (.s .l (.j [4] .l (.s .l (.j [4] .l .l)))) .l) .l)))
def pk69 : List PK := [.c (.pair (.int .i64) (.sl (.pair (.int .i64) (.int .i64))))]
def rk69 : List RK := [.sl (.int .i64) 2, .c (.int .i64) 3]
noncomputable def rt69 (st : St) : Option R69 := rtG rk69 st
noncomputable def E69 (n : Nat × Nat) : Env := { T := tab, phi := (consPhi 77 (fun _ => true) (P77 n) noPhi), eff := fun g => Nat.beq g 77, fuel := n.1, hold := n.2 }
noncomputable def S69 (n : Nat × Nat) (b0 : Int × List (Int × Int)) : Option R69 := run (E69 n) c69 an69 rt69 (fun _ _ => none) rt69 { tm := [.agg [.int .i64 b0.1, .sl (.pair (.int .i64) (.int .i64)) b0.2 false], uu, uu, uu, uu, uu, uu, uu, uu, uu, uu, uu, uu, uu, uu, uu, uu, uu, uu, uu, uu, uu], hp := emp }
theorem S69_eq (n : Nat × Nat) (b0 : Int × List (Int × Int)) : S69 n b0 =
 (S77 n b0).bind fun r1' =>
 (bif (r1'.2 != 0) then some ([], r1'.2)
 else (bif ((r1'.1.length : Int) == 0) then some ([], 12)
 else (bif inB 0 r1'.1.length then (idx r1'.1 0).bind fun x2' =>
 some (x2', 0)
 else none))) := by kernel_rfl
theorem S69_run (n : Nat × Nat) (xs : pksDen pk69) : S69 n xs.1 = runG (E69 n) noScope c69 an69 (rtG rk69) (fun _ _ => none) (rtG rk69) (st0 pk69 xs Tryz.f69.ntmps) := by kernel_rfl
noncomputable def P69 (n : Nat × Nat) := phiOf pk69 rk69 (fun xs => S69 n xs.1)
theorem call69 : CallOK Tryz.prog 69 := callOK_of Tryz.func69 (by kernel_rfl) (by kernel_rfl)
theorem env69 (n : Nat × Nat) : EnvOK Tryz.prog (E69 n) := envOK0 (consPhi_ok (FC77 n) call77 noPhi_ok) rfl rfl
theorem par69 (n : Nat × Nat) : EnvPar (E69 n) := envPar0 (consPhi_par phiOf_Par1 noPhi_par) rfl
theorem FC69 (n : Nat × Nat) : FCs Tryz.prog 69 (P69 n) := phiOf_FCs fun xs r h vs hv => FC.of_runG tabOK eqsOK (env69 n) (par69 n) mixed (fun _ p _ => noScope_ok p.1 p.2) Tryz.func69 (c := c69) (an := an69) (pks := pk69) (rks := rk69) (by kernel_rfl) (by kernel_rfl) hv ((S69_run n xs).symm.trans h)
abbrev R100 := Int
noncomputable def c100 : Code := bodyOf Tryz.f100
noncomputable def an100 : Ann := (.s .l (.s (.s .l (.j [0, 16, 17] .l .l)) (.s (.s .l (.j [] (.j [9, 16, 17] (.s .l (.s (.j [9, 10, 16, 17] .l .l) (.j [9, 16, 17] (.s .l (.s .l (.j [9, 16, 17] .l .l))) .l))) .l) .l)) .l)))
def pk100 : List PK := [.c .str]
def rk100 : List RK := [.c (.int .i64) 2]
noncomputable def rt100 (st : St) : Option R100 := rtG rk100 st
noncomputable def E100 (n : Nat × Nat) : Env := { T := tab, phi := noPhi, eff := fun _ => false, fuel := n.1, hold := n.2 }
noncomputable def kq100_3 (n : Nat × Nat) : St → Option R100 := run (E100 n) (cB (cB (cB c100))) (Ann.snd (Ann.snd (Ann.snd an100))) rt100 (fun _ _ => none) rt100
noncomputable def xb100_5 (n : Nat × Nat) : Nat → St → Option R100 := fun j s => bif Nat.beq j 0 then normC [] s (kq100_3 n) else (fun _ _ => none) j s
noncomputable def F100_6 (n : Nat × Nat) : (St → Option R100) → St → Option R100 := fun K s => run (E100 n) (cA (cA (cB (cA (cB (cB c100)))))) (Ann.fst (Ann.fst (Ann.snd (Ann.fst (Ann.snd (Ann.snd an100)))))) (fun s => normC [9, 16, 17] s K) (xb100_5 n) rt100 s
noncomputable def L100_1 (n : Nat × Nat) (m : Nat) (v9s : ByteArray) (v9p : Nat) : Option R100 := loopN (F100_6 n) m { tm := [uu, uu, uu, uu, uu, uu, uu, uu, uu, .ptr 9 0, uu, uu, uu, uu, uu, uu, uu, uu, uu], hp := (upd emp 9 (.iter v9s v9p)) }
theorem L100_1_eq (n : Nat × Nat) (m1 : Nat) (v9s : ByteArray) (v9p : Nat) : L100_1 n (m1 + 1) v9s v9p =
 (bif Nat.blt v9p v9s.size then ((strBytes v9s)[v9p]?).bind fun x1' =>
 (bif decide (x1' < 128) then ((bif (decide (x1' < 97) == false) then some (decide (x1' ≥ 103))
 else some true)).bind fun b2' =>
 (bif b2' then some 10
 else L100_1 n m1 v9s (v9p + 1))
 else none)
 else some 0) := by kernel_rfl
noncomputable def S100 (n : Nat × Nat) (word0 : ByteArray) : Option R100 := run (E100 n) c100 an100 rt100 (fun _ _ => none) rt100 { tm := [.c (.str word0), uu, uu, uu, uu, uu, uu, uu, uu, uu, uu, uu, uu, uu, uu, uu, uu, uu, uu], hp := emp }
theorem S100_eq (n : Nat × Nat) (word0 : ByteArray) : S100 n word0 =
 (bif decide ((word0.size : Int) > 10) then some 19
 else L100_1 n n.1 word0 0) := by kernel_rfl
theorem S100_run (n : Nat × Nat) (xs : pksDen pk100) : S100 n xs.1 = runG (E100 n) noScope c100 an100 (rtG rk100) (fun _ _ => none) (rtG rk100) (st0 pk100 xs Tryz.f100.ntmps) := by kernel_rfl
noncomputable def P100 (n : Nat × Nat) := phiOf pk100 rk100 (fun xs => S100 n xs.1)
theorem call100 : CallOK Tryz.prog 100 := callOK_of Tryz.func100 (by kernel_rfl) (by kernel_rfl)
theorem env100 (n : Nat × Nat) : EnvOK Tryz.prog (E100 n) := envOK0 noPhi_ok rfl rfl
theorem par100 (n : Nat × Nat) : EnvPar (E100 n) := envPar0 noPhi_par rfl
theorem FC100 (n : Nat × Nat) : FCs Tryz.prog 100 (P100 n) := phiOf_FCs fun xs r h vs hv => FC.of_runG tabOK eqsOK (env100 n) (par100 n) mixed (fun _ p _ => noScope_ok p.1 p.2) Tryz.func100 (c := c100) (an := an100) (pks := pk100) (rks := rk100) (by kernel_rfl) (by kernel_rfl) hv ((S100_run n xs).symm.trans h)
abbrev R92 := Int
noncomputable def c92 : Code := bodyOf Tryz.f92
noncomputable def an92 : Ann := (.s .l (.s (.s .l (.j [] (.j [6, 7, 8] (.s .l (.s (.j [6, 7, 8] .l .l) (.s (.j [6, 7, 8] (.s .l (.s .l (.s .l (.j [6, 7, 8] .l .l)))) .l) .l))) .l) .l)) .l))
def pk92 : List PK := [.c (.sl .str)]
def rk92 : List RK := [.c (.int .i64) 2]
noncomputable def rt92 (st : St) : Option R92 := rtG rk92 st
noncomputable def E92 (n : Nat × Nat) : Env := { T := tab, phi := (consPhi 100 (fun _ => true) (P100 n) noPhi), eff := fun _ => false, fuel := n.1, hold := n.2 }
noncomputable def kq92_1 (n : Nat × Nat) : St → Option R92 := run (E92 n) (cB (cB c92)) (Ann.snd (Ann.snd an92)) rt92 (fun _ _ => none) rt92
noncomputable def xb92_3 (n : Nat × Nat) : Nat → St → Option R92 := fun j s => bif Nat.beq j 0 then normC [] s (kq92_1 n) else (fun _ _ => none) j s
noncomputable def F92_4 (n : Nat × Nat) : (St → Option R92) → St → Option R92 := fun K s => run (E92 n) (cA (cA (cB (cA (cB c92))))) (Ann.fst (Ann.fst (Ann.snd (Ann.fst (Ann.snd an92))))) (fun s => normC [6, 7, 8] s K) (xb92_3 n) rt92 s
noncomputable def L92_1 (n : Nat × Nat) (m : Nat) (v6 : List ByteArray) (v7 : Int) (v8 : Int) : Option R92 := loopN (F92_4 n) m { tm := [uu, uu, uu, uu, uu, uu, .c (.sl .str v6 false), .c (.int .i64 v7), .c (.int .i64 v8), uu, uu, uu, uu, uu, uu, uu, uu, uu], hp := emp }
theorem L92_1_eq (n : Nat × Nat) (m1 : Nat) (v6 : List ByteArray) (v7 : Int) (v8 : Int) : L92_1 n (m1 + 1) v6 v7 v8 =
 (bif decide (v8 < v7) then (idx v6 v8).bind fun x1' =>
 (S100 n x1').bind fun r2' =>
 (bif (r2' != 0) then some r2'
 else L92_1 n m1 v6 v7 (wr .i64 (v8 + 1)))
 else some 0) := by kernel_rfl
noncomputable def S92 (n : Nat × Nat) (words0 : List ByteArray) : Option R92 := run (E92 n) c92 an92 rt92 (fun _ _ => none) rt92 { tm := [.c (.sl .str words0 false), uu, uu, uu, uu, uu, uu, uu, uu, uu, uu, uu, uu, uu, uu, uu, uu, uu], hp := emp }
theorem S92_eq (n : Nat × Nat) (words0 : List ByteArray) : S92 n words0 =
    L92_1 n n.1 words0 (words0.length : Int) 0 := by kernel_rfl
theorem S92_run (n : Nat × Nat) (xs : pksDen pk92) : S92 n xs.1 = runG (E92 n) noScope c92 an92 (rtG rk92) (fun _ _ => none) (rtG rk92) (st0 pk92 xs Tryz.f92.ntmps) := by kernel_rfl
noncomputable def P92 (n : Nat × Nat) := phiOf pk92 rk92 (fun xs => S92 n xs.1)
theorem call92 : CallOK Tryz.prog 92 := callOK_of Tryz.func92 (by kernel_rfl) (by kernel_rfl)
theorem env92 (n : Nat × Nat) : EnvOK Tryz.prog (E92 n) := envOK0 (consPhi_ok (FC100 n) call100 noPhi_ok) rfl rfl
theorem par92 (n : Nat × Nat) : EnvPar (E92 n) := envPar0 (consPhi_par phiOf_Par1 noPhi_par) rfl
theorem FC92 (n : Nat × Nat) : FCs Tryz.prog 92 (P92 n) := phiOf_FCs fun xs r h vs hv => FC.of_runG tabOK eqsOK (env92 n) (par92 n) mixed (fun _ p _ => noScope_ok p.1 p.2) Tryz.func92 (c := c92) (an := an92) (pks := pk92) (rks := rk92) (by kernel_rfl) (by kernel_rfl) hv ((S92_run n xs).symm.trans h)
abbrev R78 := Int × Int
noncomputable def c78 : Code := bodyOf Tryz.f78
noncomputable def an78 : Ann := (.s .l (.s (.s .l (.s .l (.j [0, 1] .l .l))) (.s .l (.s .l (.s (.s .l (.j [1, 7] (.j [1, 7, 25, 26, 27] (.s .l (.s (.j [1, 7, 25, 26, 27] .l .l) (.s (.j [1, 7, 25, 26, 27] (.s .l (.s .l (.j [1, 7, 25, 26, 27] (.j [1, 7, 9, 10, 25, 26, 27] (.s (.s .l (.j [1, 7, 9, 10, 25, 26, 27] .l .l)) (.j [] (.j [1, 7, 9, 10, 25, 26, 27] (.s .l (.j [1, 7, 9, 10, 25, 26, 27] .l .l)) .l) .l)) .l) .l))) .l) .l))) .l) .l)) .l)))))
def pk78 : List PK := [.c .str, .c .str]
def rk78 : List RK := [.c (.int .i64) 4, .c (.int .i64) 5]
noncomputable def rt78 (st : St) : Option R78 := rtG rk78 st
noncomputable def E78 (n : Nat × Nat) : Env := { T := tab, phi := (consPhi 92 (fun _ => true) (P92 n) noPhi), eff := fun _ => false, fuel := n.1, hold := n.2 }
noncomputable def kq78_3 (n : Nat × Nat) : St → Option R78 := run (E78 n) (cB (cB (cB (cB (cB c78))))) (Ann.snd (Ann.snd (Ann.snd (Ann.snd (Ann.snd an78))))) rt78 (fun _ _ => none) rt78
noncomputable def xb78_5 (n : Nat × Nat) : Nat → St → Option R78 := fun j s => bif Nat.beq j 0 then normC [1, 7] s (kq78_3 n) else (fun _ _ => none) j s
noncomputable def F78_6 (n : Nat × Nat) : (St → Option R78) → St → Option R78 := fun K s => run (E78 n) (cA (cA (cB (cA (cB (cB (cB (cB c78)))))))) (Ann.fst (Ann.fst (Ann.snd (Ann.fst (Ann.snd (Ann.snd (Ann.snd (Ann.snd an78)))))))) (fun s => normC [1, 7, 25, 26, 27] s K) (xb78_5 n) rt78 s
noncomputable def kq78_9 (n : Nat × Nat) (m1 : Nat) : St → Option R78 := run (E78 n) (cB (cB (cB (cA (cA (cB (cA (cB (cB (cB (cB c78))))))))))) (Ann.snd (Ann.snd (Ann.snd (Ann.fst (Ann.fst (Ann.snd (Ann.fst (Ann.snd (Ann.snd (Ann.snd (Ann.snd an78))))))))))) (fun s => normC [1, 7, 25, 26, 27] s (loopN (F78_6 n) m1)) (xb78_5 n) rt78
noncomputable def kc78_10 (n : Nat × Nat) (m1 : Nat) : St → Option R78 := fun s => normC [1, 7, 25, 26, 27] s (kq78_9 n m1)
noncomputable def xb78_11 (n : Nat × Nat) (m1 : Nat) : Nat → St → Option R78 := fun j s => bif Nat.beq j 1 then normC [1, 7, 25, 26, 27] s (kq78_9 n m1) else (xb78_5 n) j s
noncomputable def xb78_13 (n : Nat × Nat) (m1 : Nat) : Nat → St → Option R78 := fun j s => bif Nat.beq j 2 then normC [1, 7, 25, 26, 27] s (kc78_10 n m1) else (xb78_11 n m1) j s
noncomputable def F78_14 (n : Nat × Nat) (m1 : Nat) : (St → Option R78) → St → Option R78 := fun K s => run (E78 n) (cA (cA (cB (cB (cA (cA (cB (cB (cA (cA (cB (cA (cB (cB (cB (cB c78)))))))))))))))) (Ann.fst (Ann.fst (Ann.snd (Ann.snd (Ann.fst (Ann.fst (Ann.snd (Ann.snd (Ann.fst (Ann.fst (Ann.snd (Ann.fst (Ann.snd (Ann.snd (Ann.snd (Ann.snd an78)))))))))))))))) (fun s => normC [1, 7, 9, 10, 25, 26, 27] s K) (xb78_13 n m1) rt78 s
noncomputable def kq78_17 (n : Nat × Nat) (m1 m2 : Nat) : St → Option R78 := run (E78 n) (cB (cB (cA (cA (cB (cB (cA (cA (cB (cB (cA (cA (cB (cA (cB (cB (cB (cB c78)))))))))))))))))) (Ann.snd (Ann.snd (Ann.fst (Ann.fst (Ann.snd (Ann.snd (Ann.fst (Ann.fst (Ann.snd (Ann.snd (Ann.fst (Ann.fst (Ann.snd (Ann.fst (Ann.snd (Ann.snd (Ann.snd (Ann.snd an78)))))))))))))))))) (fun s => normC [1, 7, 9, 10, 25, 26, 27] s (loopN (F78_14 n m1) m2)) (xb78_13 n m1) rt78
noncomputable def L78_1 (n : Nat × Nat) (m : Nat) (part1 : ByteArray) (v25 : List Int) (v26 : Int) (v27 : Int) (begun7 : List Int) : Option R78 := loopN (F78_6 n) m { tm := [uu, .c (.str part1), uu, uu, uu, uu, uu, .own 7 none false, uu, uu, uu, uu, uu, uu, uu, uu, uu, uu, uu, uu, uu, uu, uu, uu, uu, .c (.sl (.int .u8) v25 false), .c (.int .i64 v26), .c (.int .i64 v27), uu, uu, uu, uu, uu, uu, uu, uu, uu, uu, uu, uu, uu, uu, uu, uu, uu, uu, uu, uu, uu, uu, uu, uu, uu, uu, uu, uu, uu, uu, uu, uu], hp := (upd emp 7 (.arr (.int .i64) begun7 false)) }
noncomputable def L78_2 (n : Nat × Nat) (m1 : Nat) (m : Nat) (part1 : ByteArray) (c9 : Int) (k10 : Int) (v25 : List Int) (v26 : Int) (v27 : Int) (begun7 : List Int) : Option R78 := loopN (F78_14 n m1) m { tm := [uu, .c (.str part1), uu, uu, uu, uu, uu, .own 7 none false, uu, .c (.int .u8 c9), .c (.int .i64 k10), uu, uu, uu, uu, uu, uu, uu, uu, uu, uu, uu, uu, uu, uu, .c (.sl (.int .u8) v25 false), .c (.int .i64 v26), .c (.int .i64 v27), uu, uu, uu, uu, uu, uu, uu, uu, uu, uu, uu, uu, uu, uu, uu, uu, uu, uu, uu, uu, uu, uu, uu, uu, uu, uu, uu, uu, uu, uu, uu, uu], hp := (upd emp 7 (.arr (.int .i64) begun7 false)) }
noncomputable def L78_3 (n : Nat × Nat) (m1 m2 : Nat) (part1 : ByteArray) (c9 : Int) (k10 : Int) (v25 : List Int) (v26 : Int) (v27 : Int) (begun7 : List Int) : Option R78 := loopN (fun _ => (kq78_17 n m1 m2)) n.2 { tm := [uu, .c (.str part1), uu, uu, uu, uu, uu, .own 7 none false, uu, .c (.int .u8 c9), .c (.int .i64 k10), uu, uu, uu, uu, uu, uu, uu, uu, uu, uu, uu, uu, uu, uu, .c (.sl (.int .u8) v25 false), .c (.int .i64 v26), .c (.int .i64 v27), uu, uu, uu, uu, uu, uu, uu, uu, uu, uu, uu, uu, uu, uu, uu, uu, uu, uu, uu, uu, uu, uu, uu, uu, uu, uu, uu, uu, uu, uu, uu, uu], hp := (upd emp 7 (.arr (.int .i64) begun7 false)) }
theorem L78_1_eq (n : Nat × Nat) (m1 : Nat) (part1 : ByteArray) (v25 : List Int) (v26 : Int) (v27 : Int) (begun7 : List Int) : L78_1 n (m1 + 1) part1 v25 v26 v27 begun7 =
 (bif decide (v27 < v26) then (idx v25 v27).bind fun x3' =>
      L78_2 n m1 n.1 part1 x3' (part1.size : Int) v25 v26 v27 begun7
 else (bif inB (part1.size : Int) begun7.length then (idx begun7 (part1.size : Int)).bind fun x4' =>
 some (x4', 0)
 else none)) := by kernel_rfl
theorem L78_2_eq (n : Nat × Nat) (m1 m2 : Nat) (part1 : ByteArray) (c9 : Int) (k10 : Int) (v25 : List Int) (v26 : Int) (v27 : Int) (begun7 : List Int) : L78_2 n m1 (m2 + 1) part1 c9 k10 v25 v26 v27 begun7 =
 (bif decide (k10 > 0) then (idx (strBytes part1) (wr .i64 (k10 - 1))).bind fun x5' =>
 (bif (x5' == c9) then (bif inB k10 begun7.length then (idx begun7 k10).bind fun x6' =>
 (bif inB (wr .i64 (k10 - 1)) begun7.length then (idx begun7 (wr .i64 (k10 - 1))).bind fun x7' =>
 (bif inB k10 begun7.length then (idx begun7 k10).bind fun x8' =>
              L78_3 n m1 m2 part1 c9 k10 v25 v26 v27 (begun7.set (Int.toNat k10) (wr .i64 (x6' + x7')))
 else none)
 else none)
 else none)
 else L78_3 n m1 m2 part1 c9 k10 v25 v26 v27 begun7)
 else L78_1 n m1 part1 v25 v26 (wr .i64 (v27 + 1)) begun7) := by kernel_rfl
theorem L78_3_raw (n : Nat × Nat) (m1 m2 : Nat) (part1 : ByteArray) (c9 : Int) (k10 : Int) (v25 : List Int) (v26 : Int) (v27 : Int) (begun7 : List Int) : (kq78_17 n m1 m2) { tm := [uu, .c (.str part1), uu, uu, uu, uu, uu, .own 7 none false, uu, .c (.int .u8 c9), .c (.int .i64 k10), uu, uu, uu, uu, uu, uu, uu, uu, uu, uu, uu, uu, uu, uu, .c (.sl (.int .u8) v25 false), .c (.int .i64 v26), .c (.int .i64 v27), uu, uu, uu, uu, uu, uu, uu, uu, uu, uu, uu, uu, uu, uu, uu, uu, uu, uu, uu, uu, uu, uu, uu, uu, uu, uu, uu, uu, uu, uu, uu, uu], hp := (upd emp 7 (.arr (.int .i64) begun7 false)) } =
    L78_2 n m1 m2 part1 c9 (wr .i64 (k10 - 1)) v25 v26 v27 begun7 := by kernel_rfl
noncomputable def S78 (n : Nat × Nat) (word0 : ByteArray) (part1 : ByteArray) : Option R78 := run (E78 n) c78 an78 rt78 (fun _ _ => none) rt78 { tm := [.c (.str word0), .c (.str part1), uu, uu, uu, uu, uu, uu, uu, uu, uu, uu, uu, uu, uu, uu, uu, uu, uu, uu, uu, uu, uu, uu, uu, uu, uu, uu, uu, uu, uu, uu, uu, uu, uu, uu, uu, uu, uu, uu, uu, uu, uu, uu, uu, uu, uu, uu, uu, uu, uu, uu, uu, uu, uu, uu, uu, uu, uu, uu], hp := emp }
theorem S78_eq (n : Nat × Nat) (word0 : ByteArray) (part1 : ByteArray) : S78 n word0 part1 =
 (S92 n [word0, part1]).bind fun r1' =>
 (bif (r1' != 0) then some (0, r1')
 else (bif decide (0 ≤ wr .i64 ((part1.size : Int) + 1)) && decide (wr .i64 ((part1.size : Int) + 1) ≤ wr .i64 ((part1.size : Int) + 1)) && decide (wr .i64 ((part1.size : Int) + 1) ≤ lim) then (bif inB 0 (List.replicate (Int.toNat (wr .i64 ((part1.size : Int) + 1))) (0 : Int)).length then (idx (List.replicate (Int.toNat (wr .i64 ((part1.size : Int) + 1))) (0 : Int)) 0).bind fun x2' =>
          L78_1 n n.1 part1 (strBytes word0) ((strBytes word0).length : Int) 0 ((List.replicate (Int.toNat (wr .i64 ((part1.size : Int) + 1))) (0 : Int)).set (Int.toNat 0) 1)
 else none)
 else none)) := by kernel_rfl
theorem S78_run (n : Nat × Nat) (xs : pksDen pk78) : S78 n xs.1 xs.2.1 = runG (E78 n) noScope c78 an78 (rtG rk78) (fun _ _ => none) (rtG rk78) (st0 pk78 xs Tryz.f78.ntmps) := by kernel_rfl
noncomputable def P78 (n : Nat × Nat) := phiOf pk78 rk78 (fun xs => S78 n xs.1 xs.2.1)
theorem call78 : CallOK Tryz.prog 78 := callOK_of Tryz.func78 (by kernel_rfl) (by kernel_rfl)
theorem env78 (n : Nat × Nat) : EnvOK Tryz.prog (E78 n) := envOK0 (consPhi_ok (FC92 n) call92 noPhi_ok) rfl rfl
theorem par78 (n : Nat × Nat) : EnvPar (E78 n) := envPar0 (consPhi_par phiOf_Par1 noPhi_par) rfl
theorem FC78 (n : Nat × Nat) : FCs Tryz.prog 78 (P78 n) := phiOf_FCs fun xs r h vs hv => FC.of_runG tabOK eqsOK (env78 n) (par78 n) mixed (fun _ p _ => noScope_ok p.1 p.2) Tryz.func78 (c := c78) (an := an78) (pks := pk78) (rks := rk78) (by kernel_rfl) (by kernel_rfl) hv ((S78_run n xs).symm.trans h)
abbrev R93 := Int
noncomputable def c93 : Code := bodyOf Tryz.f93
noncomputable def an93 : Ann := (.s .l (.s (.s .l (.j [0, 1] (.s .l (.j [0, 1] .l (.s .l (.j [0, 1] .l .l)))) .l)) (.s (.s .l (.j [] (.j [1, 22] (.s .l (.s (.j [1, 22, 23] .l .l) (.j [1, 22] (.s .l (.s .l (.j [1, 22] .l .l))) .l))) .l) .l)) .l)))
def pk93 : List PK := [.c .str, .c (.int .i64)]
def rk93 : List RK := [.c (.int .i64) 4]
noncomputable def rt93 (st : St) : Option R93 := rtG rk93 st
noncomputable def E93 (n : Nat × Nat) : Env := { T := tab, phi := (consPhi 100 (fun _ => true) (P100 n) noPhi), eff := fun _ => false, fuel := n.1, hold := n.2 }
noncomputable def kq93_6 (n : Nat × Nat) : St → Option R93 := run (E93 n) (cB (cB (cB c93))) (Ann.snd (Ann.snd (Ann.snd an93))) rt93 (fun _ _ => none) rt93
noncomputable def xb93_8 (n : Nat × Nat) : Nat → St → Option R93 := fun j s => bif Nat.beq j 1 then normC [] s (kq93_6 n) else (fun _ _ => none) j s
noncomputable def F93_9 (n : Nat × Nat) : (St → Option R93) → St → Option R93 := fun K s => run (E93 n) (cA (cA (cB (cA (cB (cB c93)))))) (Ann.fst (Ann.fst (Ann.snd (Ann.fst (Ann.snd (Ann.snd an93)))))) (fun s => normC [1, 22] s K) (xb93_8 n) rt93 s
noncomputable def L93_1 (n : Nat × Nat) (m : Nat) (letters1 : Int) (v22s : ByteArray) (v22p : Nat) : Option R93 := loopN (F93_9 n) m { tm := [uu, .c (.int .i64 letters1), uu, uu, uu, uu, uu, uu, uu, uu, uu, uu, uu, uu, uu, uu, uu, uu, uu, uu, uu, uu, .ptr 22 0, uu, uu, uu, uu, uu, uu, uu, uu], hp := (upd emp 22 (.iter v22s v22p)) }
theorem L93_1_eq (n : Nat × Nat) (m1 : Nat) (letters1 : Int) (v22s : ByteArray) (v22p : Nat) : L93_1 n (m1 + 1) letters1 v22s v22p =
 (bif Nat.blt v22p v22s.size then ((strBytes v22s)[v22p]?).bind fun x3' =>
 (bif decide (x3' < 128) then (bif decide (x3' ≥ wr .i32 (97 + (wr .i32 letters1))) then some 2
 else L93_1 n m1 letters1 v22s (v22p + 1))
 else none)
 else some 0) := by kernel_rfl
noncomputable def S93 (n : Nat × Nat) (word0 : ByteArray) (letters1 : Int) : Option R93 := run (E93 n) c93 an93 rt93 (fun _ _ => none) rt93 { tm := [.c (.str word0), .c (.int .i64 letters1), uu, uu, uu, uu, uu, uu, uu, uu, uu, uu, uu, uu, uu, uu, uu, uu, uu, uu, uu, uu, uu, uu, uu, uu, uu, uu, uu, uu, uu], hp := emp }
theorem S93_eq (n : Nat × Nat) (word0 : ByteArray) (letters1 : Int) : S93 n word0 letters1 =
 (S100 n word0).bind fun r1' =>
 (bif (r1' != 0) then some r1'
 else ((bif (decide (letters1 < 1) == false) then some (decide (letters1 > 6))
 else some true)).bind fun b2' =>
 (bif b2' then some 1
 else L93_1 n n.1 letters1 word0 0)) := by kernel_rfl
theorem S93_run (n : Nat × Nat) (xs : pksDen pk93) : S93 n xs.1 xs.2.1 = runG (E93 n) noScope c93 an93 (rtG rk93) (fun _ _ => none) (rtG rk93) (st0 pk93 xs Tryz.f93.ntmps) := by kernel_rfl
noncomputable def P93 (n : Nat × Nat) := phiOf pk93 rk93 (fun xs => S93 n xs.1 xs.2.1)
theorem call93 : CallOK Tryz.prog 93 := callOK_of Tryz.func93 (by kernel_rfl) (by kernel_rfl)
theorem env93 (n : Nat × Nat) : EnvOK Tryz.prog (E93 n) := envOK0 (consPhi_ok (FC100 n) call100 noPhi_ok) rfl rfl
theorem par93 (n : Nat × Nat) : EnvPar (E93 n) := envPar0 (consPhi_par phiOf_Par1 noPhi_par) rfl
theorem FC93 (n : Nat × Nat) : FCs Tryz.prog 93 (P93 n) := phiOf_FCs fun xs r h vs hv => FC.of_runG tabOK eqsOK (env93 n) (par93 n) mixed (fun _ p _ => noScope_ok p.1 p.2) Tryz.func93 (c := c93) (an := an93) (pks := pk93) (rks := rk93) (by kernel_rfl) (by kernel_rfl) hv ((S93_run n xs).symm.trans h)
abbrev R94 := List Int
noncomputable def c94 : Code := bodyOf Tryz.f94
noncomputable def an94 : Ann := (.s .l (.s .l (.s .l (.s (.s .l (.j [5] (.j [1, 5, 6, 11] (.s .l (.s (.j [1, 5, 6, 11, 12] .l .l) (.j [1, 5, 6, 11] (.s .l (.s .l (.s .l (.j [1, 5, 6, 11] .l .l)))) .l))) .l) .l)) .l))))
def pk94 : List PK := [.c .str, .c (.int .i64)]
def rk94 : List RK := [.own (.int .i64) 4]
noncomputable def rt94 (st : St) : Option R94 := rtG rk94 st
noncomputable def E94 (n : Nat × Nat) : Env := { T := tab, phi := noPhi, eff := fun _ => false, fuel := n.1, hold := n.2 }
noncomputable def kq94_1 (n : Nat × Nat) : St → Option R94 := run (E94 n) (cB (cB (cB (cB c94)))) (Ann.snd (Ann.snd (Ann.snd (Ann.snd an94)))) rt94 (fun _ _ => none) rt94
noncomputable def xb94_3 (n : Nat × Nat) : Nat → St → Option R94 := fun j s => bif Nat.beq j 0 then normC [5] s (kq94_1 n) else (fun _ _ => none) j s
noncomputable def F94_4 (n : Nat × Nat) : (St → Option R94) → St → Option R94 := fun K s => run (E94 n) (cA (cA (cB (cA (cB (cB (cB c94))))))) (Ann.fst (Ann.fst (Ann.snd (Ann.fst (Ann.snd (Ann.snd (Ann.snd an94))))))) (fun s => normC [1, 5, 6, 11] s K) (xb94_3 n) rt94 s
noncomputable def L94_1 (n : Nat × Nat) (m : Nat) (letters1 : Int) (out5 : List Int) (met6 : List (Int × Bool)) (v11s : ByteArray) (v11p : Nat) : Option R94 := loopN (F94_4 n) m { tm := [uu, .c (.int .i64 letters1), uu, uu, uu, .own 5 none false, .map 6, uu, uu, uu, uu, .ptr 11 0, uu, uu, uu, uu, uu, uu, uu, uu, uu, uu, uu, uu, uu, uu, uu, uu, uu], hp := (upd (upd (upd emp 11 (.iter v11s v11p)) 6 (.mp .i32 .bool met6)) 5 (.arr (.int .i64) out5 false)) }
theorem L94_1_eq (n : Nat × Nat) (m1 : Nat) (letters1 : Int) (out5 : List Int) (met6 : List (Int × Bool)) (v11s : ByteArray) (v11p : Nat) : L94_1 n (m1 + 1) letters1 out5 met6 v11s v11p =
 (bif Nat.blt v11p v11s.size then ((strBytes v11s)[v11p]?).bind fun x1' =>
 (bif decide (x1' < 128) then (bif (((aset met6 x1' true).length : Int) == letters1) then (bif decide (out5.length + [wr .i64 ((v11p : Int) + 1)].length ≤ lim) then L94_1 n m1 letters1 (out5 ++ [wr .i64 ((v11p : Int) + 1)]) [] v11s (v11p + 1)
 else none)
 else L94_1 n m1 letters1 out5 (aset met6 x1' true) v11s (v11p + 1))
 else none)
 else some out5) := by kernel_rfl
noncomputable def S94 (n : Nat × Nat) (word0 : ByteArray) (letters1 : Int) : Option R94 := run (E94 n) c94 an94 rt94 (fun _ _ => none) rt94 { tm := [.c (.str word0), .c (.int .i64 letters1), uu, uu, uu, uu, uu, uu, uu, uu, uu, uu, uu, uu, uu, uu, uu, uu, uu, uu, uu, uu, uu, uu, uu, uu, uu, uu, uu], hp := emp }
theorem S94_eq (n : Nat × Nat) (word0 : ByteArray) (letters1 : Int) : S94 n word0 letters1 =
    L94_1 n n.1 letters1 [] [] word0 0 := by kernel_rfl
theorem S94_run (n : Nat × Nat) (xs : pksDen pk94) : S94 n xs.1 xs.2.1 = runG (E94 n) noScope c94 an94 (rtG rk94) (fun _ _ => none) (rtG rk94) (st0 pk94 xs Tryz.f94.ntmps) := by kernel_rfl
noncomputable def P94 (n : Nat × Nat) := phiOf pk94 rk94 (fun xs => S94 n xs.1 xs.2.1)
theorem call94 : CallOK Tryz.prog 94 := callOK_of Tryz.func94 (by kernel_rfl) (by kernel_rfl)
theorem env94 (n : Nat × Nat) : EnvOK Tryz.prog (E94 n) := envOK0 noPhi_ok rfl rfl
theorem par94 (n : Nat × Nat) : EnvPar (E94 n) := envPar0 noPhi_par rfl
theorem FC94 (n : Nat × Nat) : FCs Tryz.prog 94 (P94 n) := phiOf_FCs fun xs r h vs hv => FC.of_runG tabOK eqsOK (env94 n) (par94 n) mixed (fun _ p _ => noScope_ok p.1 p.2) Tryz.func94 (c := c94) (an := an94) (pks := pk94) (rks := rk94) (by kernel_rfl) (by kernel_rfl) hv ((S94_run n xs).symm.trans h)
/- slices.Index[[]byte,byte] -/
abbrev R95 := Int
noncomputable def c95 : Code := bodyOf Tryz.f95
noncomputable def an95 : Ann := (.s .l (.s (.s .l (.j [] (.j [0, 1, 7, 8] (.s .l (.s (.j [0, 1, 7, 8] .l .l) (.s (.j [0, 1, 7, 8] (.s .l (.s .l (.j [0, 1, 7, 8] .l .l))) .l) .l))) .l) .l)) .l))
def pk95 : List PK := [.c (.sl (.int .u8)), .c (.int .u8)]
def rk95 : List RK := [.c (.int .i64) 4]
noncomputable def rt95 (st : St) : Option R95 := rtG rk95 st
noncomputable def E95 (n : Nat × Nat) : Env := { T := tab, phi := noPhi, eff := fun _ => false, fuel := n.1, hold := n.2 }
noncomputable def kq95_1 (n : Nat × Nat) : St → Option R95 := run (E95 n) (cB (cB c95)) (Ann.snd (Ann.snd an95)) rt95 (fun _ _ => none) rt95
noncomputable def xb95_3 (n : Nat × Nat) : Nat → St → Option R95 := fun j s => bif Nat.beq j 0 then normC [] s (kq95_1 n) else (fun _ _ => none) j s
noncomputable def F95_4 (n : Nat × Nat) : (St → Option R95) → St → Option R95 := fun K s => run (E95 n) (cA (cA (cB (cA (cB c95))))) (Ann.fst (Ann.fst (Ann.snd (Ann.fst (Ann.snd an95))))) (fun s => normC [0, 1, 7, 8] s K) (xb95_3 n) rt95 s
noncomputable def L95_1 (n : Nat × Nat) (m : Nat) (s0 : List Int) (v1 : Int) (v7 : Int) (v8 : Int) : Option R95 := loopN (F95_4 n) m { tm := [.c (.sl (.int .u8) s0 false), .c (.int .u8 v1), uu, uu, uu, uu, uu, .c (.int .i64 v7), .c (.int .i64 v8), uu, uu, uu, uu, uu, uu, uu, uu, uu, uu], hp := emp }
theorem L95_1_eq (n : Nat × Nat) (m1 : Nat) (s0 : List Int) (v1 : Int) (v7 : Int) (v8 : Int) : L95_1 n (m1 + 1) s0 v1 v7 v8 =
 (bif decide (v8 < v7) then (idx s0 v8).bind fun x1' =>
 (bif (v1 == x1') then some v8
 else L95_1 n m1 s0 v1 v7 (wr .i64 (v8 + 1)))
 else some (-1)) := by kernel_rfl
noncomputable def S95 (n : Nat × Nat) (s0 : List Int) (v1 : Int) : Option R95 := run (E95 n) c95 an95 rt95 (fun _ _ => none) rt95 { tm := [.c (.sl (.int .u8) s0 false), .c (.int .u8 v1), uu, uu, uu, uu, uu, uu, uu, uu, uu, uu, uu, uu, uu, uu, uu, uu, uu], hp := emp }
theorem S95_eq (n : Nat × Nat) (s0 : List Int) (v1 : Int) : S95 n s0 v1 =
    L95_1 n n.1 s0 v1 (s0.length : Int) 0 := by kernel_rfl
theorem S95_run (n : Nat × Nat) (xs : pksDen pk95) : S95 n xs.1 xs.2.1 = runG (E95 n) noScope c95 an95 (rtG rk95) (fun _ _ => none) (rtG rk95) (st0 pk95 xs Tryz.f95.ntmps) := by kernel_rfl
noncomputable def P95 (n : Nat × Nat) := phiOf pk95 rk95 (fun xs => S95 n xs.1 xs.2.1)
theorem call95 : CallOK Tryz.prog 95 := callOK_of Tryz.func95 (by kernel_rfl) (by kernel_rfl)
theorem env95 (n : Nat × Nat) : EnvOK Tryz.prog (E95 n) := envOK0 noPhi_ok rfl rfl
theorem par95 (n : Nat × Nat) : EnvPar (E95 n) := envPar0 noPhi_par rfl
theorem FC95 (n : Nat × Nat) : FCs Tryz.prog 95 (P95 n) := phiOf_FCs fun xs r h vs hv => FC.of_runG tabOK eqsOK (env95 n) (par95 n) mixed (fun _ p _ => noScope_ok p.1 p.2) Tryz.func95 (c := c95) (an := an95) (pks := pk95) (rks := rk95) (by kernel_rfl) (by kernel_rfl) hv ((S95_run n xs).symm.trans h)
abbrev R79 := ByteArray × Int
noncomputable def c79 : Code := bodyOf Tryz.f79
noncomputable def an79 : Ann := (.s .l (.s (.s .l (.s .l (.j [0, 1, 28, 29, 49, 50, 51, 52, 53, 54, 55, 56, 57, 58] .l .l))) (.s .l (.j [4, 5] (.j [0, 1, 7, 28, 29, 49, 50, 51, 52, 53, 54, 55, 56, 57, 58] (.j [0, 1, 7, 28, 29, 49, 50, 51, 52, 53, 54, 55, 56, 57, 58] (.s .l (.s .l (.s .l (.j [0, 1, 7, 28, 29, 49, 50, 51, 52, 53, 54, 55, 56, 57, 58] (.j [0, 1, 7, 8, 9, 10, 28, 29, 49, 50, 51, 52, 53, 54, 55, 56, 57, 58] (.s (.s .l (.j [0, 1, 7, 8, 9, 10, 28, 29, 49, 50, 51, 52, 53, 54, 55, 56, 57, 58] .l .l)) (.j [] (.j [0, 1, 7, 8, 9, 10, 28, 29, 49, 50, 51, 52, 53, 54, 55, 56, 57, 58] (.s .l (.j [0, 1, 7, 8, 9, 10, 28, 29, 49, 50, 51, 52, 53, 54, 55, 56, 57, 58] (.s .l (.j [0, 1, 7, 8, 9, 10, 28, 29, 49, 50, 51, 52, 53, 54, 55, 56, 57, 58] .l (.s .l (.j [0, 1, 7, 8, 9, 10, 28, 29, 49, 50, 51, 52, 53, 54, 55, 56, 57, 58] .l .l)))) .l)) .l) .l)) .l) .l)))) .l) .l) .l))))
def pk79 : List PK := [.c .str, .c (.int .i64)]
def rk79 : List RK := [.c .str 4, .c (.int .i64) 5]
noncomputable def rt79 (st : St) : Option R79 := rtG rk79 st
noncomputable def E79 (n : Nat × Nat) : Env := { T := tab, phi := (consPhi 93 (fun _ => true) (P93 n) (consPhi 94 (fun _ => true) (P94 n) (consPhi 95 (fun _ => true) (P95 n) noPhi))), eff := fun _ => false, fuel := n.1, hold := n.2 }
noncomputable def xb79_4 (n : Nat × Nat) : Nat → St → Option R79 := fun j s => bif Nat.beq j 0 then normC [4, 5] s rt79 else (fun _ _ => none) j s
noncomputable def F79_5 (n : Nat × Nat) : (St → Option R79) → St → Option R79 := fun K s => run (E79 n) (cA (cA (cB (cB (cB c79))))) (Ann.fst (Ann.fst (Ann.snd (Ann.snd (Ann.snd an79))))) (fun s => normC [0, 1, 7, 28, 29, 49, 50, 51, 52, 53, 54, 55, 56, 57, 58] s K) (xb79_4 n) rt79 s
noncomputable def kc79_6 (n : Nat × Nat) (m1 : Nat) : St → Option R79 := fun s => normC [0, 1, 7, 28, 29, 49, 50, 51, 52, 53, 54, 55, 56, 57, 58] s (fun s => normC [0, 1, 7, 28, 29, 49, 50, 51, 52, 53, 54, 55, 56, 57, 58] s (loopN (F79_5 n) m1))
noncomputable def xb79_7 (n : Nat × Nat) (m1 : Nat) : Nat → St → Option R79 := fun j s => bif Nat.beq j 1 then normC [0, 1, 7, 28, 29, 49, 50, 51, 52, 53, 54, 55, 56, 57, 58] s (fun s => normC [0, 1, 7, 28, 29, 49, 50, 51, 52, 53, 54, 55, 56, 57, 58] s (loopN (F79_5 n) m1)) else (xb79_4 n) j s
noncomputable def xb79_9 (n : Nat × Nat) (m1 : Nat) : Nat → St → Option R79 := fun j s => bif Nat.beq j 2 then normC [0, 1, 7, 28, 29, 49, 50, 51, 52, 53, 54, 55, 56, 57, 58] s (kc79_6 n m1) else (xb79_7 n m1) j s
noncomputable def F79_10 (n : Nat × Nat) (m1 : Nat) : (St → Option R79) → St → Option R79 := fun K s => run (E79 n) (cA (cA (cB (cB (cB (cA (cA (cA (cB (cB (cB c79))))))))))) (Ann.fst (Ann.fst (Ann.snd (Ann.snd (Ann.snd (Ann.fst (Ann.fst (Ann.fst (Ann.snd (Ann.snd (Ann.snd an79))))))))))) (fun s => normC [0, 1, 7, 8, 9, 10, 28, 29, 49, 50, 51, 52, 53, 54, 55, 56, 57, 58] s K) (xb79_9 n m1) rt79 s
noncomputable def kq79_13 (n : Nat × Nat) (m1 m2 : Nat) : St → Option R79 := run (E79 n) (cB (cB (cA (cA (cB (cB (cB (cA (cA (cA (cB (cB (cB c79))))))))))))) (Ann.snd (Ann.snd (Ann.fst (Ann.fst (Ann.snd (Ann.snd (Ann.snd (Ann.fst (Ann.fst (Ann.fst (Ann.snd (Ann.snd (Ann.snd an79))))))))))))) (fun s => normC [0, 1, 7, 8, 9, 10, 28, 29, 49, 50, 51, 52, 53, 54, 55, 56, 57, 58] s (loopN (F79_10 n m1) m2)) (xb79_9 n m1) rt79
noncomputable def L79_1 (n : Nat × Nat) (m : Nat) (word0 : ByteArray) (letters1 : Int) (out7 : List Int) : Option R79 := loopN (F79_5 n) m { tm := [.c (.str word0), .c (.int .i64 letters1), uu, uu, uu, uu, uu, .own 7 none false, uu, uu, uu, uu, uu, uu, uu, uu, uu, uu, uu, uu, uu, uu, uu, uu, uu, uu, uu, uu, uu, uu, uu, uu, uu, uu, uu, uu, uu, uu, uu, uu, uu, uu, uu, uu, uu, uu, uu, uu, uu, uu, uu, uu, uu, uu, uu, uu, uu, uu, uu, uu, uu, uu, uu, uu, uu, uu, uu, uu], hp := (upd emp 7 (.arr (.int .u8) out7 false)) }
noncomputable def L79_2 (n : Nat × Nat) (m1 : Nat) (m : Nat) (word0 : ByteArray) (letters1 : Int) (left8 : Int) (found9 : Bool) (c10 : Int) (out7 : List Int) : Option R79 := loopN (F79_10 n m1) m { tm := [.c (.str word0), .c (.int .i64 letters1), uu, uu, uu, uu, uu, .own 7 none false, .c (.int .i64 left8), .c (.bool found9), .c (.int .u8 c10), uu, uu, uu, uu, uu, uu, uu, uu, uu, uu, uu, uu, uu, uu, uu, uu, uu, uu, uu, uu, uu, uu, uu, uu, uu, uu, uu, uu, uu, uu, uu, uu, uu, uu, uu, uu, uu, uu, uu, uu, uu, uu, uu, uu, uu, uu, uu, uu, uu, uu, uu, uu, uu, uu, uu, uu, uu], hp := (upd emp 7 (.arr (.int .u8) out7 false)) }
noncomputable def L79_3 (n : Nat × Nat) (m1 m2 : Nat) (word0 : ByteArray) (letters1 : Int) (left8 : Int) (found9 : Bool) (c10 : Int) (out7 : List Int) : Option R79 := loopN (fun _ => (kq79_13 n m1 m2)) n.2 { tm := [.c (.str word0), .c (.int .i64 letters1), uu, uu, uu, uu, uu, .own 7 none false, .c (.int .i64 left8), .c (.bool found9), .c (.int .u8 c10), uu, uu, uu, uu, uu, uu, uu, uu, uu, uu, uu, uu, uu, uu, uu, uu, uu, uu, uu, uu, uu, uu, uu, uu, uu, uu, uu, uu, uu, uu, uu, uu, uu, uu, uu, uu, uu, uu, uu, uu, uu, uu, uu, uu, uu, uu, uu, uu, uu, uu, uu, uu, uu, uu, uu, uu, uu], hp := (upd emp 7 (.arr (.int .u8) out7 false)) }
theorem L79_1_eq (n : Nat × Nat) (m1 : Nat) (word0 : ByteArray) (letters1 : Int) (out7 : List Int) : L79_1 n (m1 + 1) word0 letters1 out7 =
 (S94 n word0 letters1).bind fun r2' =>
    L79_2 n m1 n.1 word0 letters1 (r2'.length : Int) false 97 out7 := by kernel_rfl
theorem L79_2_eq (n : Nat × Nat) (m1 m2 : Nat) (word0 : ByteArray) (letters1 : Int) (left8 : Int) (found9 : Bool) (c10 : Int) (out7 : List Int) : L79_2 n m1 (m2 + 1) word0 letters1 left8 found9 c10 out7 =
 ((bif (decide (c10 < wr .u8 (wr .i64 (97 + letters1))) == true) then some (!found9)
 else some false)).bind fun b3' =>
 (bif b3' then (S95 n (strBytes word0) c10).bind fun r4' =>
 (bif decide (r4' < 0) then (bif decide (out7.length + [c10].length ≤ lim) then some (strNums (out7 ++ [c10]), 0)
 else none)
 else ((bif (decide (left8 > 0) == true) then (bif bounds (some (wr .i64 (r4' + 1))) none none word0.size then (S94 n (strCut (some (wr .i64 (r4' + 1))) none word0) letters1).bind fun r5' =>
 some ((r5'.length : Int) == (wr .i64 (left8 - 1)))
 else none)
 else some false)).bind fun b6' =>
 (bif b6' then (bif decide (out7.length + [c10].length ≤ lim) then (bif bounds (some (wr .i64 (r4' + 1))) none none word0.size then L79_3 n m1 m2 (strCut (some (wr .i64 (r4' + 1))) none word0) letters1 left8 true c10 (out7 ++ [c10])
 else none)
 else none)
 else L79_3 n m1 m2 word0 letters1 left8 found9 c10 out7))
 else L79_1 n m1 word0 letters1 out7) := by kernel_rfl
theorem L79_3_raw (n : Nat × Nat) (m1 m2 : Nat) (word0 : ByteArray) (letters1 : Int) (left8 : Int) (found9 : Bool) (c10 : Int) (out7 : List Int) : (kq79_13 n m1 m2) { tm := [.c (.str word0), .c (.int .i64 letters1), uu, uu, uu, uu, uu, .own 7 none false, .c (.int .i64 left8), .c (.bool found9), .c (.int .u8 c10), uu, uu, uu, uu, uu, uu, uu, uu, uu, uu, uu, uu, uu, uu, uu, uu, uu, uu, uu, uu, uu, uu, uu, uu, uu, uu, uu, uu, uu, uu, uu, uu, uu, uu, uu, uu, uu, uu, uu, uu, uu, uu, uu, uu, uu, uu, uu, uu, uu, uu, uu, uu, uu, uu, uu, uu, uu], hp := (upd emp 7 (.arr (.int .u8) out7 false)) } =
    L79_2 n m1 m2 word0 letters1 left8 found9 (wr .u8 (c10 + 1)) out7 := by kernel_rfl
noncomputable def S79 (n : Nat × Nat) (word0 : ByteArray) (letters1 : Int) : Option R79 := run (E79 n) c79 an79 rt79 (fun _ _ => none) rt79 { tm := [.c (.str word0), .c (.int .i64 letters1), uu, uu, uu, uu, uu, uu, uu, uu, uu, uu, uu, uu, uu, uu, uu, uu, uu, uu, uu, uu, uu, uu, uu, uu, uu, uu, uu, uu, uu, uu, uu, uu, uu, uu, uu, uu, uu, uu, uu, uu, uu, uu, uu, uu, uu, uu, uu, uu, uu, uu, uu, uu, uu, uu, uu, uu, uu, uu, uu, uu, uu, uu, uu, uu, uu, uu], hp := emp }
theorem S79_eq (n : Nat × Nat) (word0 : ByteArray) (letters1 : Int) : S79 n word0 letters1 =
 (S93 n word0 letters1).bind fun r1' =>
 (bif (r1' != 0) then some ((⟨#[]⟩ : ByteArray), r1')
 else L79_1 n n.1 word0 letters1 []) := by kernel_rfl
theorem S79_run (n : Nat × Nat) (xs : pksDen pk79) : S79 n xs.1 xs.2.1 = runG (E79 n) noScope c79 an79 (rtG rk79) (fun _ _ => none) (rtG rk79) (st0 pk79 xs Tryz.f79.ntmps) := by kernel_rfl
noncomputable def P79 (n : Nat × Nat) := phiOf pk79 rk79 (fun xs => S79 n xs.1 xs.2.1)
theorem call79 : CallOK Tryz.prog 79 := callOK_of Tryz.func79 (by kernel_rfl) (by kernel_rfl)
theorem env79 (n : Nat × Nat) : EnvOK Tryz.prog (E79 n) := envOK0 (consPhi_ok (FC93 n) call93 (consPhi_ok (FC94 n) call94 (consPhi_ok (FC95 n) call95 noPhi_ok))) rfl rfl
theorem par79 (n : Nat × Nat) : EnvPar (E79 n) := envPar0 (consPhi_par phiOf_Par1 (consPhi_par phiOf_Par1 (consPhi_par phiOf_Par1 noPhi_par))) rfl
theorem FC79 (n : Nat × Nat) : FCs Tryz.prog 79 (P79 n) := phiOf_FCs fun xs r h vs hv => FC.of_runG tabOK eqsOK (env79 n) (par79 n) mixed (fun _ p _ => noScope_ok p.1 p.2) Tryz.func79 (c := c79) (an := an79) (pks := pk79) (rks := rk79) (by kernel_rfl) (by kernel_rfl) hv ((S79_run n xs).symm.trans h)
abbrev R80 := Bool
noncomputable def c80 : Code := bodyOf Tryz.f80
noncomputable def an80 : Ann := (.s .l (.s (.s .l (.j [1] (.j [0, 1, 5, 11, 12] (.s (.s .l (.j [0, 1, 5, 11, 12] .l .l)) (.j [] (.j [0, 1, 5, 11, 12] (.s .l (.j [0, 1, 5, 11, 12] .l .l)) .l) .l)) .l) .l)) .l))
def pk80 : List PK := [.c .str, .c .str]
def rk80 : List RK := [.c .bool 4]
noncomputable def rt80 (st : St) : Option R80 := rtG rk80 st
noncomputable def E80 (n : Nat × Nat) : Env := { T := tab, phi := noPhi, eff := fun _ => false, fuel := n.1, hold := n.2 }
noncomputable def kq80_1 (n : Nat × Nat) : St → Option R80 := run (E80 n) (cB (cB c80)) (Ann.snd (Ann.snd an80)) rt80 (fun _ _ => none) rt80
noncomputable def xb80_3 (n : Nat × Nat) : Nat → St → Option R80 := fun j s => bif Nat.beq j 0 then normC [1] s (kq80_1 n) else (fun _ _ => none) j s
noncomputable def F80_4 (n : Nat × Nat) : (St → Option R80) → St → Option R80 := fun K s => run (E80 n) (cA (cA (cB (cA (cB c80))))) (Ann.fst (Ann.fst (Ann.snd (Ann.fst (Ann.snd an80))))) (fun s => normC [0, 1, 5, 11, 12] s K) (xb80_3 n) rt80 s
noncomputable def kq80_7 (n : Nat × Nat) (m1 : Nat) : St → Option R80 := run (E80 n) (cB (cB (cA (cA (cB (cA (cB c80))))))) (Ann.snd (Ann.snd (Ann.fst (Ann.fst (Ann.snd (Ann.fst (Ann.snd an80))))))) (fun s => normC [0, 1, 5, 11, 12] s (loopN (F80_4 n) m1)) (xb80_3 n) rt80
noncomputable def L80_1 (n : Nat × Nat) (m : Nat) (word0 : ByteArray) (part1 : ByteArray) (i5 : Int) : Option R80 := loopN (F80_4 n) m { tm := [.c (.str word0), .c (.str part1), uu, uu, uu, .c (.int .i64 i5), uu, uu, uu, uu, uu, uu, uu, uu, uu, uu, uu, uu, uu, uu, uu, uu, uu, uu, uu, uu], hp := emp }
noncomputable def L80_2 (n : Nat × Nat) (m1 : Nat) (word0 : ByteArray) (part1 : ByteArray) (i5 : Int) : Option R80 := loopN (fun _ => (kq80_7 n m1)) n.2 { tm := [.c (.str word0), .c (.str part1), uu, uu, uu, .c (.int .i64 i5), uu, uu, uu, uu, uu, uu, uu, uu, uu, uu, uu, uu, uu, uu, uu, uu, uu, uu, uu, uu], hp := emp }
theorem L80_1_eq (n : Nat × Nat) (m1 : Nat) (word0 : ByteArray) (part1 : ByteArray) (i5 : Int) : L80_1 n (m1 + 1) word0 part1 i5 =
 ((bif (decide (i5 < (word0.size : Int)) == true) then some (!strEq part1 (⟨#[]⟩ : ByteArray))
 else some false)).bind fun b1' =>
 (bif b1' then (idx (strBytes word0) i5).bind fun x2' =>
 (idx (strBytes part1) 0).bind fun x3' =>
 (bif (x2' == x3') then (bif bounds (some 1) none none part1.size then L80_2 n m1 word0 (strCut (some 1) none part1) i5
 else none)
 else L80_2 n m1 word0 part1 i5)
 else some (strEq part1 (⟨#[]⟩ : ByteArray))) := by kernel_rfl
theorem L80_2_raw (n : Nat × Nat) (m1 : Nat) (word0 : ByteArray) (part1 : ByteArray) (i5 : Int) : (kq80_7 n m1) { tm := [.c (.str word0), .c (.str part1), uu, uu, uu, .c (.int .i64 i5), uu, uu, uu, uu, uu, uu, uu, uu, uu, uu, uu, uu, uu, uu, uu, uu, uu, uu, uu, uu], hp := emp } =
    L80_1 n m1 word0 part1 (wr .i64 (i5 + 1)) := by kernel_rfl
noncomputable def S80 (n : Nat × Nat) (word0 : ByteArray) (part1 : ByteArray) : Option R80 := run (E80 n) c80 an80 rt80 (fun _ _ => none) rt80 { tm := [.c (.str word0), .c (.str part1), uu, uu, uu, uu, uu, uu, uu, uu, uu, uu, uu, uu, uu, uu, uu, uu, uu, uu, uu, uu, uu, uu, uu, uu], hp := emp }
theorem S80_eq (n : Nat × Nat) (word0 : ByteArray) (part1 : ByteArray) : S80 n word0 part1 =
    L80_1 n n.1 word0 part1 0 := by kernel_rfl
theorem S80_run (n : Nat × Nat) (xs : pksDen pk80) : S80 n xs.1 xs.2.1 = runG (E80 n) noScope c80 an80 (rtG rk80) (fun _ _ => none) (rtG rk80) (st0 pk80 xs Tryz.f80.ntmps) := by kernel_rfl
noncomputable def P80 (n : Nat × Nat) := phiOf pk80 rk80 (fun xs => S80 n xs.1 xs.2.1)
theorem call80 : CallOK Tryz.prog 80 := callOK_of Tryz.func80 (by kernel_rfl) (by kernel_rfl)
theorem env80 (n : Nat × Nat) : EnvOK Tryz.prog (E80 n) := envOK0 noPhi_ok rfl rfl
theorem par80 (n : Nat × Nat) : EnvPar (E80 n) := envPar0 noPhi_par rfl
theorem FC80 (n : Nat × Nat) : FCs Tryz.prog 80 (P80 n) := phiOf_FCs fun xs r h vs hv => FC.of_runG tabOK eqsOK (env80 n) (par80 n) mixed (fun _ p _ => noScope_ok p.1 p.2) Tryz.func80 (c := c80) (an := an80) (pks := pk80) (rks := rk80) (by kernel_rfl) (by kernel_rfl) hv ((S80_run n xs).symm.trans h)
abbrev R70 := Bool
noncomputable def c70 : Code := bodyOf Tryz.f70
noncomputable def an70 : Ann := .l
def pk70 : List PK := []
def rk70 : List RK := [.c .bool 0]
noncomputable def rt70 (st : St) : Option R70 := rtG rk70 st
noncomputable def E70 (n : Nat × Nat) : Env := { T := tab, phi := (consPhi 78 (fun _ => true) (P78 n) (consPhi 79 (fun _ => true) (P79 n) (consPhi 80 (fun _ => true) (P80 n) noPhi))), eff := fun _ => false, fuel := n.1, hold := n.2 }
noncomputable def S70 (n : Nat × Nat) : Option R70 := run (E70 n) c70 an70 rt70 (fun _ _ => none) rt70 { tm := [uu, uu, uu, uu, uu, uu, uu, uu, uu, uu, uu, uu, uu, uu, uu, uu, uu, uu, uu, uu, uu, uu, uu, uu, uu, uu, uu, uu, uu, uu], hp := emp }
theorem S70_eq (n : Nat × Nat) : S70 n =
 (S78 n (⟨#[97, 98, 99, 97]⟩ : ByteArray) (⟨#[97]⟩ : ByteArray)).bind fun r1' =>
 (S79 n (⟨#[97, 98, 98, 97]⟩ : ByteArray) 2).bind fun r2' =>
 ((bif ((r1'.2 == 0) == true) then some (r2'.2 == 0)
 else some false)).bind fun b3' =>
 ((bif (b3' == true) then some (r1'.1 == 2)
 else some false)).bind fun b4' =>
 ((bif (b4' == true) then some (strEq r2'.1 (⟨#[97, 97, 97]⟩ : ByteArray))
 else some false)).bind fun b5' =>
 ((bif (b5' == true) then (S80 n (⟨#[100, 97, 121, 45, 98, 111, 111, 107]⟩ : ByteArray) (⟨#[121, 98, 107]⟩ : ByteArray)).bind fun r6' =>
 some r6'
 else some false)).bind fun b7' =>
 some b7' := by kernel_rfl
theorem S70_run (n : Nat × Nat) (xs : pksDen pk70) : S70 n = runG (E70 n) noScope c70 an70 (rtG rk70) (fun _ _ => none) (rtG rk70) (st0 pk70 xs Tryz.f70.ntmps) := by kernel_rfl
noncomputable def P70 (n : Nat × Nat) := phiOf pk70 rk70 (fun xs => S70 n)
theorem call70 : CallOK Tryz.prog 70 := callOK_of Tryz.func70 (by kernel_rfl) (by kernel_rfl)
theorem env70 (n : Nat × Nat) : EnvOK Tryz.prog (E70 n) := envOK0 (consPhi_ok (FC78 n) call78 (consPhi_ok (FC79 n) call79 (consPhi_ok (FC80 n) call80 noPhi_ok))) rfl rfl
theorem par70 (n : Nat × Nat) : EnvPar (E70 n) := envPar0 (consPhi_par phiOf_Par1 (consPhi_par phiOf_Par1 (consPhi_par phiOf_Par1 noPhi_par))) rfl
theorem FC70 (n : Nat × Nat) : FCs Tryz.prog 70 (P70 n) := phiOf_FCs fun xs r h vs hv => FC.of_runG tabOK eqsOK (env70 n) (par70 n) mixed (fun _ p _ => noScope_ok p.1 p.2) Tryz.func70 (c := c70) (an := an70) (pks := pk70) (rks := rk70) (by kernel_rfl) (by kernel_rfl) hv ((S70_run n xs).symm.trans h)
abbrev R58 := Bool
noncomputable def c58 : Code := bodyOf Tryz.f58
noncomputable def an58 : Ann := .l
def pk58 : List PK := []
def rk58 : List RK := [.c .bool 0]
noncomputable def rt58 (st : St) : Option R58 := rtG rk58 st
noncomputable def E58 (n : Nat × Nat) : Env := { T := tabL, phi := (consPhi 16 (fun _ => true) (P16 n) (consPhi 69 (fun _ => true) (P69 n) (consPhi 70 (fun _ => true) (P70 n) noPhi))), eff := fun g => Nat.beq g 69, fuel := n.1, hold := n.2 }
noncomputable def S58 (n : Nat × Nat) : Option R58 := run (E58 n) c58 an58 rt58 (fun _ _ => none) rt58 { tm := [uu, uu, uu, uu, uu, uu, uu, uu, uu, uu, uu, uu, uu, uu, uu, uu, uu, uu, uu, uu, uu, uu], hp := emp }
theorem S58_eq (n : Nat × Nat) : S58 n =
 (S69 n (3, [(0, 1), (1, 2)])).bind fun r1' =>
 ((bif ((r1'.2 == 0) == true) then (S16 n r1'.1 [0, 2]).bind fun r2' =>
 some r2'
 else some false)).bind fun b3' =>
 ((bif (b3' == true) then (S70 n).bind fun r4' =>
 some r4'
 else some false)).bind fun b5' =>
 some b5' := by kernel_rfl
theorem S58_run (n : Nat × Nat) (xs : pksDen pk58) : S58 n = runG (E58 n) noScope c58 an58 (rtG rk58) (fun _ _ => none) (rtG rk58) (st0 pk58 xs Tryz.f58.ntmps) := by kernel_rfl
noncomputable def P58 (n : Nat × Nat) := phiOf pk58 rk58 (fun xs => S58 n)
theorem call58 : CallOK Tryz.prog 58 := callOK_of Tryz.func58 (by kernel_rfl) (by kernel_rfl)
theorem env58 (n : Nat × Nat) : EnvOK Tryz.prog (E58 n) := envOK0 (consPhi_ok (FC16 n) call16 (consPhi_ok (FC69 n) call69 (consPhi_ok (FC70 n) call70 noPhi_ok))) rfl rfl
theorem par58 (n : Nat × Nat) : EnvPar (E58 n) := envPar0 (consPhi_par phiOf_Par1 (consPhi_par phiOf_Par1 (consPhi_par phiOf_Par1 noPhi_par))) rfl
theorem FC58 (n : Nat × Nat) : FCs Tryz.prog 58 (P58 n) := phiOf_FCs fun xs r h vs hv => FC.of_runG tabLOK eqsLOK (env58 n) (par58 n) mixed (fun _ p _ => noScope_ok p.1 p.2) Tryz.func58 (c := c58) (an := an58) (pks := pk58) (rks := rk58) (by kernel_rfl) (by kernel_rfl) hv ((S58_run n xs).symm.trans h)
abbrev R49 := Bool
noncomputable def c49 : Code := bodyOf Tryz.f49
noncomputable def an49 : Ann := .l
def pk49 : List PK := []
def rk49 : List RK := [.c .bool 0]
noncomputable def rt49 (st : St) : Option R49 := rtG rk49 st
noncomputable def E49 (n : Nat × Nat) : Env := { T := tabL, phi := (consPhi 16 (fun _ => true) (P16 n) (consPhi 57 (fun _ => true) (P57 n) (consPhi 58 (fun _ => true) (P58 n) noPhi))), eff := fun _ => false, fuel := n.1, hold := n.2 }
noncomputable def S49 (n : Nat × Nat) : Option R49 := run (E49 n) c49 an49 rt49 (fun _ _ => none) rt49 { tm := [uu, uu, uu, uu, uu, uu, uu, uu, uu, uu, uu, uu, uu, uu, uu, uu, uu, uu, uu, uu, uu, uu, uu], hp := emp }
theorem S49_eq (n : Nat × Nat) : S49 n =
 (S57 n (3, [(0, 1), (0, 2), (1, 2)])).bind fun r1' =>
 ((bif ((r1'.2 == 0) == true) then (S16 n r1'.1 [0, 1]).bind fun r2' =>
 some r2'
 else some false)).bind fun b3' =>
 ((bif (b3' == true) then (S58 n).bind fun r4' =>
 some r4'
 else some false)).bind fun b5' =>
 some b5' := by kernel_rfl
theorem S49_run (n : Nat × Nat) (xs : pksDen pk49) : S49 n = runG (E49 n) noScope c49 an49 (rtG rk49) (fun _ _ => none) (rtG rk49) (st0 pk49 xs Tryz.f49.ntmps) := by kernel_rfl
noncomputable def P49 (n : Nat × Nat) := phiOf pk49 rk49 (fun xs => S49 n)
theorem call49 : CallOK Tryz.prog 49 := callOK_of Tryz.func49 (by kernel_rfl) (by kernel_rfl)
theorem env49 (n : Nat × Nat) : EnvOK Tryz.prog (E49 n) := envOK0 (consPhi_ok (FC16 n) call16 (consPhi_ok (FC57 n) call57 (consPhi_ok (FC58 n) call58 noPhi_ok))) rfl rfl
theorem par49 (n : Nat × Nat) : EnvPar (E49 n) := envPar0 (consPhi_par phiOf_Par1 (consPhi_par phiOf_Par1 (consPhi_par phiOf_Par1 noPhi_par))) rfl
theorem FC49 (n : Nat × Nat) : FCs Tryz.prog 49 (P49 n) := phiOf_FCs fun xs r h vs hv => FC.of_runG tabLOK eqsLOK (env49 n) (par49 n) mixed (fun _ p _ => noScope_ok p.1 p.2) Tryz.func49 (c := c49) (an := an49) (pks := pk49) (rks := rk49) (by kernel_rfl) (by kernel_rfl) hv ((S49_run n xs).symm.trans h)
abbrev R41 := Bool
noncomputable def c41 : Code := bodyOf Tryz.f41
noncomputable def an41 : Ann := .l
def pk41 : List PK := []
def rk41 : List RK := [.c .bool 0]
noncomputable def rt41 (st : St) : Option R41 := rtG rk41 st
noncomputable def E41 (n : Nat × Nat) : Env := { T := tabL, phi := (consPhi 48 (fun _ => true) (P48 n) (consPhi 49 (fun _ => true) (P49 n) noPhi)), eff := fun _ => false, fuel := n.1, hold := n.2 }
noncomputable def S41 (n : Nat × Nat) : Option R41 := run (E41 n) c41 an41 rt41 (fun _ _ => none) rt41 { tm := [uu, uu, uu, uu, uu, uu, uu, uu, uu, uu, uu, uu, uu, uu, uu, uu, uu, uu, uu], hp := emp }
theorem S41_eq (n : Nat × Nat) : S41 n =
 (S48 n (2, [0, 1, 2, 0, 1])).bind fun r1' =>
 ((bif ((r1'.2 == 0) == true) then some (r1'.1 == 4)
 else some false)).bind fun b2' =>
 ((bif (b2' == true) then (S49 n).bind fun r3' =>
 some r3'
 else some false)).bind fun b4' =>
 some b4' := by kernel_rfl
theorem S41_run (n : Nat × Nat) (xs : pksDen pk41) : S41 n = runG (E41 n) noScope c41 an41 (rtG rk41) (fun _ _ => none) (rtG rk41) (st0 pk41 xs Tryz.f41.ntmps) := by kernel_rfl
noncomputable def P41 (n : Nat × Nat) := phiOf pk41 rk41 (fun xs => S41 n)
theorem call41 : CallOK Tryz.prog 41 := callOK_of Tryz.func41 (by kernel_rfl) (by kernel_rfl)
theorem env41 (n : Nat × Nat) : EnvOK Tryz.prog (E41 n) := envOK0 (consPhi_ok (FC48 n) call48 (consPhi_ok (FC49 n) call49 noPhi_ok)) rfl rfl
theorem par41 (n : Nat × Nat) : EnvPar (E41 n) := envPar0 (consPhi_par phiOf_Par1 (consPhi_par phiOf_Par1 noPhi_par)) rfl
theorem FC41 (n : Nat × Nat) : FCs Tryz.prog 41 (P41 n) := phiOf_FCs fun xs r h vs hv => FC.of_runG tabLOK eqsLOK (env41 n) (par41 n) mixed (fun _ p _ => noScope_ok p.1 p.2) Tryz.func41 (c := c41) (an := an41) (pks := pk41) (rks := rk41) (by kernel_rfl) (by kernel_rfl) hv ((S41_run n xs).symm.trans h)
abbrev R26 := Bool
noncomputable def c26 : Code := bodyOf Tryz.f26
noncomputable def an26 : Ann := .l
def pk26 : List PK := []
def rk26 : List RK := [.c .bool 0]
noncomputable def rt26 (st : St) : Option R26 := rtG rk26 st
noncomputable def E26 (n : Nat × Nat) : Env := { T := tab, phi := (consPhi 16 (fun _ => true) (P16 n) (consPhi 40 (fun _ => true) (P40 n) (consPhi 41 (fun _ => true) (P41 n) noPhi))), eff := fun _ => false, fuel := n.1, hold := n.2 }
noncomputable def S26 (n : Nat × Nat) : Option R26 := run (E26 n) c26 an26 rt26 (fun _ _ => none) rt26 { tm := [uu, uu, uu, uu, uu, uu, uu, uu, uu, uu, uu, uu, uu, uu, uu, uu, uu, uu, uu, uu, uu, uu], hp := emp }
theorem S26_eq (n : Nat × Nat) : S26 n =
 (S40 n [(3, 1), (1, 1), (2, 1)]).bind fun r1' =>
 ((bif ((r1'.2 == 0) == true) then (S16 n r1'.1 [0]).bind fun r2' =>
 some r2'
 else some false)).bind fun b3' =>
 ((bif (b3' == true) then (S41 n).bind fun r4' =>
 some r4'
 else some false)).bind fun b5' =>
 some b5' := by kernel_rfl
theorem S26_run (n : Nat × Nat) (xs : pksDen pk26) : S26 n = runG (E26 n) noScope c26 an26 (rtG rk26) (fun _ _ => none) (rtG rk26) (st0 pk26 xs Tryz.f26.ntmps) := by kernel_rfl
noncomputable def P26 (n : Nat × Nat) := phiOf pk26 rk26 (fun xs => S26 n)
theorem call26 : CallOK Tryz.prog 26 := callOK_of Tryz.func26 (by kernel_rfl) (by kernel_rfl)
theorem env26 (n : Nat × Nat) : EnvOK Tryz.prog (E26 n) := envOK0 (consPhi_ok (FC16 n) call16 (consPhi_ok (FC40 n) call40 (consPhi_ok (FC41 n) call41 noPhi_ok))) rfl rfl
theorem par26 (n : Nat × Nat) : EnvPar (E26 n) := envPar0 (consPhi_par phiOf_Par1 (consPhi_par phiOf_Par1 (consPhi_par phiOf_Par1 noPhi_par))) rfl
theorem FC26 (n : Nat × Nat) : FCs Tryz.prog 26 (P26 n) := phiOf_FCs fun xs r h vs hv => FC.of_runG tabOK eqsOK (env26 n) (par26 n) mixed (fun _ p _ => noScope_ok p.1 p.2) Tryz.func26 (c := c26) (an := an26) (pks := pk26) (rks := rk26) (by kernel_rfl) (by kernel_rfl) hv ((S26_run n xs).symm.trans h)
abbrev R11 := Bool
noncomputable def c11 : Code := bodyOf Tryz.f11
noncomputable def an11 : Ann := .l
def pk11 : List PK := []
def rk11 : List RK := [.c .bool 0]
noncomputable def rt11 (st : St) : Option R11 := rtG rk11 st
noncomputable def E11 (n : Nat × Nat) : Env := { T := tabL, phi := (consPhi 25 (fun _ => true) (P25 n) (consPhi 26 (fun _ => true) (P26 n) noPhi)), eff := fun _ => false, fuel := n.1, hold := n.2 }
noncomputable def S11 (n : Nat × Nat) : Option R11 := run (E11 n) c11 an11 rt11 (fun _ _ => none) rt11 { tm := [uu, uu, uu, uu, uu, uu, uu, uu, uu, uu, uu, uu, uu, uu, uu, uu, uu, uu, uu, uu, uu], hp := emp }
theorem S11_eq (n : Nat × Nat) : S11 n =
 (S25 n ([(1, 3), (1, 4), (1, 2)], 7, 0) 2).bind fun r1' =>
 ((bif ((r1'.2 == 0) == true) then some (r1'.1 == 6)
 else some false)).bind fun b2' =>
 ((bif (b2' == true) then (S26 n).bind fun r3' =>
 some r3'
 else some false)).bind fun b4' =>
 some b4' := by kernel_rfl
theorem S11_run (n : Nat × Nat) (xs : pksDen pk11) : S11 n = runG (E11 n) noScope c11 an11 (rtG rk11) (fun _ _ => none) (rtG rk11) (st0 pk11 xs Tryz.f11.ntmps) := by kernel_rfl
noncomputable def P11 (n : Nat × Nat) := phiOf pk11 rk11 (fun xs => S11 n)
theorem call11 : CallOK Tryz.prog 11 := callOK_of Tryz.func11 (by kernel_rfl) (by kernel_rfl)
theorem env11 (n : Nat × Nat) : EnvOK Tryz.prog (E11 n) := envOK0 (consPhi_ok (FC25 n) call25 (consPhi_ok (FC26 n) call26 noPhi_ok)) rfl rfl
theorem par11 (n : Nat × Nat) : EnvPar (E11 n) := envPar0 (consPhi_par phiOf_Par1 (consPhi_par phiOf_Par1 noPhi_par)) rfl
theorem FC11 (n : Nat × Nat) : FCs Tryz.prog 11 (P11 n) := phiOf_FCs fun xs r h vs hv => FC.of_runG tabLOK eqsLOK (env11 n) (par11 n) mixed (fun _ p _ => noScope_ok p.1 p.2) Tryz.func11 (c := c11) (an := an11) (pks := pk11) (rks := rk11) (by kernel_rfl) (by kernel_rfl) hv ((S11_run n xs).symm.trans h)
abbrev R3 := Bool
noncomputable def c3 : Code := bodyOf Tryz.f3
noncomputable def an3 : Ann := (.s .l (.s .l (.s (.s .l (.j [1, 2, 7, 9, 87, 88, 91, 92, 95, 96, 97, 98, 99, 102, 103, 104, 107, 108, 109, 110, 111, 114, 115, 116, 117, 118, 119, 120, 132, 133, 134, 135, 138, 139, 140, 141, 142, 143, 144, 145, 146, 147, 148, 149, 150, 151, 168, 169, 170, 171, 174, 175, 176, 177, 178, 179, 180, 183] .l .l)) (.s .l (.s (.s .l (.j [2, 9, 10, 87, 88, 91, 92, 95, 96, 97, 98, 99, 102, 103, 104, 107, 108, 109, 110, 111, 114, 115, 116, 117, 118, 119, 120, 132, 133, 134, 135, 138, 139, 140, 141, 142, 143, 144, 145, 146, 147, 148, 149, 150, 151, 168, 169, 170, 171, 174, 175, 176, 177, 178, 179, 180, 183] (.j [2, 9, 10, 37, 38, 39, 87, 88, 91, 92, 95, 96, 97, 98, 99, 102, 103, 104, 107, 108, 109, 110, 111, 114, 115, 116, 117, 118, 119, 120, 132, 133, 134, 135, 138, 139, 140, 141, 142, 143, 144, 145, 146, 147, 148, 149, 150, 151, 168, 169, 170, 171, 174, 175, 176, 177, 178, 179, 180, 183] (.s .l (.s (.j [2, 9, 10, 37, 38, 39, 87, 88, 91, 92, 95, 96, 97, 98, 99, 102, 103, 104, 107, 108, 109, 110, 111, 114, 115, 116, 117, 118, 119, 120, 132, 133, 134, 135, 138, 139, 140, 141, 142, 143, 144, 145, 146, 147, 148, 149, 150, 151, 168, 169, 170, 171, 174, 175, 176, 177, 178, 179, 180, 183] .l .l) (.s (.j [2, 9, 10, 37, 38, 39, 87, 88, 91, 92, 95, 96, 97, 98, 99, 102, 103, 104, 107, 108, 109, 110, 111, 114, 115, 116, 117, 118, 119, 120, 132, 133, 134, 135, 138, 139, 140, 141, 142, 143, 144, 145, 146, 147, 148, 149, 150, 151, 168, 169, 170, 171, 174, 175, 176, 177, 178, 179, 180, 183] (.s .l (.s .l (.s (.s .l (.j [2, 9, 10, 13, 37, 38, 39, 87, 88, 91, 92, 95, 96, 97, 98, 99, 102, 103, 104, 107, 108, 109, 110, 111, 114, 115, 116, 117, 118, 119, 120, 132, 133, 134, 135, 138, 139, 140, 141, 142, 143, 144, 145, 146, 147, 148, 149, 150, 151, 168, 169, 170, 171, 174, 175, 176, 177, 178, 179, 180, 183] .l .l)) .l))) .l) .l))) .l) .l)) (.s .l (.s .l (.s .l (.s .l (.s .l (.s (.s .l (.j [10, 14, 15, 17, 19, 132, 133, 134, 135, 138, 139, 140, 141, 142, 143, 144, 145, 146, 147, 148, 149, 150, 151, 168, 169, 170, 171, 174, 175, 176, 177, 178, 179, 180, 183] .l .l)) (.s .l (.s (.s .l (.j [14, 15, 17, 22, 168, 169, 170, 171, 174, 175, 176, 177, 178, 179, 180, 183] (.j [10, 14, 15, 17, 22, 122, 123, 124, 132, 133, 134, 135, 138, 139, 140, 141, 142, 143, 144, 145, 146, 147, 148, 149, 150, 151, 168, 169, 170, 171, 174, 175, 176, 177, 178, 179, 180, 183] (.s .l (.s (.j [10, 14, 15, 17, 22, 122, 123, 124, 132, 133, 134, 135, 138, 139, 140, 141, 142, 143, 144, 145, 146, 147, 148, 149, 150, 151, 168, 169, 170, 171, 174, 175, 176, 177, 178, 179, 180, 183] .l .l) (.s (.j [10, 14, 15, 17, 22, 122, 123, 124, 132, 133, 134, 135, 138, 139, 140, 141, 142, 143, 144, 145, 146, 147, 148, 149, 150, 151, 168, 169, 170, 171, 174, 175, 176, 177, 178, 179, 180, 183] (.s .l (.s (.s .l (.j [10, 14, 15, 17, 22, 24, 122, 123, 124, 132, 133, 134, 135, 138, 139, 140, 141, 142, 143, 144, 145, 146, 147, 148, 149, 150, 151, 168, 169, 170, 171, 174, 175, 176, 177, 178, 179, 180, 183] .l .l)) .l)) .l) .l))) .l) .l)) .l)))))))))))))
def pk3 : List PK := [.c (.int .u8), .c (.int .u8), .c (.int .u8), .c (.pair (.int .u8) (.pair (.int .u8) (.pair (.int .u8) (.pair (.int .u8) (.pair (.int .u8) (.pair (.int .u8) (.pair (.int .u8) (.int .u8))))))))]
def rk3 : List RK := [.c .bool 8]
noncomputable def rt3 (st : St) : Option R3 := rtG rk3 st
noncomputable def E3 (n : Nat × Nat) : Env := { T := tab, phi := (consPhi 6 (fun _ => true) (P6 n) (consPhi 8 (fun _ => true) (P8 n) (consPhi 9 (fun _ => true) (P9 n) (consPhi 10 (fun _ => true) (P10 n) (consPhi 11 (fun _ => true) (P11 n) noPhi))))), eff := fun _ => false, fuel := n.1, hold := n.2, pcl := [81, 161] }
noncomputable def kq3_3 (n : Nat × Nat) : St → Option R3 := run (E3 n) (cB (cB (cB (cB (cB c3))))) (Ann.snd (Ann.snd (Ann.snd (Ann.snd (Ann.snd an3))))) rt3 (fun _ _ => none) rt3
noncomputable def xb3_5 (n : Nat × Nat) : Nat → St → Option R3 := fun j s => bif Nat.beq j 0 then normC [2, 9, 10, 87, 88, 91, 92, 95, 96, 97, 98, 99, 102, 103, 104, 107, 108, 109, 110, 111, 114, 115, 116, 117, 118, 119, 120, 132, 133, 134, 135, 138, 139, 140, 141, 142, 143, 144, 145, 146, 147, 148, 149, 150, 151, 168, 169, 170, 171, 174, 175, 176, 177, 178, 179, 180, 183] s (kq3_3 n) else (fun _ _ => none) j s
noncomputable def F3_6 (n : Nat × Nat) : (St → Option R3) → St → Option R3 := fun K s => run (E3 n) (cA (cA (cB (cA (cB (cB (cB (cB c3)))))))) (Ann.fst (Ann.fst (Ann.snd (Ann.fst (Ann.snd (Ann.snd (Ann.snd (Ann.snd an3)))))))) (fun s => normC [2, 9, 10, 37, 38, 39, 87, 88, 91, 92, 95, 96, 97, 98, 99, 102, 103, 104, 107, 108, 109, 110, 111, 114, 115, 116, 117, 118, 119, 120, 132, 133, 134, 135, 138, 139, 140, 141, 142, 143, 144, 145, 146, 147, 148, 149, 150, 151, 168, 169, 170, 171, 174, 175, 176, 177, 178, 179, 180, 183] s K) (xb3_5 n) rt3 s
noncomputable def kq3_16 (n : Nat × Nat) : St → Option R3 := run (E3 n) (cB (cB (cB (cB (cB (cB (cB (cB (cB (cB (cB (cB (cB c3))))))))))))) (Ann.snd (Ann.snd (Ann.snd (Ann.snd (Ann.snd (Ann.snd (Ann.snd (Ann.snd (Ann.snd (Ann.snd (Ann.snd (Ann.snd (Ann.snd an3))))))))))))) rt3 (fun _ _ => none) rt3
noncomputable def xb3_18 (n : Nat × Nat) : Nat → St → Option R3 := fun j s => bif Nat.beq j 2 then normC [14, 15, 17, 22, 168, 169, 170, 171, 174, 175, 176, 177, 178, 179, 180, 183] s (kq3_16 n) else (fun _ _ => none) j s
noncomputable def F3_19 (n : Nat × Nat) : (St → Option R3) → St → Option R3 := fun K s => run (E3 n) (cA (cA (cB (cA (cB (cB (cB (cB (cB (cB (cB (cB (cB (cB (cB (cB c3)))))))))))))))) (Ann.fst (Ann.fst (Ann.snd (Ann.fst (Ann.snd (Ann.snd (Ann.snd (Ann.snd (Ann.snd (Ann.snd (Ann.snd (Ann.snd (Ann.snd (Ann.snd (Ann.snd (Ann.snd an3)))))))))))))))) (fun s => normC [10, 14, 15, 17, 22, 122, 123, 124, 132, 133, 134, 135, 138, 139, 140, 141, 142, 143, 144, 145, 146, 147, 148, 149, 150, 151, 168, 169, 170, 171, 174, 175, 176, 177, 178, 179, 180, 183] s K) (xb3_18 n) rt3 s
noncomputable def L3_1 (n : Nat × Nat) (m : Nat) (chain2 : Int) (v37 : List Int) (v38 : Int) (v39 : Int) (v9 : Int) (l10 : List Int) : Option R3 := loopN (F3_6 n) m { tm := [uu, uu, .c (.int .u8 chain2), uu, uu, uu, uu, uu, uu, .ptr 9 0, .own 10 none false, uu, uu, uu, uu, uu, uu, uu, uu, uu, uu, uu, uu, uu, uu, uu, uu, uu, uu, uu, uu, uu, uu, uu, uu, uu, uu, .c (.sl (.int .u8) v37 false), .c (.int .i64 v38), .c (.int .i64 v39), uu, uu, uu, uu, uu, uu, uu, uu, uu, uu, uu, uu, uu, uu, uu, uu, uu, uu, uu, uu, uu, uu, uu, uu, uu, uu, uu, uu, uu, uu, uu, uu, uu, uu, uu, uu, uu, uu, uu, uu, uu, uu, uu, uu, uu, uu, uu, uu, uu, uu, uu, uu, uu, uu, uu, uu, uu, uu, uu, uu, uu, uu, uu, uu, uu, uu, uu, uu, uu, uu, uu, uu, uu, uu, uu, uu, uu, uu, uu, uu, uu, uu, uu, uu, uu, uu, uu, uu, uu, uu, uu, uu, uu, uu, uu, uu, uu, uu, uu, uu, uu, uu, uu, uu, uu, uu, uu, uu, uu, uu, uu, uu, uu, uu, uu, uu, uu, uu, uu, uu, uu, uu, uu, uu, uu, uu, uu, uu, uu, uu, uu, uu, uu, uu, uu, uu, uu, uu, uu, uu, uu, uu, uu, uu, uu], hp := (upd (upd emp 10 (.arr (.int .i64) l10 false)) 9 (.box [.int .i64 v9])) }
noncomputable def L3_2 (n : Nat × Nat) (m : Nat) (k15 : Int) (is17 : Bool) (v123 : Int) (v124 : Int) (l10 : List Int) (bound14 : Int) (falling22 : List Int) (v122 : List Int) : Option R3 := loopN (F3_19 n) m { tm := [uu, uu, uu, uu, uu, uu, uu, uu, uu, uu, .own 10 none false, uu, uu, uu, .fn 6 [.ptr 14 0], .c (.int .i64 k15), uu, .c (.bool is17), uu, uu, uu, uu, .own 22 none false, uu, uu, uu, uu, uu, uu, uu, uu, uu, uu, uu, uu, uu, uu, uu, uu, uu, uu, uu, uu, uu, uu, uu, uu, uu, uu, uu, uu, uu, uu, uu, uu, uu, uu, uu, uu, uu, uu, uu, uu, uu, uu, uu, uu, uu, uu, uu, uu, uu, uu, uu, uu, uu, uu, uu, uu, uu, uu, uu, uu, uu, uu, uu, uu, uu, uu, uu, uu, uu, uu, uu, uu, uu, uu, uu, uu, uu, uu, uu, uu, uu, uu, uu, uu, uu, uu, uu, uu, uu, uu, uu, uu, uu, uu, uu, uu, uu, uu, uu, .own 122 none false, .c (.int .i64 v123), .c (.int .i64 v124), uu, uu, uu, uu, uu, uu, uu, uu, uu, uu, uu, uu, uu, uu, uu, uu, uu, uu, uu, uu, uu, uu, uu, uu, uu, uu, uu, uu, uu, uu, uu, uu, uu, uu, uu, uu, uu, uu, uu, uu, uu, uu, uu, uu, uu, uu, uu, uu, uu, uu, uu, uu, uu, uu, uu, uu, uu, uu, uu, uu], hp := (upd (upd (upd (upd emp 122 (.arr (.int .i64) v122 false)) 22 (.arr (.int .i64) falling22 false)) 14 (.box [.int .i64 bound14])) 10 (.arr (.int .i64) l10 false)) }
theorem L3_1_eq (n : Nat × Nat) (m1 : Nat) (chain2 : Int) (v37 : List Int) (v38 : Int) (v39 : Int) (v9 : Int) (l10 : List Int) : L3_1 n (m1 + 1) chain2 v37 v38 v39 v9 l10 =
 (bif decide (v39 < v38) then (idx v37 v39).bind fun x1' =>
 (bif v9 == 0 then none
 else (bif 2 == 0 then none
 else (bif ((Int.tmod chain2 2) == 1) then (bif 5 == 0 then none
 else (bif inB (Int.tmod x1' 5) [1, 2, 4, 12, 24].length then (idx [1, 2, 4, 12, 24] (Int.tmod x1' 5)).bind fun x2' =>
 (bif decide (l10.length + [x2'].length ≤ lim) then L3_1 n m1 chain2 v37 v38 (wr .i64 (v39 + 1)) v9 (l10 ++ [x2'])
 else none)
 else none))
 else (bif decide (l10.length + [wr .i64 (1 + (Int.tmod (wr .i64 x1') v9))].length ≤ lim) then L3_1 n m1 chain2 v37 v38 (wr .i64 (v39 + 1)) v9 (l10 ++ [wr .i64 (1 + (Int.tmod (wr .i64 x1') v9))])
 else none))))
 else (S8 n v9 l10).bind fun r3' =>
 (S9 n v9 l10).bind fun r4' =>
 (S10 n v9 l10).bind fun r5' =>
 (S6 n l10 v9).bind fun r6' =>
 ((bif ((r3'.2 != 0) == false) then some (r4'.2 != 0)
 else some true)).bind fun b7' =>
 ((bif (b7' == false) then some (r5'.2 != 0)
 else some true)).bind fun b8' =>
 ((bif (b8' == false) then some ((r5'.1.length : Int) != (l10.length : Int))
 else some true)).bind fun b9' =>
 ((bif (b9' == false) then some (decide (r6' < r3'.1))
 else some true)).bind fun b10' =>
 ((bif (b10' == false) then some (decide (r6' > wr .i64 ((wr .i64 (2 * r3'.1)) - 1)))
 else some true)).bind fun b11' =>
 ((bif (b11' == false) then (bif 2 == 0 then none
 else ((bif (((Int.tmod chain2 2) == 1) == true) then some (!r4'.1)
 else some false)).bind fun b12' =>
 some b12')
 else some true)).bind fun b13' =>
 (bif b13' then some false
 else L3_2 n n.1 r3'.1 r4'.1 (r5'.1.length : Int) 0 l10 v9 [] r5'.1)) := by kernel_rfl
theorem L3_2_eq (n : Nat × Nat) (m1 : Nat) (k15 : Int) (is17 : Bool) (v123 : Int) (v124 : Int) (l10 : List Int) (bound14 : Int) (falling22 : List Int) (v122 : List Int) : L3_2 n (m1 + 1) k15 is17 v123 v124 l10 bound14 falling22 v122 =
 (bif decide (v124 < v123) then (bif inB v124 v122.length then (idx v122 v124).bind fun x14' =>
 ((bif (decide (x14' < 0) == false) then some (decide (x14' ≥ (l10.length : Int)))
 else some true)).bind fun b15' =>
 ((bif (b15' == false) then ((bif (decide (v124 > 0) == true) then (bif inB x14' l10.length then (idx l10 x14').bind fun x16' =>
 (bif inB (wr .i64 (v124 - 1)) falling22.length then (idx falling22 (wr .i64 (v124 - 1))).bind fun x17' =>
 some (decide (x16' > x17'))
 else none)
 else none)
 else some false)).bind fun b18' =>
 some b18'
 else some true)).bind fun b19' =>
 (bif b19' then some false
 else (bif inB x14' l10.length then (idx l10 x14').bind fun x20' =>
 (bif decide (falling22.length + [x20'].length ≤ lim) then L3_2 n m1 k15 is17 v123 (wr .i64 (v124 + 1)) l10 bound14 (falling22 ++ [x20']) v122
 else none)
 else none))
 else none)
 else (S6 n falling22 bound14).bind fun r21' =>
 ((bif (decide (r21' ≥ k15) == true) then some (decide (r21' < wr .i64 (2 * k15)))
 else some false)).bind fun b22' =>
 ((bif (b22' == true) then ((bif ((!is17) == false) then some (r21' == k15)
 else some true)).bind fun b23' =>
 some b23'
 else some false)).bind fun b24' =>
 ((bif (b24' == true) then (S11 n).bind fun r25' =>
 some r25'
 else some false)).bind fun b26' =>
 some b26') := by kernel_rfl
noncomputable def S3 (n : Nat × Nat) (size0 : Int) (many1 : Int) (chain2 : Int) (pieces3 : Int × Int × Int × Int × Int × Int × Int × Int) : Option R3 := run (E3 n) c3 an3 rt3 (fun _ _ => none) rt3 { tm := [.c (.int .u8 size0), .c (.int .u8 many1), .c (.int .u8 chain2), .agg [.int .u8 pieces3.1, .int .u8 pieces3.2.1, .int .u8 pieces3.2.2.1, .int .u8 pieces3.2.2.2.1, .int .u8 pieces3.2.2.2.2.1, .int .u8 pieces3.2.2.2.2.2.1, .int .u8 pieces3.2.2.2.2.2.2.1, .int .u8 pieces3.2.2.2.2.2.2.2], uu, uu, uu, uu, uu, uu, uu, uu, uu, uu, uu, uu, uu, uu, uu, uu, uu, uu, uu, uu, uu, uu, uu, uu, uu, uu, uu, uu, uu, uu, uu, uu, uu, uu, uu, uu, uu, uu, uu, uu, uu, uu, uu, uu, uu, uu, uu, uu, uu, uu, uu, uu, uu, uu, uu, uu, uu, uu, uu, uu, uu, uu, uu, uu, uu, uu, uu, uu, uu, uu, uu, uu, uu, uu, uu, uu, uu, uu, uu, uu, uu, uu, uu, uu, uu, uu, uu, uu, uu, uu, uu, uu, uu, uu, uu, uu, uu, uu, uu, uu, uu, uu, uu, uu, uu, uu, uu, uu, uu, uu, uu, uu, uu, uu, uu, uu, uu, uu, uu, uu, uu, uu, uu, uu, uu, uu, uu, uu, uu, uu, uu, uu, uu, uu, uu, uu, uu, uu, uu, uu, uu, uu, uu, uu, uu, uu, uu, uu, uu, uu, uu, uu, uu, uu, uu, uu, uu, uu, uu, uu, uu, uu, uu, uu, uu, uu, uu, uu, uu, uu, uu, uu, uu, uu, uu, uu, uu, uu, uu, uu, uu], hp := emp }
theorem S3_eq (n : Nat × Nat) (size0 : Int) (many1 : Int) (chain2 : Int) (pieces3 : Int × Int × Int × Int × Int × Int × Int × Int) : S3 n size0 many1 chain2 pieces3 =
 (bif 24 == 0 then none
 else (bif 2 == 0 then none
 else (bif ((Int.tmod chain2 2) == 1) then (bif 8 == 0 then none
 else (bif bounds none (some (wr .i64 (1 + (Int.tmod (wr .i64 many1) 8)))) none 8 then L3_1 n n.1 chain2 ([pieces3.1, pieces3.2.1, pieces3.2.2.1, pieces3.2.2.2.1, pieces3.2.2.2.2.1, pieces3.2.2.2.2.2.1, pieces3.2.2.2.2.2.2.1, pieces3.2.2.2.2.2.2.2].take (Int.toNat (wr .i64 (1 + (Int.tmod (wr .i64 many1) 8))))) (([pieces3.1, pieces3.2.1, pieces3.2.2.1, pieces3.2.2.2.1, pieces3.2.2.2.2.1, pieces3.2.2.2.2.2.1, pieces3.2.2.2.2.2.2.1, pieces3.2.2.2.2.2.2.2].take (Int.toNat (wr .i64 (1 + (Int.tmod (wr .i64 many1) 8))))).length : Int) 0 24 []
 else none))
 else (bif 8 == 0 then none
 else (bif bounds none (some (wr .i64 (1 + (Int.tmod (wr .i64 many1) 8)))) none 8 then L3_1 n n.1 chain2 ([pieces3.1, pieces3.2.1, pieces3.2.2.1, pieces3.2.2.2.1, pieces3.2.2.2.2.1, pieces3.2.2.2.2.2.1, pieces3.2.2.2.2.2.2.1, pieces3.2.2.2.2.2.2.2].take (Int.toNat (wr .i64 (1 + (Int.tmod (wr .i64 many1) 8))))) (([pieces3.1, pieces3.2.1, pieces3.2.2.1, pieces3.2.2.2.1, pieces3.2.2.2.2.1, pieces3.2.2.2.2.2.1, pieces3.2.2.2.2.2.2.1, pieces3.2.2.2.2.2.2.2].take (Int.toNat (wr .i64 (1 + (Int.tmod (wr .i64 many1) 8))))).length : Int) 0 (wr .i64 (1 + (Int.tmod (wr .i64 size0) 24))) []
 else none))))) := by kernel_rfl
theorem S3_run (n : Nat × Nat) (xs : pksDen pk3) : S3 n xs.1 xs.2.1 xs.2.2.1 xs.2.2.2.1 = runG (E3 n) noScope c3 an3 (rtG rk3) (fun _ _ => none) (rtG rk3) (st0 pk3 xs Tryz.f3.ntmps) := by kernel_rfl
noncomputable def P3 (n : Nat × Nat) := phiOf pk3 rk3 (fun xs => S3 n xs.1 xs.2.1 xs.2.2.1 xs.2.2.2.1)
theorem env3 (n : Nat × Nat) : EnvOK Tryz.prog (E3 n) := envOK0 (consPhi_ok (FC6 n) call6 (consPhi_ok (FC8 n) call8 (consPhi_ok (FC9 n) call9 (consPhi_ok (FC10 n) call10 (consPhi_ok (FC11 n) call11 noPhi_ok))))) rfl rfl
theorem par3 (n : Nat × Nat) : EnvPar (E3 n) := envPar0 (consPhi_par phiOf_Par1 (consPhi_par phiOf_Par1 (consPhi_par phiOf_Par1 (consPhi_par phiOf_Par1 (consPhi_par phiOf_Par1 noPhi_par))))) rfl
theorem FC3 (n : Nat × Nat) : FCs Tryz.prog 3 (P3 n) := phiOf_FCs fun xs r h vs hv => FC.of_runG tabOK eqsOK (env3 n) (par3 n) mixed (fun _ p _ => noScope_ok p.1 p.2) Tryz.func3 (c := c3) (an := an3) (pks := pk3) (rks := rk3) (by kernel_rfl) (by kernel_rfl) hv ((S3_run n xs).symm.trans h)
/-D 35 -/
noncomputable def D35 (n : Nat × Nat) (p0 : Int) (v1 : Int) : Option R35 :=
 ((bif (decide (p0 < 1) == false) then some (decide (p0 > v1))
 else some true)).bind fun b1' =>
 some b1'
theorem S35_D (n : Nat × Nat) (hn : n.2 = 1) : S35 n = D35 n := by
  funext p0 v1; refine (S35_eq n p0 v1).trans ?_
  unfold D35
  first | with_reducible rfl | rfl
/-D 43c35 -/
noncomputable def DF43c35_1 (n : Nat × Nat) (f1 : List Int → Int → Int → Int → Option R43c35) (s0 : List Int) (f1_0 : Int) (v7 : Int) (v8 : Int) : Option R43c35 :=
 (bif decide (v8 < v7) then (idx s0 v8).bind fun x1' =>
 (D35 n x1' f1_0).bind fun r2' =>
 (bif r2' then some v8
 else f1 s0 f1_0 v7 (wr .i64 (v8 + 1)))
 else some (-1))
noncomputable def DL43c35_1 (n : Nat × Nat) (m : Nat) : List Int → Int → Int → Int → Option R43c35 := Nat.rec (motive := fun _ => List Int → Int → Int → Int → Option R43c35) (fun _ _ _ _ => none) (fun _ ih => DF43c35_1 n ih) m
theorem DL43c35_1_succ (n : Nat × Nat) (m : Nat) : DL43c35_1 n (m + 1) = DF43c35_1 n (DL43c35_1 n m) := rfl
theorem DL43c35_1_eq (n : Nat × Nat) (hn : n.2 = 1) : ∀ m, L43c35_1 n m = DL43c35_1 n m
  | 0 => by funext s0 f1_0 v7 v8; kernel_rfl
  | m + 1 => by
    have ih := DL43c35_1_eq n hn m
    funext s0 f1_0 v7 v8; refine (L43c35_1_eq n m s0 f1_0 v7 v8).trans ?_
    rw [DL43c35_1_succ]
    unfold DF43c35_1
    (try simp only [ih, S35_D n hn]) <;> first | with_reducible rfl | rfl
noncomputable def D43c35 (n : Nat × Nat) (s0 : List Int) (cp_1_0 : Int) : Option R43c35 :=
    DL43c35_1 n n.1 s0 cp_1_0 (s0.length : Int) 0
theorem S43c35_D (n : Nat × Nat) (hn : n.2 = 1) : S43c35 n = D43c35 n := by
  funext s0 cp_1_0; refine (S43c35_eq n s0 cp_1_0).trans ?_
  unfold D43c35
  (try simp only [DL43c35_1_eq n hn, S35_D n hn]) <;> first | with_reducible rfl | rfl
/-D 34c35 -/
noncomputable def D34c35 (n : Nat × Nat) (s0 : List Int) (cp_1_0 : Int) : Option R34c35 :=
 (D43c35 n s0 cp_1_0).bind fun r1' =>
 some (decide (r1' ≥ 0))
theorem S34c35_D (n : Nat × Nat) (hn : n.2 = 1) : S34c35 n = D34c35 n := by
  funext s0 cp_1_0; refine (S34c35_eq n s0 cp_1_0).trans ?_
  unfold D34c35
  (try simp only [S43c35_D n hn]) <;> first | with_reducible rfl | rfl
/-D 22 -/
noncomputable def D22 (n : Nat × Nat) (size0 : Int) (pieces1 : List Int) : Option R22 :=
 ((bif (decide (size0 < 1) == false) then some (decide (size0 > 24))
 else some true)).bind fun b1' =>
 (bif b1' then some 1
 else (bif decide ((pieces1.length : Int) > 8) then some 3
 else (D34c35 n pieces1 size0).bind fun r2' =>
 (bif r2' then some 1
 else some 0)))
theorem S22_D (n : Nat × Nat) (hn : n.2 = 1) : S22 n = D22 n := by
  funext size0 pieces1; refine (S22_eq n size0 pieces1).trans ?_
  unfold D22
  (try simp only [S34c35_D n hn]) <;> first | with_reducible rfl | rfl
/-D 60 -/
noncomputable def D60 (n : Nat × Nat) (x0 : Int) (y1 : Int) : Option R60 :=
 (bif decide (32 < 0) then none
 else (bif decide (32 < 0) then none
 else (bif decide (32 < 0) then none
 else (bif decide (32 < 0) then none
 else (bif decide (32 < 0) then none
 else some (wr .u64 ((wr .u64 ((wr .u64 ((Int.fdiv x0 (2 ^ (min (Int.toNat 32) (IntKind.bits .u64)))) * (Int.fdiv y1 (2 ^ (min (Int.toNat 32) (IntKind.bits .u64)))))) + (Int.fdiv (wr .u64 ((wr .u64 ((Int.fdiv x0 (2 ^ (min (Int.toNat 32) (IntKind.bits .u64)))) * (wr .u64 (BitVec.ofInt (IntKind.bits .u64) y1 &&& BitVec.ofInt (IntKind.bits .u64) 4294967295).toNat))) + (Int.fdiv (wr .u64 ((wr .u64 (BitVec.ofInt (IntKind.bits .u64) x0 &&& BitVec.ofInt (IntKind.bits .u64) 4294967295).toNat) * (wr .u64 (BitVec.ofInt (IntKind.bits .u64) y1 &&& BitVec.ofInt (IntKind.bits .u64) 4294967295).toNat))) (2 ^ (min (Int.toNat 32) (IntKind.bits .u64)))))) (2 ^ (min (Int.toNat 32) (IntKind.bits .u64)))))) + (Int.fdiv (wr .u64 ((wr .u64 (BitVec.ofInt (IntKind.bits .u64) (wr .u64 ((wr .u64 ((Int.fdiv x0 (2 ^ (min (Int.toNat 32) (IntKind.bits .u64)))) * (wr .u64 (BitVec.ofInt (IntKind.bits .u64) y1 &&& BitVec.ofInt (IntKind.bits .u64) 4294967295).toNat))) + (Int.fdiv (wr .u64 ((wr .u64 (BitVec.ofInt (IntKind.bits .u64) x0 &&& BitVec.ofInt (IntKind.bits .u64) 4294967295).toNat) * (wr .u64 (BitVec.ofInt (IntKind.bits .u64) y1 &&& BitVec.ofInt (IntKind.bits .u64) 4294967295).toNat))) (2 ^ (min (Int.toNat 32) (IntKind.bits .u64)))))) &&& BitVec.ofInt (IntKind.bits .u64) 4294967295).toNat) + (wr .u64 ((wr .u64 (BitVec.ofInt (IntKind.bits .u64) x0 &&& BitVec.ofInt (IntKind.bits .u64) 4294967295).toNat) * (Int.fdiv y1 (2 ^ (min (Int.toNat 32) (IntKind.bits .u64)))))))) (2 ^ (min (Int.toNat 32) (IntKind.bits .u64))))), wr .u64 (x0 * y1)))))))
theorem S60_D (n : Nat × Nat) (hn : n.2 = 1) : S60 n = D60 n := by
  funext x0 y1; refine (S60_eq n x0 y1).trans ?_
  unfold D60
  first | with_reducible rfl | rfl
/-D 51 -/
noncomputable def D51 (n : Nat × Nat) (x0 : Int) (y1 : Int) : Option R51 :=
 (D60 n x0 y1).bind fun r1' =>
 some (r1'.1, r1'.2)
theorem S51_D (n : Nat × Nat) (hn : n.2 = 1) : S51 n = D51 n := by
  funext x0 y1; refine (S51_eq n x0 y1).trans ?_
  unfold D51
  (try simp only [S60_D n hn]) <;> first | with_reducible rfl | rfl
/-D 44 -/
noncomputable def DF44_1 (n : Nat × Nat) (f1 : Int → List Int → Option R44) (v8 : Int) (newslice7 : List Int) : Option R44 :=
 (bif decide (v8 < (newslice7.length : Int)) then (bif bounds (some v8) none none newslice7.length then (bif bounds none (some v8) none newslice7.length then f1 (wr .i64 (v8 + ((min ((newslice7.drop (0 + 0)).take ((Int.toNat v8) - 0)).length ((newslice7.drop (0 + (Int.toNat v8))).take (newslice7.length - (Int.toNat v8))).length : Nat) : Int))) (newslice7.take (0 + (Int.toNat v8)) ++ ((newslice7.drop (0 + 0)).take ((Int.toNat v8) - 0)).take (min ((newslice7.drop (0 + 0)).take ((Int.toNat v8) - 0)).length ((newslice7.drop (0 + (Int.toNat v8))).take (newslice7.length - (Int.toNat v8))).length) ++ newslice7.drop ((0 + (Int.toNat v8)) + min ((newslice7.drop (0 + 0)).take ((Int.toNat v8) - 0)).length ((newslice7.drop (0 + (Int.toNat v8))).take (newslice7.length - (Int.toNat v8))).length))
 else none)
 else none)
 else some newslice7)
noncomputable def DL44_1 (n : Nat × Nat) (m : Nat) : Int → List Int → Option R44 := Nat.rec (motive := fun _ => Int → List Int → Option R44) (fun _ _ => none) (fun _ ih => DF44_1 n ih) m
theorem DL44_1_succ (n : Nat × Nat) (m : Nat) : DL44_1 n (m + 1) = DF44_1 n (DL44_1 n m) := rfl
theorem DL44_1_eq (n : Nat × Nat) (hn : n.2 = 1) : ∀ m, L44_1 n m = DL44_1 n m
  | 0 => by funext v8 newslice7; kernel_rfl
  | m + 1 => by
    have ih := DL44_1_eq n hn m
    funext v8 newslice7; refine (L44_1_eq n m v8 newslice7).trans ?_
    rw [DL44_1_succ]
    unfold DF44_1
    (try simp only [ih, S51_D n hn]) <;> first | with_reducible rfl | rfl
noncomputable def D44 (n : Nat × Nat) (x0 : List Int) (count1 : Int) : Option R44 :=
 (bif decide (count1 < 0) then none
 else (D51 n (wr .u64 (x0.length : Int)) (wr .u64 count1)).bind fun r1' =>
 ((bif (decide (r1'.1 > 0) == false) then some (decide (r1'.2 > 9223372036854775807))
 else some true)).bind fun b2' =>
 (bif b2' then none
 else (bif decide (0 ≤ wr .i64 r1'.2) && decide (wr .i64 r1'.2 ≤ wr .i64 r1'.2) && decide (wr .i64 r1'.2 ≤ lim) then DL44_1 n n.1 ((min x0.length (List.replicate (Int.toNat (wr .i64 r1'.2)) (0 : Int)).length : Nat) : Int) ((List.replicate (Int.toNat (wr .i64 r1'.2)) (0 : Int)).take 0 ++ x0.take (min x0.length (List.replicate (Int.toNat (wr .i64 r1'.2)) (0 : Int)).length) ++ (List.replicate (Int.toNat (wr .i64 r1'.2)) (0 : Int)).drop (0 + min x0.length (List.replicate (Int.toNat (wr .i64 r1'.2)) (0 : Int)).length))
 else none)))
theorem S44_D (n : Nat × Nat) (hn : n.2 = 1) : S44 n = D44 n := by
  funext x0 count1; refine (S44_eq n x0 count1).trans ?_
  unfold D44
  (try simp only [DL44_1_eq n hn, S51_D n hn]) <;> first | with_reducible rfl | rfl
/-D 37io11 -/
noncomputable def D37io11 (n : Nat × Nat) (v0 : List Int) (v1 : Bool) : Option R37io11 :=
 some (false, v0, true, ())
theorem S37io11_D (n : Nat × Nat) (hn : n.2 = 1) : S37io11 n = D37io11 n := by
  funext v0 v1; refine (S37io11_eq n v0 v1).trans ?_
  unfold D37io11
  first | with_reducible rfl | rfl
/-D 36c37io0001 -/
noncomputable def DF36c37io0001_4 (n : Nat × Nat) (f1 : (Int → List Int → Int → Int → Bool → List Int → List Int → Option R36c37io0001) × (Int → List Int → Int → Int → Bool → List Int → List Int → Option R36c37io0001)) (f2 : Int → List Int → Int → Int → Bool → List Int → List Int → Option R36c37io0001) (size0 : Int) (pieces1 : List Int) (most2 : Int) (i10 : Int) (v1000000000000 : Bool) (plan8 : List Int) (left9 : List Int) : Option R36c37io0001 :=
 (bif inB i10 plan8.length then (idx plan8 i10).bind fun x21' =>
 (bif inB i10 plan8.length then (idx plan8 i10).bind fun x22' =>
 (bif inB i10 (plan8.set (Int.toNat i10) (wr .i64 (x21' + 1))).length then (idx (plan8.set (Int.toNat i10) (wr .i64 (x21' + 1))) i10).bind fun x23' =>
 ((bif (decide (x23' ≥ most2) == false) then ((bif (decide (x23' > 0) == true) then (bif inB (wr .i64 (x23' - 1)) left9.length then (idx left9 (wr .i64 (x23' - 1))).bind fun x24' =>
 some (x24' == size0)
 else none)
 else some false)).bind fun b25' =>
 some b25'
 else some true)).bind fun b26' =>
 (bif b26' then (bif inB i10 (plan8.set (Int.toNat i10) (wr .i64 (x21' + 1))).length then (idx (plan8.set (Int.toNat i10) (wr .i64 (x21' + 1))) i10).bind fun x27' =>
              f1.1 size0 pieces1 most2 i10 v1000000000000 ((plan8.set (Int.toNat i10) (wr .i64 (x21' + 1))).set (Int.toNat i10) (-1)) left9
 else none)
 else (bif inB x23' left9.length then (idx left9 x23').bind fun x28' =>
 (idx pieces1 i10).bind fun x29' =>
 (bif decide (x28' ≥ x29') then (bif inB x23' left9.length then (idx left9 x23').bind fun x30' =>
 (idx pieces1 i10).bind fun x31' =>
 (bif inB x23' left9.length then (idx left9 x23').bind fun x32' =>
                    f1.2 size0 pieces1 most2 (wr .i64 (i10 + 1)) v1000000000000 (plan8.set (Int.toNat i10) (wr .i64 (x21' + 1))) (left9.set (Int.toNat x23') (wr .i64 (x30' - x31')))
 else none)
 else none)
 else f2 size0 pieces1 most2 i10 v1000000000000 (plan8.set (Int.toNat i10) (wr .i64 (x21' + 1))) left9)
 else none))
 else none)
 else none)
 else none)
noncomputable def DL36c37io0001_4 (n : Nat × Nat) (f1 : (Int → List Int → Int → Int → Bool → List Int → List Int → Option R36c37io0001) × (Int → List Int → Int → Int → Bool → List Int → List Int → Option R36c37io0001)) (m : Nat) : Int → List Int → Int → Int → Bool → List Int → List Int → Option R36c37io0001 := Nat.rec (motive := fun _ => Int → List Int → Int → Int → Bool → List Int → List Int → Option R36c37io0001) (fun _ _ _ _ _ _ _ => none) (fun _ ih => DF36c37io0001_4 n f1 ih) m
theorem DL36c37io0001_4_succ (n : Nat × Nat) (f1 : (Int → List Int → Int → Int → Bool → List Int → List Int → Option R36c37io0001) × (Int → List Int → Int → Int → Bool → List Int → List Int → Option R36c37io0001)) (m : Nat) : DL36c37io0001_4 n f1 (m + 1) = DF36c37io0001_4 n f1 (DL36c37io0001_4 n f1 m) := rfl
theorem DL36c37io0001_4_eq (n : Nat × Nat) (hn : n.2 = 1) (m1 : Nat) : ∀ m, L36c37io0001_4 n m1 m = DL36c37io0001_4 n (L36c37io0001_1 n m1, L36c37io0001_3 n m1) m
  | 0 => by funext size0 pieces1 most2 i10 v1000000000000 plan8 left9; kernel_rfl
  | m + 1 => by
    have ih := DL36c37io0001_4_eq n hn m1 m
    funext size0 pieces1 most2 i10 v1000000000000 plan8 left9; refine (L36c37io0001_4_eq n m1 m size0 pieces1 most2 i10 v1000000000000 plan8 left9).trans ?_
    rw [DL36c37io0001_4_succ]
    unfold DF36c37io0001_4
    (try simp only [ih, S44_D n hn, S37io11_D n hn]) <;> first | with_reducible rfl | rfl
noncomputable def DF36c37io0001_1 (n : Nat × Nat) (f1 : (Int → List Int → Int → Int → Bool → List Int → List Int → Option R36c37io0001) × (Int → List Int → Int → Int → Bool → List Int → List Int → Option R36c37io0001)) (size0 : Int) (pieces1 : List Int) (most2 : Int) (i10 : Int) (v1000000000000 : Bool) (plan8 : List Int) (left9 : List Int) : Option R36c37io0001 :=
 (bif decide (wr .i64 (i10 - 1) < 0) then some ((), v1000000000000, ())
 else (bif inB (wr .i64 (i10 - 1)) plan8.length then (idx plan8 (wr .i64 (i10 - 1))).bind fun x4' =>
 (bif inB x4' left9.length then (idx left9 x4').bind fun x5' =>
 (idx pieces1 (wr .i64 (i10 - 1))).bind fun x6' =>
 (bif inB x4' left9.length then (idx left9 x4').bind fun x7' =>
            f1.2 size0 pieces1 most2 (wr .i64 (i10 - 1)) v1000000000000 plan8 (left9.set (Int.toNat x4') (wr .i64 (x5' + x6')))
 else none)
 else none)
 else none))
noncomputable def DF36c37io0001_3 (n : Nat × Nat) (f1 : (Int → List Int → Int → Int → Bool → List Int → List Int → Option R36c37io0001) × (Int → List Int → Int → Int → Bool → List Int → List Int → Option R36c37io0001)) (size0 : Int) (pieces1 : List Int) (most2 : Int) (i10 : Int) (v1000000000000 : Bool) (plan8 : List Int) (left9 : List Int) : Option R36c37io0001 :=
 (bif (i10 == (pieces1.length : Int)) then (D37io11 n plan8 v1000000000000).bind fun r20' =>
 (bif Nat.beq r20'.2.1.length plan8.length then (bif (!r20'.1) then some ((), r20'.2.2.1, ())
 else f1.1 size0 pieces1 most2 i10 r20'.2.2.1 r20'.2.1 left9)
 else none)
 else DL36c37io0001_4 n f1 n.1 size0 pieces1 most2 i10 v1000000000000 plan8 left9)
noncomputable def DG36c37io0001_1 (n : Nat × Nat) (m : Nat) : (Int → List Int → Int → Int → Bool → List Int → List Int → Option R36c37io0001) × (Int → List Int → Int → Int → Bool → List Int → List Int → Option R36c37io0001) := Nat.rec (motive := fun _ => (Int → List Int → Int → Int → Bool → List Int → List Int → Option R36c37io0001) × (Int → List Int → Int → Int → Bool → List Int → List Int → Option R36c37io0001)) ((fun _ _ _ _ _ _ _ => none), (fun _ _ _ _ _ _ _ => none)) (fun _ ih => (DF36c37io0001_1 n ih, DF36c37io0001_3 n ih)) m
theorem DG36c37io0001_1_succ (n : Nat × Nat) (m : Nat) : DG36c37io0001_1 n (m + 1) = (DF36c37io0001_1 n (DG36c37io0001_1 n m), DF36c37io0001_3 n (DG36c37io0001_1 n m)) := rfl
noncomputable def DL36c37io0001_1 (n : Nat × Nat) (m : Nat) : Int → List Int → Int → Int → Bool → List Int → List Int → Option R36c37io0001 := (DG36c37io0001_1 n m).1
noncomputable def DL36c37io0001_3 (n : Nat × Nat) (m : Nat) : Int → List Int → Int → Int → Bool → List Int → List Int → Option R36c37io0001 := (DG36c37io0001_1 n m).2
theorem DG36c37io0001_1_eq (n : Nat × Nat) (hn : n.2 = 1) : ∀ m, (L36c37io0001_1 n m, L36c37io0001_3 n m) = DG36c37io0001_1 n m
  | 0 => by
    have z1 : L36c37io0001_1 n 0 = (fun _ _ _ _ _ _ _ => none) := by funext size0 pieces1 most2 i10 v1000000000000 plan8 left9; kernel_rfl
    have z3 : L36c37io0001_3 n 0 = (fun _ _ _ _ _ _ _ => none) := by funext size0 pieces1 most2 i10 v1000000000000 plan8 left9; kernel_rfl
    rw [z1, z3]
    rfl
  | m + 1 => by
    have ih := DG36c37io0001_1_eq n hn m
    have ih1 : L36c37io0001_1 n m = (DG36c37io0001_1 n m).1 := congrArg (fun p => p.1) ih; have ih3 : L36c37io0001_3 n m = (DG36c37io0001_1 n m).2 := congrArg (fun p => p.2) ih
    have e1 : L36c37io0001_1 n (m + 1) = DF36c37io0001_1 n (DG36c37io0001_1 n m) := by
      funext size0 pieces1 most2 i10 v1000000000000 plan8 left9; refine (L36c37io0001_1_eq n m size0 pieces1 most2 i10 v1000000000000 plan8 left9).trans ?_
      unfold DF36c37io0001_1
      (try simp only [ih1, ih3, DL36c37io0001_4_eq n hn, S44_D n hn, S37io11_D n hn]) <;> first | with_reducible rfl | rfl
    have e3 : L36c37io0001_3 n (m + 1) = DF36c37io0001_3 n (DG36c37io0001_1 n m) := by
      funext size0 pieces1 most2 i10 v1000000000000 plan8 left9; refine (L36c37io0001_3_eq n m size0 pieces1 most2 i10 v1000000000000 plan8 left9).trans ?_
      unfold DF36c37io0001_3
      (try simp only [ih1, ih3, DL36c37io0001_4_eq n hn, S44_D n hn, S37io11_D n hn]) <;> first | with_reducible rfl | rfl
    rw [DG36c37io0001_1_succ, e1, e3]
theorem DL36c37io0001_1_eq (n : Nat × Nat) (hn : n.2 = 1) (m : Nat) : L36c37io0001_1 n m = DL36c37io0001_1 n m := congrArg (fun p => p.1) (DG36c37io0001_1_eq n hn m)
theorem DL36c37io0001_3_eq (n : Nat × Nat) (hn : n.2 = 1) (m : Nat) : L36c37io0001_3 n m = DL36c37io0001_3 n m := congrArg (fun p => p.2) (DG36c37io0001_1_eq n hn m)
noncomputable def DF36c37io0001_2 (n : Nat × Nat) (f1 : Int → List Int → Int → Int → Bool → List Int → List Int → Option R36c37io0001) (size0 : Int) (pieces1 : List Int) (most2 : Int) (i10 : Int) (v1000000000000 : Bool) (plan8 : List Int) (left9 : List Int) : Option R36c37io0001 :=
 (bif inB i10 plan8.length then (idx plan8 i10).bind fun x8' =>
 (bif inB i10 plan8.length then (idx plan8 i10).bind fun x9' =>
 (bif inB i10 (plan8.set (Int.toNat i10) (wr .i64 (x8' + 1))).length then (idx (plan8.set (Int.toNat i10) (wr .i64 (x8' + 1))) i10).bind fun x10' =>
 ((bif (decide (x10' ≥ most2) == false) then ((bif (decide (x10' > 0) == true) then (bif inB (wr .i64 (x10' - 1)) left9.length then (idx left9 (wr .i64 (x10' - 1))).bind fun x11' =>
 some (x11' == size0)
 else none)
 else some false)).bind fun b12' =>
 some b12'
 else some true)).bind fun b13' =>
 (bif b13' then (bif inB i10 (plan8.set (Int.toNat i10) (wr .i64 (x8' + 1))).length then (idx (plan8.set (Int.toNat i10) (wr .i64 (x8' + 1))) i10).bind fun x14' =>
              DL36c37io0001_1 n n.1 size0 pieces1 most2 i10 v1000000000000 ((plan8.set (Int.toNat i10) (wr .i64 (x8' + 1))).set (Int.toNat i10) (-1)) left9
 else none)
 else (bif inB x10' left9.length then (idx left9 x10').bind fun x15' =>
 (idx pieces1 i10).bind fun x16' =>
 (bif decide (x15' ≥ x16') then (bif inB x10' left9.length then (idx left9 x10').bind fun x17' =>
 (idx pieces1 i10).bind fun x18' =>
 (bif inB x10' left9.length then (idx left9 x10').bind fun x19' =>
                    DL36c37io0001_3 n n.1 size0 pieces1 most2 (wr .i64 (i10 + 1)) v1000000000000 (plan8.set (Int.toNat i10) (wr .i64 (x8' + 1))) (left9.set (Int.toNat x10') (wr .i64 (x17' - x18')))
 else none)
 else none)
 else f1 size0 pieces1 most2 i10 v1000000000000 (plan8.set (Int.toNat i10) (wr .i64 (x8' + 1))) left9)
 else none))
 else none)
 else none)
 else none)
noncomputable def DL36c37io0001_2 (n : Nat × Nat) (m : Nat) : Int → List Int → Int → Int → Bool → List Int → List Int → Option R36c37io0001 := Nat.rec (motive := fun _ => Int → List Int → Int → Int → Bool → List Int → List Int → Option R36c37io0001) (fun _ _ _ _ _ _ _ => none) (fun _ ih => DF36c37io0001_2 n ih) m
theorem DL36c37io0001_2_succ (n : Nat × Nat) (m : Nat) : DL36c37io0001_2 n (m + 1) = DF36c37io0001_2 n (DL36c37io0001_2 n m) := rfl
theorem DL36c37io0001_2_eq (n : Nat × Nat) (hn : n.2 = 1) : ∀ m, L36c37io0001_2 n m = DL36c37io0001_2 n m
  | 0 => by funext size0 pieces1 most2 i10 v1000000000000 plan8 left9; kernel_rfl
  | m + 1 => by
    have ih := DL36c37io0001_2_eq n hn m
    funext size0 pieces1 most2 i10 v1000000000000 plan8 left9; refine (L36c37io0001_2_eq n m size0 pieces1 most2 i10 v1000000000000 plan8 left9).trans ?_
    rw [DL36c37io0001_2_succ]
    unfold DF36c37io0001_2
    (try simp only [ih, DL36c37io0001_4_eq n hn, DL36c37io0001_1_eq n hn, DL36c37io0001_3_eq n hn, S44_D n hn, S37io11_D n hn]) <;> first | with_reducible rfl | rfl
noncomputable def D36c37io0001 (n : Nat × Nat) (size0 : Int) (pieces1 : List Int) (most2 : Int) (cp_3_0 : Bool) : Option R36c37io0001 :=
 (D44 n [-1] (pieces1.length : Int)).bind fun r1' =>
 (D44 n [size0] most2).bind fun r2' =>
 (bif (0 == (pieces1.length : Int)) then (D37io11 n r1' cp_3_0).bind fun r3' =>
 (bif Nat.beq r3'.2.1.length r1'.length then (bif (!r3'.1) then some ((), r3'.2.2.1, ())
 else DL36c37io0001_1 n n.1 size0 pieces1 most2 0 r3'.2.2.1 r3'.2.1 r2')
 else none)
 else DL36c37io0001_2 n n.1 size0 pieces1 most2 0 cp_3_0 r1' r2')
theorem S36c37io0001_D (n : Nat × Nat) (hn : n.2 = 1) : S36c37io0001 n = D36c37io0001 n := by
  funext size0 pieces1 most2 cp_3_0; refine (S36c37io0001_eq n size0 pieces1 most2 cp_3_0).trans ?_
  unfold D36c37io0001
  (try simp only [DL36c37io0001_4_eq n hn, DL36c37io0001_1_eq n hn, DL36c37io0001_3_eq n hn, DL36c37io0001_2_eq n hn, S44_D n hn, S37io11_D n hn]) <;> first | with_reducible rfl | rfl
/-D 23 -/
noncomputable def DF23_1 (n : Nat × Nat) (f1 : Int → List Int → Int → Option R23) (size0 : Int) (pieces1 : List Int) (most5 : Int) : Option R23 :=
 (D36c37io0001 n size0 pieces1 most5 false).bind fun r1' =>
 ((bif (r1'.2.1 == false) then some (most5 == (pieces1.length : Int))
 else some true)).bind fun b2' =>
 (bif b2' then some most5
 else f1 size0 pieces1 (wr .i64 (most5 + 1)))
noncomputable def DL23_1 (n : Nat × Nat) (m : Nat) : Int → List Int → Int → Option R23 := Nat.rec (motive := fun _ => Int → List Int → Int → Option R23) (fun _ _ _ => none) (fun _ ih => DF23_1 n ih) m
theorem DL23_1_succ (n : Nat × Nat) (m : Nat) : DL23_1 n (m + 1) = DF23_1 n (DL23_1 n m) := rfl
theorem DL23_1_eq (n : Nat × Nat) (hn : n.2 = 1) : ∀ m, L23_1 n m = DL23_1 n m
  | 0 => by funext size0 pieces1 most5; kernel_rfl
  | m + 1 => by
    have ih := DL23_1_eq n hn m
    funext size0 pieces1 most5; refine (L23_1_eq n m size0 pieces1 most5).trans ?_
    rw [DL23_1_succ]
    unfold DF23_1
    (try simp only [ih, S36c37io0001_D n hn]) <;> first | with_reducible rfl | rfl
noncomputable def D23 (n : Nat × Nat) (size0 : Int) (pieces1 : List Int) : Option R23 :=
    DL23_1 n n.1 size0 pieces1 0
theorem S23_D (n : Nat × Nat) (hn : n.2 = 1) : S23 n = D23 n := by
  funext size0 pieces1; refine (S23_eq n size0 pieces1).trans ?_
  unfold D23
  (try simp only [DL23_1_eq n hn, S36c37io0001_D n hn]) <;> first | with_reducible rfl | rfl
/-D 8 -/
noncomputable def D8 (n : Nat × Nat) (size0 : Int) (pieces1 : List Int) : Option R8 :=
 (D22 n size0 pieces1).bind fun r1' =>
 (bif (r1' != 0) then some (0, r1')
 else (D23 n size0 pieces1).bind fun r2' =>
 some (r2', 0))
theorem S8_D (n : Nat × Nat) (hn : n.2 = 1) : S8 n = D8 n := by
  funext size0 pieces1; refine (S8_eq n size0 pieces1).trans ?_
  unfold D8
  (try simp only [S22_D n hn, S23_D n hn]) <;> first | with_reducible rfl | rfl
/-D 39 -/
noncomputable def D39 (n : Nat × Nat) (i0 : Int) (j1 : Int) (v2 : List Int) : Option R39 :=
 (idx v2 j1).bind fun x1' =>
 (idx v2 i0).bind fun x2' =>
 some (wr .i64 (x1' - x2'))
theorem S39_D (n : Nat × Nat) (hn : n.2 = 1) : S39 n = D39 n := by
  funext i0 j1 v2; refine (S39_eq n i0 j1 v2).trans ?_
  unfold D39
  first | with_reducible rfl | rfl
/-D 52c39io1001 -/
noncomputable def DF52c39io1001_2 (n : Nat × Nat) (f1 : Int → Int → Int → List Int → List Int → Option R52c39io1001) (f2 : Int → Int → Int → Int → List Int → List Int → Option R52c39io1001) (a1 : Int) (b2 : Int) (i8 : Int) (j9 : Int) (v1000000000000 : List Int) (v1000000000001 : List Int) : Option R52c39io1001 :=
 ((bif (decide (j9 > a1) == true) then (bif inB j9 v1000000000000.length then (idx v1000000000000 j9).bind fun x1' =>
 (bif inB (wr .i64 (j9 - 1)) v1000000000000.length then (idx v1000000000000 (wr .i64 (j9 - 1))).bind fun x2' =>
 (D39 n x1' x2' v1000000000001).bind fun r3' =>
 some (decide (r3' < 0))
 else none)
 else none)
 else some false)).bind fun b4' =>
 (bif b4' then (bif inB (wr .i64 (j9 - 1)) v1000000000000.length then (idx v1000000000000 (wr .i64 (j9 - 1))).bind fun x5' =>
 (bif inB j9 v1000000000000.length then (idx v1000000000000 j9).bind fun x6' =>
 (bif inB j9 v1000000000000.length then (idx v1000000000000 j9).bind fun x7' =>
 (bif inB (wr .i64 (j9 - 1)) (v1000000000000.set (Int.toNat j9) x5').length then (idx (v1000000000000.set (Int.toNat j9) x5') (wr .i64 (j9 - 1))).bind fun x8' =>
              f2 a1 b2 i8 (wr .i64 (j9 - 1)) ((v1000000000000.set (Int.toNat j9) x5').set (Int.toNat (wr .i64 (j9 - 1))) x6') v1000000000001
 else none)
 else none)
 else none)
 else none)
 else f1 a1 b2 (wr .i64 (i8 + 1)) v1000000000000 v1000000000001)
noncomputable def DL52c39io1001_2 (n : Nat × Nat) (f1 : Int → Int → Int → List Int → List Int → Option R52c39io1001) (m : Nat) : Int → Int → Int → Int → List Int → List Int → Option R52c39io1001 := Nat.rec (motive := fun _ => Int → Int → Int → Int → List Int → List Int → Option R52c39io1001) (fun _ _ _ _ _ _ => none) (fun _ ih => DF52c39io1001_2 n f1 ih) m
theorem DL52c39io1001_2_succ (n : Nat × Nat) (f1 : Int → Int → Int → List Int → List Int → Option R52c39io1001) (m : Nat) : DL52c39io1001_2 n f1 (m + 1) = DF52c39io1001_2 n f1 (DL52c39io1001_2 n f1 m) := rfl
theorem DL52c39io1001_2_eq (n : Nat × Nat) (hn : n.2 = 1) (m1 : Nat) : ∀ m, L52c39io1001_2 n m1 m = DL52c39io1001_2 n (L52c39io1001_1 n m1) m
  | 0 => by funext a1 b2 i8 j9 v1000000000000 v1000000000001; kernel_rfl
  | m + 1 => by
    have ih := DL52c39io1001_2_eq n hn m1 m
    funext a1 b2 i8 j9 v1000000000000 v1000000000001; refine (L52c39io1001_2_eq n m1 m a1 b2 i8 j9 v1000000000000 v1000000000001).trans ?_
    rw [DL52c39io1001_2_succ]
    unfold DF52c39io1001_2
    (try simp only [ih, S39_D n hn]) <;> first | with_reducible rfl | rfl
noncomputable def DF52c39io1001_1 (n : Nat × Nat) (f1 : Int → Int → Int → List Int → List Int → Option R52c39io1001) (a1 : Int) (b2 : Int) (i8 : Int) (v1000000000000 : List Int) (v1000000000001 : List Int) : Option R52c39io1001 :=
 (bif decide (i8 < b2) then DL52c39io1001_2 n f1 n.1 a1 b2 i8 i8 v1000000000000 v1000000000001
 else some ((), v1000000000000, v1000000000001, ()))
noncomputable def DL52c39io1001_1 (n : Nat × Nat) (m : Nat) : Int → Int → Int → List Int → List Int → Option R52c39io1001 := Nat.rec (motive := fun _ => Int → Int → Int → List Int → List Int → Option R52c39io1001) (fun _ _ _ _ _ => none) (fun _ ih => DF52c39io1001_1 n ih) m
theorem DL52c39io1001_1_succ (n : Nat × Nat) (m : Nat) : DL52c39io1001_1 n (m + 1) = DF52c39io1001_1 n (DL52c39io1001_1 n m) := rfl
theorem DL52c39io1001_1_eq (n : Nat × Nat) (hn : n.2 = 1) : ∀ m, L52c39io1001_1 n m = DL52c39io1001_1 n m
  | 0 => by funext a1 b2 i8 v1000000000000 v1000000000001; kernel_rfl
  | m + 1 => by
    have ih := DL52c39io1001_1_eq n hn m
    funext a1 b2 i8 v1000000000000 v1000000000001; refine (L52c39io1001_1_eq n m a1 b2 i8 v1000000000000 v1000000000001).trans ?_
    rw [DL52c39io1001_1_succ]
    unfold DF52c39io1001_1
    (try simp only [ih, DL52c39io1001_2_eq n hn, S39_D n hn]) <;> first | with_reducible rfl | rfl
noncomputable def D52c39io1001 (n : Nat × Nat) (data0 : List Int) (a1 : Int) (b2 : Int) (cp_3_0 : List Int) : Option R52c39io1001 :=
    DL52c39io1001_1 n n.1 a1 b2 (wr .i64 (a1 + 1)) data0 cp_3_0
theorem S52c39io1001_D (n : Nat × Nat) (hn : n.2 = 1) : S52c39io1001 n = D52c39io1001 n := by
  funext data0 a1 b2 cp_3_0; refine (S52c39io1001_eq n data0 a1 b2 cp_3_0).trans ?_
  unfold D52c39io1001
  (try simp only [DL52c39io1001_2_eq n hn, DL52c39io1001_1_eq n hn, S39_D n hn]) <;> first | with_reducible rfl | rfl
noncomputable def D53c39io10001 (n : Nat × Nat) (data0 : List Int) (a1 : Int) (m2 : Int) (b3 : Int) (cp_4_0 : List Int) : Option R53c39io10001 := none
theorem S53c39io10001_D (n : Nat × Nat) (hn : n.2 = 1) : S53c39io10001 n = D53c39io10001 n := by funext data0 a1 m2 b3 cp_4_0; exact S53c39io10001_none n data0 a1 m2 b3 cp_4_0
/-D 45c39io101 -/
noncomputable def DF45c39io101_3 (n : Nat × Nat) (f1 : Int → Int → List Int → List Int → Option R45c39io101) (f2 : Int → Int → Int → Int → List Int → List Int → Option R45c39io101) (v1 : Int) (blockSize6 : Int) (a7 : Int) (b8 : Int) (v1000000000000 : List Int) (v1000000000001 : List Int) : Option R45c39io101 :=
 (bif decide (b8 ≤ v1) then (D53c39io10001 n v1000000000000 a7 (wr .i64 (a7 + blockSize6)) b8 v1000000000001).bind fun r3' =>
 (bif Nat.beq r3'.2.1.length v1000000000000.length then f2 v1 blockSize6 b8 (wr .i64 (b8 + (wr .i64 (2 * blockSize6)))) r3'.2.1 r3'.2.2.1
 else none)
 else (bif decide (wr .i64 (a7 + blockSize6) < v1) then (D53c39io10001 n v1000000000000 a7 (wr .i64 (a7 + blockSize6)) v1 v1000000000001).bind fun r4' =>
 (bif Nat.beq r4'.2.1.length v1000000000000.length then f1 v1 (wr .i64 (blockSize6 * 2)) r4'.2.1 r4'.2.2.1
 else none)
 else f1 v1 (wr .i64 (blockSize6 * 2)) v1000000000000 v1000000000001))
noncomputable def DL45c39io101_3 (n : Nat × Nat) (f1 : Int → Int → List Int → List Int → Option R45c39io101) (m : Nat) : Int → Int → Int → Int → List Int → List Int → Option R45c39io101 := Nat.rec (motive := fun _ => Int → Int → Int → Int → List Int → List Int → Option R45c39io101) (fun _ _ _ _ _ _ => none) (fun _ ih => DF45c39io101_3 n f1 ih) m
theorem DL45c39io101_3_succ (n : Nat × Nat) (f1 : Int → Int → List Int → List Int → Option R45c39io101) (m : Nat) : DL45c39io101_3 n f1 (m + 1) = DF45c39io101_3 n f1 (DL45c39io101_3 n f1 m) := rfl
theorem DL45c39io101_3_eq (n : Nat × Nat) (hn : n.2 = 1) (m1 : Nat) : ∀ m, L45c39io101_3 n m1 m = DL45c39io101_3 n (L45c39io101_2 n m1) m
  | 0 => by funext v1 blockSize6 a7 b8 v1000000000000 v1000000000001; kernel_rfl
  | m + 1 => by
    have ih := DL45c39io101_3_eq n hn m1 m
    funext v1 blockSize6 a7 b8 v1000000000000 v1000000000001; refine (L45c39io101_3_eq n m1 m v1 blockSize6 a7 b8 v1000000000000 v1000000000001).trans ?_
    rw [DL45c39io101_3_succ]
    unfold DF45c39io101_3
    (try simp only [ih, S52c39io1001_D n hn, S53c39io10001_D n hn]) <;> first | with_reducible rfl | rfl
noncomputable def DF45c39io101_2 (n : Nat × Nat) (f1 : Int → Int → List Int → List Int → Option R45c39io101) (v1 : Int) (blockSize6 : Int) (v1000000000000 : List Int) (v1000000000001 : List Int) : Option R45c39io101 :=
 (bif decide (blockSize6 < v1) then DL45c39io101_3 n f1 n.1 v1 blockSize6 0 (wr .i64 (2 * blockSize6)) v1000000000000 v1000000000001
 else some ((), v1000000000000, v1000000000001, ()))
noncomputable def DL45c39io101_2 (n : Nat × Nat) (m : Nat) : Int → Int → List Int → List Int → Option R45c39io101 := Nat.rec (motive := fun _ => Int → Int → List Int → List Int → Option R45c39io101) (fun _ _ _ _ => none) (fun _ ih => DF45c39io101_2 n ih) m
theorem DL45c39io101_2_succ (n : Nat × Nat) (m : Nat) : DL45c39io101_2 n (m + 1) = DF45c39io101_2 n (DL45c39io101_2 n m) := rfl
theorem DL45c39io101_2_eq (n : Nat × Nat) (hn : n.2 = 1) : ∀ m, L45c39io101_2 n m = DL45c39io101_2 n m
  | 0 => by funext v1 blockSize6 v1000000000000 v1000000000001; kernel_rfl
  | m + 1 => by
    have ih := DL45c39io101_2_eq n hn m
    funext v1 blockSize6 v1000000000000 v1000000000001; refine (L45c39io101_2_eq n m v1 blockSize6 v1000000000000 v1000000000001).trans ?_
    rw [DL45c39io101_2_succ]
    unfold DF45c39io101_2
    (try simp only [ih, DL45c39io101_3_eq n hn, S52c39io1001_D n hn, S53c39io10001_D n hn]) <;> first | with_reducible rfl | rfl
noncomputable def DF45c39io101_1 (n : Nat × Nat) (f1 : Int → Int → Int → Int → List Int → List Int → Option R45c39io101) (v1 : Int) (blockSize6 : Int) (a7 : Int) (b8 : Int) (v1000000000000 : List Int) (v1000000000001 : List Int) : Option R45c39io101 :=
 (bif decide (b8 ≤ v1) then (D52c39io1001 n v1000000000000 a7 b8 v1000000000001).bind fun r1' =>
 (bif Nat.beq r1'.2.1.length v1000000000000.length then f1 v1 blockSize6 b8 (wr .i64 (b8 + blockSize6)) r1'.2.1 r1'.2.2.1
 else none)
 else (D52c39io1001 n v1000000000000 a7 v1 v1000000000001).bind fun r2' =>
 (bif Nat.beq r2'.2.1.length v1000000000000.length then DL45c39io101_2 n n.1 v1 blockSize6 r2'.2.1 r2'.2.2.1
 else none))
noncomputable def DL45c39io101_1 (n : Nat × Nat) (m : Nat) : Int → Int → Int → Int → List Int → List Int → Option R45c39io101 := Nat.rec (motive := fun _ => Int → Int → Int → Int → List Int → List Int → Option R45c39io101) (fun _ _ _ _ _ _ => none) (fun _ ih => DF45c39io101_1 n ih) m
theorem DL45c39io101_1_succ (n : Nat × Nat) (m : Nat) : DL45c39io101_1 n (m + 1) = DF45c39io101_1 n (DL45c39io101_1 n m) := rfl
theorem DL45c39io101_1_eq (n : Nat × Nat) (hn : n.2 = 1) : ∀ m, L45c39io101_1 n m = DL45c39io101_1 n m
  | 0 => by funext v1 blockSize6 a7 b8 v1000000000000 v1000000000001; kernel_rfl
  | m + 1 => by
    have ih := DL45c39io101_1_eq n hn m
    funext v1 blockSize6 a7 b8 v1000000000000 v1000000000001; refine (L45c39io101_1_eq n m v1 blockSize6 a7 b8 v1000000000000 v1000000000001).trans ?_
    rw [DL45c39io101_1_succ]
    unfold DF45c39io101_1
    (try simp only [ih, DL45c39io101_3_eq n hn, DL45c39io101_2_eq n hn, S52c39io1001_D n hn, S53c39io10001_D n hn]) <;> first | with_reducible rfl | rfl
noncomputable def D45c39io101 (n : Nat × Nat) (data0 : List Int) (v1 : Int) (cp_2_0 : List Int) : Option R45c39io101 :=
    DL45c39io101_1 n n.1 v1 20 0 20 data0 cp_2_0
theorem S45c39io101_D (n : Nat × Nat) (hn : n.2 = 1) : S45c39io101 n = D45c39io101 n := by
  funext data0 v1 cp_2_0; refine (S45c39io101_eq n data0 v1 cp_2_0).trans ?_
  unfold D45c39io101
  (try simp only [DL45c39io101_3_eq n hn, DL45c39io101_2_eq n hn, DL45c39io101_1_eq n hn, S52c39io1001_D n hn, S53c39io10001_D n hn]) <;> first | with_reducible rfl | rfl
/-D 38c39io11 -/
noncomputable def D38c39io11 (n : Nat × Nat) (x0 : List Int) (cp_1_0 : List Int) : Option R38c39io11 :=
 (D45c39io101 n x0 (x0.length : Int) cp_1_0).bind fun r1' =>
 (bif Nat.beq r1'.2.1.length x0.length then some ((), r1'.2.1, r1'.2.2.1, ())
 else none)
theorem S38c39io11_D (n : Nat × Nat) (hn : n.2 = 1) : S38c39io11 n = D38c39io11 n := by
  funext x0 cp_1_0; refine (S38c39io11_eq n x0 cp_1_0).trans ?_
  unfold D38c39io11
  (try simp only [S45c39io101_D n hn]) <;> first | with_reducible rfl | rfl
/-D 24 -/
noncomputable def DF24_1 (n : Nat × Nat) (f1 : Int → Int → List Int → List Int → Option R24) (v9 : Int) (v10 : Int) (pieces1 : List Int) (out3 : List Int) : Option R24 :=
 (bif decide (v10 < v9) then (bif inB v10 out3.length then (idx out3 v10).bind fun x1' =>
        f1 v9 (wr .i64 (v10 + 1)) pieces1 (out3.set (Int.toNat v10) v10)
 else none)
 else (D38c39io11 n out3 pieces1).bind fun r2' =>
 (bif Nat.beq r2'.2.1.length out3.length then some r2'.2.1
 else none))
noncomputable def DL24_1 (n : Nat × Nat) (m : Nat) : Int → Int → List Int → List Int → Option R24 := Nat.rec (motive := fun _ => Int → Int → List Int → List Int → Option R24) (fun _ _ _ _ => none) (fun _ ih => DF24_1 n ih) m
theorem DL24_1_succ (n : Nat × Nat) (m : Nat) : DL24_1 n (m + 1) = DF24_1 n (DL24_1 n m) := rfl
theorem DL24_1_eq (n : Nat × Nat) (hn : n.2 = 1) : ∀ m, L24_1 n m = DL24_1 n m
  | 0 => by funext v9 v10 pieces1 out3; kernel_rfl
  | m + 1 => by
    have ih := DL24_1_eq n hn m
    funext v9 v10 pieces1 out3; refine (L24_1_eq n m v9 v10 pieces1 out3).trans ?_
    rw [DL24_1_succ]
    unfold DF24_1
    (try simp only [ih, S38c39io11_D n hn]) <;> first | with_reducible rfl | rfl
noncomputable def D24 (n : Nat × Nat) (pieces0 : List Int) : Option R24 :=
 (bif decide (0 ≤ (pieces0.length : Int)) && decide ((pieces0.length : Int) ≤ (pieces0.length : Int)) && decide ((pieces0.length : Int) ≤ lim) then DL24_1 n n.1 ((List.replicate (Int.toNat (pieces0.length : Int)) (0 : Int)).length : Int) 0 pieces0 (List.replicate (Int.toNat (pieces0.length : Int)) (0 : Int))
 else none)
theorem S24_D (n : Nat × Nat) (hn : n.2 = 1) : S24 n = D24 n := by
  funext pieces0; refine (S24_eq n pieces0).trans ?_
  unfold D24
  (try simp only [DL24_1_eq n hn, S38c39io11_D n hn]) <;> first | with_reducible rfl | rfl
/-D 9 -/
noncomputable def DF9_1 (n : Nat × Nat) (f1 : Int → List Int → Int → Int → List Int → Option R9) (size0 : Int) (pieces1 : List Int) (v17 : Int) (v18 : Int) (v16 : List Int) : Option R9 :=
 (bif decide (v18 < v17) then (bif inB v18 v16.length then (idx v16 v18).bind fun x3' =>
 (idx ([0, 2, 6, 10, 22, 34, 78, 130, 278, 522, 1062, 2050, 4190, 8194, 16518, 32810, 65814, 131074, 262734, 524290, 1049654, 2097290, 4196358, 8388610, 16781662] : List Int) size0).bind fun x4' =>
 (idx pieces1 x3').bind fun x5' =>
 (bif decide (x5' < 0) then none
 else (bif ((wr .u32 (BitVec.ofInt (IntKind.bits .u32) (Int.fdiv x4' (2 ^ (min (Int.toNat x5') (IntKind.bits .u32)))) &&& BitVec.ofInt (IntKind.bits .u32) 1).toNat) == 0) then some (false, 0)
 else (idx pieces1 x3').bind fun x6' =>
            f1 x6' pieces1 v17 (wr .i64 (v18 + 1)) v16))
 else none)
 else some (true, 0))
noncomputable def DL9_1 (n : Nat × Nat) (m : Nat) : Int → List Int → Int → Int → List Int → Option R9 := Nat.rec (motive := fun _ => Int → List Int → Int → Int → List Int → Option R9) (fun _ _ _ _ _ => none) (fun _ ih => DF9_1 n ih) m
theorem DL9_1_succ (n : Nat × Nat) (m : Nat) : DL9_1 n (m + 1) = DF9_1 n (DL9_1 n m) := rfl
theorem DL9_1_eq (n : Nat × Nat) (hn : n.2 = 1) : ∀ m, L9_1 n m = DL9_1 n m
  | 0 => by funext size0 pieces1 v17 v18 v16; kernel_rfl
  | m + 1 => by
    have ih := DL9_1_eq n hn m
    funext size0 pieces1 v17 v18 v16; refine (L9_1_eq n m size0 pieces1 v17 v18 v16).trans ?_
    rw [DL9_1_succ]
    unfold DF9_1
    (try simp only [ih, S22_D n hn, S24_D n hn]) <;> first | with_reducible rfl | rfl
noncomputable def D9 (n : Nat × Nat) (size0 : Int) (pieces1 : List Int) : Option R9 :=
 (D22 n size0 pieces1).bind fun r1' =>
 (bif (r1' != 0) then some (false, r1')
 else (D24 n pieces1).bind fun r2' =>
      DL9_1 n n.1 size0 pieces1 (r2'.length : Int) 0 r2')
theorem S9_D (n : Nat × Nat) (hn : n.2 = 1) : S9 n = D9 n := by
  funext size0 pieces1; refine (S9_eq n size0 pieces1).trans ?_
  unfold D9
  (try simp only [DL9_1_eq n hn, S22_D n hn, S24_D n hn]) <;> first | with_reducible rfl | rfl
/-D 10 -/
noncomputable def D10 (n : Nat × Nat) (size0 : Int) (pieces1 : List Int) : Option R10 :=
 (D22 n size0 pieces1).bind fun r1' =>
 (bif (r1' != 0) then some ([], r1')
 else (D24 n pieces1).bind fun r2' =>
 some (r2', 0))
theorem S10_D (n : Nat × Nat) (hn : n.2 = 1) : S10 n = D10 n := by
  funext size0 pieces1; refine (S10_eq n size0 pieces1).trans ?_
  unfold D10
  (try simp only [S22_D n hn, S24_D n hn]) <;> first | with_reducible rfl | rfl
/-D 18 -/
noncomputable def DF18_1 (n : Nat × Nat) (f1 : (List (Int × Int)) → Int → Int → (List (Int × Int)) → Int → Int → Option R18) (v16 : List (Int × Int)) (v17 : Int) (v18 : Int) (b1_0 : List (Int × Int)) (b1_1 : Int) (b1_2 : Int) : Option R18 :=
 (bif decide (v18 < v17) then (idx v16 v18).bind fun x1' =>
 ((bif (decide ((if x1'.2 < x1'.1 then x1'.2 else x1'.1) < 1) == false) then some (decide ((if x1'.2 > x1'.1 then x1'.2 else x1'.1) > 30))
 else some true)).bind fun b2' =>
 (bif b2' then some 1
 else (bif decide (x1'.1 > x1'.2) then some 7
 else f1 v16 v17 (wr .i64 (v18 + 1)) b1_0 b1_1 b1_2))
 else ((bif (decide (b1_1 < 1) == false) then some (decide (b1_1 > 100))
 else some true)).bind fun b3' =>
 ((bif (b3' == false) then some (decide (b1_2 < 0))
 else some true)).bind fun b4' =>
 ((bif (b4' == false) then some (decide (b1_2 > b1_1))
 else some true)).bind fun b5' =>
 (bif b5' then some 1
 else some 0))
noncomputable def DL18_1 (n : Nat × Nat) (m : Nat) : (List (Int × Int)) → Int → Int → (List (Int × Int)) → Int → Int → Option R18 := Nat.rec (motive := fun _ => (List (Int × Int)) → Int → Int → (List (Int × Int)) → Int → Int → Option R18) (fun _ _ _ _ _ _ => none) (fun _ ih => DF18_1 n ih) m
theorem DL18_1_succ (n : Nat × Nat) (m : Nat) : DL18_1 n (m + 1) = DF18_1 n (DL18_1 n m) := rfl
theorem DL18_1_eq (n : Nat × Nat) (hn : n.2 = 1) : ∀ m, L18_1 n m = DL18_1 n m
  | 0 => by funext v16 v17 v18 b1_0 b1_1 b1_2; kernel_rfl
  | m + 1 => by
    have ih := DL18_1_eq n hn m
    funext v16 v17 v18 b1_0 b1_1 b1_2; refine (L18_1_eq n m v16 v17 v18 b1_0 b1_1 b1_2).trans ?_
    rw [DL18_1_succ]
    unfold DF18_1
    (try simp only [ih]) <;> first | with_reducible rfl | rfl
noncomputable def D18 (n : Nat × Nat) (b0 : (List (Int × Int)) × Int × Int) : Option R18 :=
 (bif ((b0.1.length : Int) == 0) then some 4
 else (bif decide ((b0.1.length : Int) > 12) then some 3
 else DL18_1 n n.1 b0.1 (b0.1.length : Int) 0 b0.1 b0.2.1 b0.2.2))
theorem S18_D (n : Nat × Nat) (hn : n.2 = 1) : S18 n = D18 n := by
  funext b0; refine (S18_eq n b0).trans ?_
  unfold D18
  (try simp only [DL18_1_eq n hn]) <;> first | with_reducible rfl | rfl
/-D 20 -/
noncomputable def D20 (n : Nat × Nat) (a0 : Int × Int) : Option R20 :=
 some a0.2
theorem S20_D (n : Nat × Nat) (hn : n.2 = 1) : S20 n = D20 n := by
  funext a0; refine (S20_eq n a0).trans ?_
  unfold D20
  first | with_reducible rfl | rfl
/-D 19c20 -/
noncomputable def DF19c20_1 (n : Nat × Nat) (f1 : (List (Int × Int)) → Int → Int → List Int → Option R19c20) (v10 : List (Int × Int)) (v11 : Int) (v12 : Int) (out5 : List Int) : Option R19c20 :=
 (bif decide (v12 < v11) then (idx v10 v12).bind fun x1' =>
 (bif inB (wr .i64 ((out5.length : Int) - 1)) out5.length then (idx out5 (wr .i64 ((out5.length : Int) - 1))).bind fun x2' =>
 (D20 n x1').bind fun r3' =>
 (bif decide (out5.length + [wr .i64 (x2' + r3')].length ≤ lim) then f1 v10 v11 (wr .i64 (v12 + 1)) (out5 ++ [wr .i64 (x2' + r3')])
 else none)
 else none)
 else some out5)
noncomputable def DL19c20_1 (n : Nat × Nat) (m : Nat) : (List (Int × Int)) → Int → Int → List Int → Option R19c20 := Nat.rec (motive := fun _ => (List (Int × Int)) → Int → Int → List Int → Option R19c20) (fun _ _ _ _ => none) (fun _ ih => DF19c20_1 n ih) m
theorem DL19c20_1_succ (n : Nat × Nat) (m : Nat) : DL19c20_1 n (m + 1) = DF19c20_1 n (DL19c20_1 n m) := rfl
theorem DL19c20_1_eq (n : Nat × Nat) (hn : n.2 = 1) : ∀ m, L19c20_1 n m = DL19c20_1 n m
  | 0 => by funext v10 v11 v12 out5; kernel_rfl
  | m + 1 => by
    have ih := DL19c20_1_eq n hn m
    funext v10 v11 v12 out5; refine (L19c20_1_eq n m v10 v11 v12 out5).trans ?_
    rw [DL19c20_1_succ]
    unfold DF19c20_1
    (try simp only [ih, S20_D n hn]) <;> first | with_reducible rfl | rfl
noncomputable def D19c20 (n : Nat × Nat) (b0 : (List (Int × Int)) × Int × Int) : Option R19c20 :=
    DL19c20_1 n n.1 b0.1 (b0.1.length : Int) 0 [0]
theorem S19c20_D (n : Nat × Nat) (hn : n.2 = 1) : S19c20 n = D19c20 n := by
  funext b0; refine (S19c20_eq n b0).trans ?_
  unfold D19c20
  (try simp only [DL19c20_1_eq n hn, S20_D n hn]) <;> first | with_reducible rfl | rfl
/-D 33 -/
noncomputable def D33 (n : Nat × Nat) (l0 : List Int) (begin1 : Int) (v2 : Int) : Option R33 :=
 (idx l0 v2).bind fun x1' =>
 (idx l0 begin1).bind fun x2' =>
 some (wr .i64 (x1' - x2'))
theorem S33_D (n : Nat × Nat) (hn : n.2 = 1) : S33 n = D33 n := by
  funext l0 begin1 v2; refine (S33_eq n l0 begin1 v2).trans ?_
  unfold D33
  first | with_reducible rfl | rfl
/-D 21 -/
noncomputable def DL21_2 (n : Nat × Nat) (f1 : List Int → Int → Int → Int → List Int → Option R21) (l0 : List Int) (room1 : Int) (begin6 : Int) (v7 : Int) (out5 : List Int) : Option R21 :=
    f1 l0 room1 begin6 (wr .i64 (v7 + 1)) out5
theorem DL21_2_eq (n : Nat × Nat) (hn : n.2 = 1) (m1 : Nat) : L21_2 n m1 = DL21_2 n (L21_1 n m1) := by
  funext l0 room1 begin6 v7 out5; refine ((held_eq hn _).trans (L21_2_raw n m1 l0 room1 begin6 v7 out5)).trans ?_
  unfold DL21_2
  (try simp only [S33_D n hn]) <;> first | with_reducible rfl | rfl
noncomputable def DF21_1 (n : Nat × Nat) (f1 : List Int → Int → Int → Int → List Int → Option R21) (l0 : List Int) (room1 : Int) (begin6 : Int) (v7 : Int) (out5 : List Int) : Option R21 :=
 (bif decide (v7 < (l0.length : Int)) then (D33 n l0 (wr .i64 (v7 - 1)) v7).bind fun r1' =>
 (bif decide (r1' > room1) then some []
 else (D33 n l0 begin6 v7).bind fun r2' =>
 (bif decide (r2' > room1) then (bif decide (out5.length + [wr .i64 (v7 - 1)].length ≤ lim) then DL21_2 n f1 l0 room1 (wr .i64 (v7 - 1)) v7 (out5 ++ [wr .i64 (v7 - 1)])
 else none)
 else DL21_2 n f1 l0 room1 begin6 v7 out5))
 else (bif decide (out5.length + [wr .i64 ((l0.length : Int) - 1)].length ≤ lim) then some (out5 ++ [wr .i64 ((l0.length : Int) - 1)])
 else none))
noncomputable def DL21_1 (n : Nat × Nat) (m : Nat) : List Int → Int → Int → Int → List Int → Option R21 := Nat.rec (motive := fun _ => List Int → Int → Int → Int → List Int → Option R21) (fun _ _ _ _ _ => none) (fun _ ih => DF21_1 n ih) m
theorem DL21_1_succ (n : Nat × Nat) (m : Nat) : DL21_1 n (m + 1) = DF21_1 n (DL21_1 n m) := rfl
theorem DL21_1_eq (n : Nat × Nat) (hn : n.2 = 1) : ∀ m, L21_1 n m = DL21_1 n m
  | 0 => by funext l0 room1 begin6 v7 out5; kernel_rfl
  | m + 1 => by
    have ih := DL21_1_eq n hn m
    funext l0 room1 begin6 v7 out5; refine (L21_1_eq n m l0 room1 begin6 v7 out5).trans ?_
    rw [DL21_1_succ]
    unfold DF21_1
    (try simp only [ih, DL21_2_eq n hn, S33_D n hn]) <;> first | with_reducible rfl | rfl
noncomputable def D21 (n : Nat × Nat) (l0 : List Int) (room1 : Int) : Option R21 :=
    DL21_1 n n.1 l0 room1 0 1 []
theorem S21_D (n : Nat × Nat) (hn : n.2 = 1) : S21 n = D21 n := by
  funext l0 room1; refine (S21_eq n l0 room1).trans ?_
  unfold D21
  (try simp only [DL21_2_eq n hn, DL21_1_eq n hn, S33_D n hn]) <;> first | with_reducible rfl | rfl
/-D 7 -/
noncomputable def D7 (n : Nat × Nat) (b0 : (List (Int × Int)) × Int × Int) : Option R7 :=
 (D18 n b0).bind fun r1' =>
 (bif (r1' != 0) then some ([], r1')
 else (D19c20 n b0).bind fun r2' =>
 (D21 n r2' b0.2.1).bind fun r3' =>
 (bif r3'.isEmpty then some ([], 12)
 else some (r3', 0)))
theorem S7_D (n : Nat × Nat) (hn : n.2 = 1) : S7 n = D7 n := by
  funext b0; refine (S7_eq n b0).trans ?_
  unfold D7
  (try simp only [S18_D n hn, S19c20_D n hn, S21_D n hn]) <;> first | with_reducible rfl | rfl
/-D 6 -/
noncomputable def DF6_1 (n : Nat × Nat) (f1 : List Int → Int → Int → Int → Int → (List (Int × Int)) → Option R6) (v11 : List Int) (v12 : Int) (v13 : Int) (b4_1 : Int) (b4_2 : Int) (v500169999 : List (Int × Int)) : Option R6 :=
 (bif decide (v13 < v12) then (idx v11 v13).bind fun x1' =>
 (bif decide (v500169999.length + [(x1', x1')].length ≤ lim) then f1 v11 v12 (wr .i64 (v13 + 1)) b4_1 b4_2 (v500169999 ++ [(x1', x1')])
 else none)
 else (D7 n (v500169999, b4_1, b4_2)).bind fun r2' =>
 (bif (r2'.2 != 0) then some (-1)
 else some (r2'.1.length : Int)))
noncomputable def DL6_1 (n : Nat × Nat) (m : Nat) : List Int → Int → Int → Int → Int → (List (Int × Int)) → Option R6 := Nat.rec (motive := fun _ => List Int → Int → Int → Int → Int → (List (Int × Int)) → Option R6) (fun _ _ _ _ _ _ => none) (fun _ ih => DF6_1 n ih) m
theorem DL6_1_succ (n : Nat × Nat) (m : Nat) : DL6_1 n (m + 1) = DF6_1 n (DL6_1 n m) := rfl
theorem DL6_1_eq (n : Nat × Nat) (hn : n.2 = 1) : ∀ m, L6_1 n m = DL6_1 n m
  | 0 => by funext v11 v12 v13 b4_1 b4_2 v500169999; kernel_rfl
  | m + 1 => by
    have ih := DL6_1_eq n hn m
    funext v11 v12 v13 b4_1 b4_2 v500169999; refine (L6_1_eq n m v11 v12 v13 b4_1 b4_2 v500169999).trans ?_
    rw [DL6_1_succ]
    unfold DF6_1
    (try simp only [ih, S7_D n hn]) <;> first | with_reducible rfl | rfl
noncomputable def D6 (n : Nat × Nat) (l0 : List Int) (v1 : Int) : Option R6 :=
    DL6_1 n n.1 l0 (l0.length : Int) 0 v1 0 []
theorem S6_D (n : Nat × Nat) (hn : n.2 = 1) : S6 n = D6 n := by
  funext l0 v1; refine (S6_eq n l0 v1).trans ?_
  unfold D6
  (try simp only [DL6_1_eq n hn, S7_D n hn]) <;> first | with_reducible rfl | rfl
/-D 25 -/
noncomputable def DF25_1 (n : Nat × Nat) (f1 : Int → Int → Int → List Int → Option R25) (volumes1 : Int) (low8 : Int) (high9 : Int) (l7 : List Int) : Option R25 :=
 (bif decide (low8 < high9) then (bif 2 == 0 then none
 else (D21 n l7 (wr .i64 (Int.tdiv (wr .i64 (low8 + high9)) 2))).bind fun r5' =>
 ((bif ((!r5'.isEmpty) == true) then some (decide ((r5'.length : Int) ≤ volumes1))
 else some false)).bind fun b6' =>
 (bif b6' then f1 volumes1 low8 (wr .i64 (Int.tdiv (wr .i64 (low8 + high9)) 2)) l7
 else f1 volumes1 (wr .i64 ((wr .i64 (Int.tdiv (wr .i64 (low8 + high9)) 2)) + 1)) high9 l7))
 else some (low8, 0))
noncomputable def DL25_1 (n : Nat × Nat) (m : Nat) : Int → Int → Int → List Int → Option R25 := Nat.rec (motive := fun _ => Int → Int → Int → List Int → Option R25) (fun _ _ _ _ => none) (fun _ ih => DF25_1 n ih) m
theorem DL25_1_succ (n : Nat × Nat) (m : Nat) : DL25_1 n (m + 1) = DF25_1 n (DL25_1 n m) := rfl
theorem DL25_1_eq (n : Nat × Nat) (hn : n.2 = 1) : ∀ m, L25_1 n m = DL25_1 n m
  | 0 => by funext volumes1 low8 high9 l7; kernel_rfl
  | m + 1 => by
    have ih := DL25_1_eq n hn m
    funext volumes1 low8 high9 l7; refine (L25_1_eq n m volumes1 low8 high9 l7).trans ?_
    rw [DL25_1_succ]
    unfold DF25_1
    (try simp only [ih, S18_D n hn, S19c20_D n hn, S21_D n hn]) <;> first | with_reducible rfl | rfl
noncomputable def D25 (n : Nat × Nat) (b0 : (List (Int × Int)) × Int × Int) (volumes1 : Int) : Option R25 :=
 (D18 n b0).bind fun r1' =>
 (bif (r1' != 0) then some (0, r1')
 else ((bif (decide (volumes1 < 1) == false) then some (decide (volumes1 > (b0.1.length : Int)))
 else some true)).bind fun b2' =>
 (bif b2' then some (0, 1)
 else (D19c20 n b0).bind fun r3' =>
 (bif inB (wr .i64 ((r3'.length : Int) - 1)) r3'.length then (idx r3' (wr .i64 ((r3'.length : Int) - 1))).bind fun x4' =>
          DL25_1 n n.1 volumes1 1 x4' r3'
 else none)))
theorem S25_D (n : Nat × Nat) (hn : n.2 = 1) : S25 n = D25 n := by
  funext b0 volumes1; refine (S25_eq n b0 volumes1).trans ?_
  unfold D25
  (try simp only [DL25_1_eq n hn, S18_D n hn, S19c20_D n hn, S21_D n hn]) <;> first | with_reducible rfl | rfl
/-D 46 -/
noncomputable def DF46_1 (n : Nat × Nat) (f1 : (List (Int × Int)) → Int → Int → Option R46) (v13 : List (Int × Int)) (v14 : Int) (v15 : Int) : Option R46 :=
 (bif decide (v15 < v14) then (idx v13 v15).bind fun x1' =>
 ((bif (decide (x1'.1 < 0) == false) then some (decide (x1'.1 > 100))
 else some true)).bind fun b2' =>
 ((bif (b2' == false) then some (decide (x1'.2 < 1))
 else some true)).bind fun b3' =>
 ((bif (b3' == false) then some (decide (x1'.2 > 9))
 else some true)).bind fun b4' =>
 (bif b4' then some 1
 else f1 v13 v14 (wr .i64 (v15 + 1)))
 else some 0)
noncomputable def DL46_1 (n : Nat × Nat) (m : Nat) : (List (Int × Int)) → Int → Int → Option R46 := Nat.rec (motive := fun _ => (List (Int × Int)) → Int → Int → Option R46) (fun _ _ _ => none) (fun _ ih => DF46_1 n ih) m
theorem DL46_1_succ (n : Nat × Nat) (m : Nat) : DL46_1 n (m + 1) = DF46_1 n (DL46_1 n m) := rfl
theorem DL46_1_eq (n : Nat × Nat) (hn : n.2 = 1) : ∀ m, L46_1 n m = DL46_1 n m
  | 0 => by funext v13 v14 v15; kernel_rfl
  | m + 1 => by
    have ih := DL46_1_eq n hn m
    funext v13 v14 v15; refine (L46_1_eq n m v13 v14 v15).trans ?_
    rw [DL46_1_succ]
    unfold DF46_1
    (try simp only [ih]) <;> first | with_reducible rfl | rfl
noncomputable def D46 (n : Nat × Nat) (l0 : List (Int × Int)) : Option R46 :=
 (bif ((l0.length : Int) == 0) then some 4
 else (bif decide ((l0.length : Int) > 8) then some 3
 else DL46_1 n n.1 l0 (l0.length : Int) 0))
theorem S46_D (n : Nat × Nat) (hn : n.2 = 1) : S46 n = D46 n := by
  funext l0; refine (S46_eq n l0).trans ?_
  unfold D46
  (try simp only [DL46_1_eq n hn]) <;> first | with_reducible rfl | rfl
/-D 62 -/
noncomputable def D62 (n : Nat × Nat) (x0 : Int) : Option R62 :=
 some (x0 != x0)
theorem S62_D (n : Nat × Nat) (hn : n.2 = 1) : S62 n = D62 n := by
  funext x0; refine (S62_eq n x0).trans ?_
  unfold D62
  first | with_reducible rfl | rfl
/-D 54 -/
noncomputable def D54 (n : Nat × Nat) (x0 : Int) (y1 : Int) : Option R54 :=
 (D62 n x0).bind fun r1' =>
 (D62 n y1).bind fun r2' =>
 (bif r1' then (bif r2' then some 0
 else some (-1))
 else (bif r2' then some 1
 else (bif decide (x0 < y1) then some (-1)
 else (bif decide (x0 > y1) then some 1
 else some 0))))
theorem S54_D (n : Nat × Nat) (hn : n.2 = 1) : S54 n = D54 n := by
  funext x0 y1; refine (S54_eq n x0 y1).trans ?_
  unfold D54
  (try simp only [S62_D n hn]) <;> first | with_reducible rfl | rfl
/-D 47 -/
noncomputable def DF47_1 (n : Nat × Nat) (f1 : List Int → List Int → List Int → Int → Int → Option R47) (s10 : List Int) (s21 : List Int) (v9 : List Int) (v10 : Int) (v11 : Int) : Option R47 :=
 (bif decide (v11 < v10) then (idx v9 v11).bind fun x1' =>
 (bif decide (v11 ≥ (s21.length : Int)) then some 1
 else (idx s21 v11).bind fun x2' =>
 (D54 n x1' x2').bind fun r3' =>
 (bif (r3' != 0) then some r3'
 else f1 s10 s21 v9 v10 (wr .i64 (v11 + 1))))
 else (bif decide ((s10.length : Int) < (s21.length : Int)) then some (-1)
 else some 0))
noncomputable def DL47_1 (n : Nat × Nat) (m : Nat) : List Int → List Int → List Int → Int → Int → Option R47 := Nat.rec (motive := fun _ => List Int → List Int → List Int → Int → Int → Option R47) (fun _ _ _ _ _ => none) (fun _ ih => DF47_1 n ih) m
theorem DL47_1_succ (n : Nat × Nat) (m : Nat) : DL47_1 n (m + 1) = DF47_1 n (DL47_1 n m) := rfl
theorem DL47_1_eq (n : Nat × Nat) (hn : n.2 = 1) : ∀ m, L47_1 n m = DL47_1 n m
  | 0 => by funext s10 s21 v9 v10 v11; kernel_rfl
  | m + 1 => by
    have ih := DL47_1_eq n hn m
    funext s10 s21 v9 v10 v11; refine (L47_1_eq n m s10 s21 v9 v10 v11).trans ?_
    rw [DL47_1_succ]
    unfold DF47_1
    (try simp only [ih, S54_D n hn]) <;> first | with_reducible rfl | rfl
noncomputable def D47 (n : Nat × Nat) (s10 : List Int) (s21 : List Int) : Option R47 :=
    DL47_1 n n.1 s10 s21 s10 (s10.length : Int) 0
theorem S47_D (n : Nat × Nat) (hn : n.2 = 1) : S47 n = D47 n := by
  funext s10 s21; refine (S47_eq n s10 s21).trans ?_
  unfold D47
  (try simp only [DL47_1_eq n hn, S54_D n hn]) <;> first | with_reducible rfl | rfl
/-D 40 -/
noncomputable def DL40_3 (n : Nat × Nat) (f1 : (List (Int × Int)) → Int → Int → List Int → Option R40) (f2 : (List (Int × Int)) → Int → Int → Bool → Int → Int → (List (Int × Int)) → Int → Int → List Int → List Int → Option R40) (l0 : List (Int × Int)) (v6 : Int) (v8 : Int) (good9 : Bool) (v19 : Int) (v20 : Int) (v23 : List (Int × Int)) (v24 : Int) (v25 : Int) (best5 : List Int) (out7 : List Int) : Option R40 :=
    f2 l0 v6 v8 good9 v19 v20 v23 v24 (wr .i64 (v25 + 1)) best5 out7
theorem DL40_3_eq (n : Nat × Nat) (hn : n.2 = 1) (m1 m2 : Nat) : L40_3 n m1 m2 = DL40_3 n (L40_1 n m1) (L40_2 n m1 m2) := by
  funext l0 v6 v8 good9 v19 v20 v23 v24 v25 best5 out7; refine ((held_eq hn _).trans (L40_3_raw n m1 m2 l0 v6 v8 good9 v19 v20 v23 v24 v25 best5 out7)).trans ?_
  unfold DL40_3
  (try simp only [S46_D n hn, S47_D n hn]) <;> first | with_reducible rfl | rfl
noncomputable def DL40_4 (n : Nat × Nat) (f1 : (List (Int × Int)) → Int → Int → List Int → Option R40) (l0 : List (Int × Int)) (v19 : Int) (v20 : Int) (best5 : List Int) : Option R40 :=
    f1 l0 v19 (wr .i64 (v20 + 1)) best5
theorem DL40_4_eq (n : Nat × Nat) (hn : n.2 = 1) (m1 : Nat) : L40_4 n m1 = DL40_4 n (L40_1 n m1) := by
  funext l0 v19 v20 best5; refine ((held_eq hn _).trans (L40_4_raw n m1 l0 v19 v20 best5)).trans ?_
  unfold DL40_4
  (try simp only [DL40_3_eq n hn, S46_D n hn, S47_D n hn]) <;> first | with_reducible rfl | rfl
noncomputable def DF40_2 (n : Nat × Nat) (f1 : (List (Int × Int)) → Int → Int → List Int → Option R40) (f2 : (List (Int × Int)) → Int → Int → Bool → Int → Int → (List (Int × Int)) → Int → Int → List Int → List Int → Option R40) (l0 : List (Int × Int)) (v6 : Int) (v8 : Int) (good9 : Bool) (v19 : Int) (v20 : Int) (v23 : List (Int × Int)) (v24 : Int) (v25 : Int) (best5 : List Int) (out7 : List Int) : Option R40 :=
 (bif decide (v25 < v24) then (idx v23 v25).bind fun x2' =>
 (bif decide (v25 < 0) then none
 else (bif ((wr .i64 (BitVec.ofInt (IntKind.bits .i64) (Int.fdiv v6 (2 ^ (min (Int.toNat v25) (IntKind.bits .i64)))) &&& BitVec.ofInt (IntKind.bits .i64) 1).toNat) == 1) then (bif decide (out7.length + [v25].length ≤ lim) then DL40_3 n f1 f2 l0 v6 v8 good9 v19 v20 v23 v24 v25 best5 (out7 ++ [v25])
 else none)
 else ((bif (good9 == true) then some (decide (x2'.1 ≥ v8))
 else some false)).bind fun b3' =>
          DL40_3 n f1 f2 l0 v6 x2'.1 b3' v19 v20 v23 v24 v25 best5 out7))
 else ((bif (good9 == true) then ((bif (best5.isEmpty == false) then some (decide ((out7.length : Int) < (best5.length : Int)))
 else some true)).bind fun b4' =>
 ((bif (b4' == false) then ((bif (((out7.length : Int) == (best5.length : Int)) == true) then (D47 n out7 best5).bind fun r5' =>
 some (decide (r5' < 0))
 else some false)).bind fun b6' =>
 some b6'
 else some true)).bind fun b7' =>
 some b7'
 else some false)).bind fun b8' =>
 (bif b8' then (bif out7.isEmpty then some ([], 0)
 else DL40_4 n f1 l0 v19 v20 out7)
 else DL40_4 n f1 l0 v19 v20 best5))
noncomputable def DL40_2 (n : Nat × Nat) (f1 : (List (Int × Int)) → Int → Int → List Int → Option R40) (m : Nat) : (List (Int × Int)) → Int → Int → Bool → Int → Int → (List (Int × Int)) → Int → Int → List Int → List Int → Option R40 := Nat.rec (motive := fun _ => (List (Int × Int)) → Int → Int → Bool → Int → Int → (List (Int × Int)) → Int → Int → List Int → List Int → Option R40) (fun _ _ _ _ _ _ _ _ _ _ _ => none) (fun _ ih => DF40_2 n f1 ih) m
theorem DL40_2_succ (n : Nat × Nat) (f1 : (List (Int × Int)) → Int → Int → List Int → Option R40) (m : Nat) : DL40_2 n f1 (m + 1) = DF40_2 n f1 (DL40_2 n f1 m) := rfl
theorem DL40_2_eq (n : Nat × Nat) (hn : n.2 = 1) (m1 : Nat) : ∀ m, L40_2 n m1 m = DL40_2 n (L40_1 n m1) m
  | 0 => by funext l0 v6 v8 good9 v19 v20 v23 v24 v25 best5 out7; kernel_rfl
  | m + 1 => by
    have ih := DL40_2_eq n hn m1 m
    funext l0 v6 v8 good9 v19 v20 v23 v24 v25 best5 out7; refine (L40_2_eq n m1 m l0 v6 v8 good9 v19 v20 v23 v24 v25 best5 out7).trans ?_
    rw [DL40_2_succ]
    unfold DF40_2
    (try simp only [ih, DL40_3_eq n hn, DL40_4_eq n hn, S46_D n hn, S47_D n hn]) <;> first | with_reducible rfl | rfl
noncomputable def DF40_1 (n : Nat × Nat) (f1 : (List (Int × Int)) → Int → Int → List Int → Option R40) (l0 : List (Int × Int)) (v19 : Int) (v20 : Int) (best5 : List Int) : Option R40 :=
 (bif decide (v20 < v19) then DL40_2 n f1 n.1 l0 v20 (-1) true v19 v20 l0 (l0.length : Int) 0 best5 []
 else some (best5, 0))
noncomputable def DL40_1 (n : Nat × Nat) (m : Nat) : (List (Int × Int)) → Int → Int → List Int → Option R40 := Nat.rec (motive := fun _ => (List (Int × Int)) → Int → Int → List Int → Option R40) (fun _ _ _ _ => none) (fun _ ih => DF40_1 n ih) m
theorem DL40_1_succ (n : Nat × Nat) (m : Nat) : DL40_1 n (m + 1) = DF40_1 n (DL40_1 n m) := rfl
theorem DL40_1_eq (n : Nat × Nat) (hn : n.2 = 1) : ∀ m, L40_1 n m = DL40_1 n m
  | 0 => by funext l0 v19 v20 best5; kernel_rfl
  | m + 1 => by
    have ih := DL40_1_eq n hn m
    funext l0 v19 v20 best5; refine (L40_1_eq n m l0 v19 v20 best5).trans ?_
    rw [DL40_1_succ]
    unfold DF40_1
    (try simp only [ih, DL40_3_eq n hn, DL40_4_eq n hn, DL40_2_eq n hn, S46_D n hn, S47_D n hn]) <;> first | with_reducible rfl | rfl
noncomputable def D40 (n : Nat × Nat) (l0 : List (Int × Int)) : Option R40 :=
 (D46 n l0).bind fun r1' =>
 (bif (r1' != 0) then some ([], r1')
 else (bif decide ((l0.length : Int) < 0) then none
 else DL40_1 n n.1 l0 (wr .i64 (1 * 2 ^ (min (Int.toNat (l0.length : Int)) (IntKind.bits .i64)))) 0 []))
theorem S40_D (n : Nat × Nat) (hn : n.2 = 1) : S40 n = D40 n := by
  funext l0; refine (S40_eq n l0).trans ?_
  unfold D40
  (try simp only [DL40_3_eq n hn, DL40_4_eq n hn, DL40_2_eq n hn, DL40_1_eq n hn, S46_D n hn, S47_D n hn]) <;> first | with_reducible rfl | rfl
/-D 16 -/
noncomputable def DF16_1 (n : Nat × Nat) (f1 : List Int → List Int → Int → Int → Option R16) (a0 : List Int) (b1 : List Int) (v12 : Int) (v13 : Int) : Option R16 :=
 (bif decide (v13 < v12) then (idx a0 v13).bind fun x1' =>
 (idx b1 v13).bind fun x2' =>
 (bif (x1' != x2') then some false
 else f1 a0 b1 v12 (wr .i64 (v13 + 1)))
 else some true)
noncomputable def DL16_1 (n : Nat × Nat) (m : Nat) : List Int → List Int → Int → Int → Option R16 := Nat.rec (motive := fun _ => List Int → List Int → Int → Int → Option R16) (fun _ _ _ _ => none) (fun _ ih => DF16_1 n ih) m
theorem DL16_1_succ (n : Nat × Nat) (m : Nat) : DL16_1 n (m + 1) = DF16_1 n (DL16_1 n m) := rfl
theorem DL16_1_eq (n : Nat × Nat) (hn : n.2 = 1) : ∀ m, L16_1 n m = DL16_1 n m
  | 0 => by funext a0 b1 v12 v13; kernel_rfl
  | m + 1 => by
    have ih := DL16_1_eq n hn m
    funext a0 b1 v12 v13; refine (L16_1_eq n m a0 b1 v12 v13).trans ?_
    rw [DL16_1_succ]
    unfold DF16_1
    (try simp only [ih]) <;> first | with_reducible rfl | rfl
noncomputable def D16 (n : Nat × Nat) (a0 : List Int) (b1 : List Int) : Option R16 :=
 (bif ((a0.length : Int) != (b1.length : Int)) then some false
 else DL16_1 n n.1 a0 b1 (a0.length : Int) 0)
theorem S16_D (n : Nat × Nat) (hn : n.2 = 1) : S16 n = D16 n := by
  funext a0 b1; refine (S16_eq n a0 b1).trans ?_
  unfold D16
  (try simp only [DL16_1_eq n hn]) <;> first | with_reducible rfl | rfl
/-D 48 -/
noncomputable def D48 (n : Nat × Nat) (j0 : Int × List Int) : Option R48 := HF48 j0
theorem S48_D (n : Nat × Nat) (hn : n.2 = 1) : S48 n = D48 n := by unfold S48 D48; rfl
/-D 85 -/
noncomputable def DF85_1 (n : Nat × Nat) (f1 : (List (Int × Int)) → Int → Int → Int → Int → Option R85) (s0 : List (Int × Int)) (v7 : Int) (v8 : Int) (v3_0 : Int) (v3_1 : Int) : Option R85 :=
 (bif decide (v8 < v7) then (idx s0 v8).bind fun x1' =>
 (bif ((v3_0 == x1'.1) && ((v3_1 == x1'.2) && true)) then some v8
 else f1 s0 v7 (wr .i64 (v8 + 1)) v3_0 v3_1)
 else some (-1))
noncomputable def DL85_1 (n : Nat × Nat) (m : Nat) : (List (Int × Int)) → Int → Int → Int → Int → Option R85 := Nat.rec (motive := fun _ => (List (Int × Int)) → Int → Int → Int → Int → Option R85) (fun _ _ _ _ _ => none) (fun _ ih => DF85_1 n ih) m
theorem DL85_1_succ (n : Nat × Nat) (m : Nat) : DL85_1 n (m + 1) = DF85_1 n (DL85_1 n m) := rfl
theorem DL85_1_eq (n : Nat × Nat) (hn : n.2 = 1) : ∀ m, L85_1 n m = DL85_1 n m
  | 0 => by funext s0 v7 v8 v3_0 v3_1; kernel_rfl
  | m + 1 => by
    have ih := DL85_1_eq n hn m
    funext s0 v7 v8 v3_0 v3_1; refine (L85_1_eq n m s0 v7 v8 v3_0 v3_1).trans ?_
    rw [DL85_1_succ]
    unfold DF85_1
    (try simp only [ih]) <;> first | with_reducible rfl | rfl
noncomputable def D85 (n : Nat × Nat) (s0 : List (Int × Int)) (v1 : Int × Int) : Option R85 :=
    DL85_1 n n.1 s0 (s0.length : Int) 0 v1.1 v1.2
theorem S85_D (n : Nat × Nat) (hn : n.2 = 1) : S85 n = D85 n := by
  funext s0 v1; refine (S85_eq n s0 v1).trans ?_
  unfold D85
  (try simp only [DL85_1_eq n hn]) <;> first | with_reducible rfl | rfl
/-D 74 -/
noncomputable def D74 (n : Nat × Nat) (s0 : List (Int × Int)) (v1 : Int × Int) : Option R74 :=
 (D85 n s0 v1).bind fun r1' =>
 some (decide (r1' ≥ 0))
theorem S74_D (n : Nat × Nat) (hn : n.2 = 1) : S74 n = D74 n := by
  funext s0 v1; refine (S74_eq n s0 v1).trans ?_
  unfold D74
  (try simp only [S85_D n hn]) <;> first | with_reducible rfl | rfl
/-D 67 -/
noncomputable def DF67_1 (n : Nat × Nat) (f1 : (List (Int × Int)) → Int → Int → Int → (List (Int × Int)) → Option R67) (v20 : List (Int × Int)) (v21 : Int) (v22 : Int) (b1_0 : Int) (b1_1 : List (Int × Int)) : Option R67 :=
 (bif decide (v22 < v21) then (idx v20 v22).bind fun x2' =>
 (bif inB 0 2 then (idx [x2'.1, x2'.2] 0).bind fun x3' =>
 (bif inB 1 2 then (idx [x2'.1, x2'.2] 1).bind fun x4' =>
 ((bif (decide ((if x4' < x3' then x4' else x3') < 0) == false) then (bif inB 0 2 then (idx [x2'.1, x2'.2] 0).bind fun x5' =>
 (bif inB 1 2 then (idx [x2'.1, x2'.2] 1).bind fun x6' =>
 some (decide ((if x6' > x5' then x6' else x5') ≥ b1_0))
 else none)
 else none)
 else some true)).bind fun b7' =>
 (bif b7' then some 2
 else (bif inB 0 2 then (idx [x2'.1, x2'.2] 0).bind fun x8' =>
 (bif inB 1 2 then (idx [x2'.1, x2'.2] 1).bind fun x9' =>
 (bif decide (x8' ≥ x9') then some 7
 else (bif bounds none (some v22) none b1_1.length then (D74 n (b1_1.take (Int.toNat v22)) x2').bind fun r10' =>
 (bif r10' then some 6
 else f1 v20 v21 (wr .i64 (v22 + 1)) b1_0 b1_1)
 else none))
 else none)
 else none))
 else none)
 else none)
 else some 0)
noncomputable def DL67_1 (n : Nat × Nat) (m : Nat) : (List (Int × Int)) → Int → Int → Int → (List (Int × Int)) → Option R67 := Nat.rec (motive := fun _ => (List (Int × Int)) → Int → Int → Int → (List (Int × Int)) → Option R67) (fun _ _ _ _ _ => none) (fun _ ih => DF67_1 n ih) m
theorem DL67_1_succ (n : Nat × Nat) (m : Nat) : DL67_1 n (m + 1) = DF67_1 n (DL67_1 n m) := rfl
theorem DL67_1_eq (n : Nat × Nat) (hn : n.2 = 1) : ∀ m, L67_1 n m = DL67_1 n m
  | 0 => by funext v20 v21 v22 b1_0 b1_1; kernel_rfl
  | m + 1 => by
    have ih := DL67_1_eq n hn m
    funext v20 v21 v22 b1_0 b1_1; refine (L67_1_eq n m v20 v21 v22 b1_0 b1_1).trans ?_
    rw [DL67_1_succ]
    unfold DF67_1
    (try simp only [ih, S74_D n hn]) <;> first | with_reducible rfl | rfl
noncomputable def D67 (n : Nat × Nat) (b0 : Int × List (Int × Int)) : Option R67 :=
 ((bif (decide (b0.1 < 1) == false) then some (decide (b0.1 > 7))
 else some true)).bind fun b1' =>
 (bif b1' then some 1
 else (bif decide ((b0.2.length : Int) > 10) then some 3
 else DL67_1 n n.1 b0.2 (b0.2.length : Int) 0 b0.1 b0.2))
theorem S67_D (n : Nat × Nat) (hn : n.2 = 1) : S67 n = D67 n := by
  funext b0; refine (S67_eq n b0).trans ?_
  unfold D67
  (try simp only [DL67_1_eq n hn, S74_D n hn]) <;> first | with_reducible rfl | rfl
/-D 75 -/
noncomputable def DF75_1 (n : Nat × Nat) (f1 : Int → List Int → Option R75) (v0 : Int) (out3 : List Int) : Option R75 :=
 (bif (v0 != 0) then (D73 n v0).bind fun r1' =>
 (bif decide (out3.length + [r1'].length ≤ lim) then f1 (wr .u64 (BitVec.ofInt (IntKind.bits .u64) v0 &&& BitVec.ofInt (IntKind.bits .u64) (wr .u64 (v0 - 1))).toNat) (out3 ++ [r1'])
 else none)
 else some out3)
noncomputable def DL75_1 (n : Nat × Nat) (m : Nat) : Int → List Int → Option R75 := Nat.rec (motive := fun _ => Int → List Int → Option R75) (fun _ _ => none) (fun _ ih => DF75_1 n ih) m
theorem DL75_1_succ (n : Nat × Nat) (m : Nat) : DL75_1 n (m + 1) = DF75_1 n (DL75_1 n m) := rfl
theorem DL75_1_eq (n : Nat × Nat) (hn : n.2 = 1) : ∀ m, L75_1 n m = DL75_1 n m
  | 0 => by funext v0 out3; kernel_rfl
  | m + 1 => by
    have ih := DL75_1_eq n hn m
    funext v0 out3; refine (L75_1_eq n m v0 out3).trans ?_
    rw [DL75_1_succ]
    unfold DF75_1
    (try simp only [ih, S73_D n hn]) <;> first | with_reducible rfl | rfl
noncomputable def D75 (n : Nat × Nat) (v0 : Int) : Option R75 :=
    DL75_1 n n.1 v0 []
theorem S75_D (n : Nat × Nat) (hn : n.2 = 1) : S75 n = D75 n := by
  funext v0; refine (S75_eq n v0).trans ?_
  unfold D75
  (try simp only [DL75_1_eq n hn, S73_D n hn]) <;> first | with_reducible rfl | rfl
/-D 87 -/
noncomputable def D87 (n : Nat × Nat) (p0 : Int × Int) (v1 : Int) : Option R87 :=
 (bif inB 0 2 then (idx [p0.1, p0.2] 0).bind fun x1' =>
 (bif decide (x1' < 0) then none
 else ((bif (((wr .u64 (BitVec.ofInt (IntKind.bits .u64) (Int.fdiv v1 (2 ^ (min (Int.toNat x1') (IntKind.bits .u64)))) &&& BitVec.ofInt (IntKind.bits .u64) 1).toNat) == 0) == true) then (bif inB 1 2 then (idx [p0.1, p0.2] 1).bind fun x2' =>
 (bif decide (x2' < 0) then none
 else some ((wr .u64 (BitVec.ofInt (IntKind.bits .u64) (Int.fdiv v1 (2 ^ (min (Int.toNat x2') (IntKind.bits .u64)))) &&& BitVec.ofInt (IntKind.bits .u64) 1).toNat) == 0))
 else none)
 else some false)).bind fun b3' =>
 some b3')
 else none)
theorem S87_D (n : Nat × Nat) (hn : n.2 = 1) : S87 n = D87 n := by
  funext p0 v1; refine (S87_eq n p0 v1).trans ?_
  unfold D87
  first | with_reducible rfl | rfl
/-D 96c87 -/
noncomputable def DF96c87_1 (n : Nat × Nat) (f1 : (List (Int × Int)) → Int → Int → Int → Option R96c87) (s0 : List (Int × Int)) (f1_0 : Int) (v7 : Int) (v8 : Int) : Option R96c87 :=
 (bif decide (v8 < v7) then (idx s0 v8).bind fun x1' =>
 (D87 n x1' f1_0).bind fun r2' =>
 (bif r2' then some v8
 else f1 s0 f1_0 v7 (wr .i64 (v8 + 1)))
 else some (-1))
noncomputable def DL96c87_1 (n : Nat × Nat) (m : Nat) : (List (Int × Int)) → Int → Int → Int → Option R96c87 := Nat.rec (motive := fun _ => (List (Int × Int)) → Int → Int → Int → Option R96c87) (fun _ _ _ _ => none) (fun _ ih => DF96c87_1 n ih) m
theorem DL96c87_1_succ (n : Nat × Nat) (m : Nat) : DL96c87_1 n (m + 1) = DF96c87_1 n (DL96c87_1 n m) := rfl
theorem DL96c87_1_eq (n : Nat × Nat) (hn : n.2 = 1) : ∀ m, L96c87_1 n m = DL96c87_1 n m
  | 0 => by funext s0 f1_0 v7 v8; kernel_rfl
  | m + 1 => by
    have ih := DL96c87_1_eq n hn m
    funext s0 f1_0 v7 v8; refine (L96c87_1_eq n m s0 f1_0 v7 v8).trans ?_
    rw [DL96c87_1_succ]
    unfold DF96c87_1
    (try simp only [ih, S87_D n hn]) <;> first | with_reducible rfl | rfl
noncomputable def D96c87 (n : Nat × Nat) (s0 : List (Int × Int)) (cp_1_0 : Int) : Option R96c87 :=
    DL96c87_1 n n.1 s0 cp_1_0 (s0.length : Int) 0
theorem S96c87_D (n : Nat × Nat) (hn : n.2 = 1) : S96c87 n = D96c87 n := by
  funext s0 cp_1_0; refine (S96c87_eq n s0 cp_1_0).trans ?_
  unfold D96c87
  (try simp only [DL96c87_1_eq n hn, S87_D n hn]) <;> first | with_reducible rfl | rfl
/-D 86c87 -/
noncomputable def D86c87 (n : Nat × Nat) (s0 : List (Int × Int)) (cp_1_0 : Int) : Option R86c87 :=
 (D96c87 n s0 cp_1_0).bind fun r1' =>
 some (decide (r1' ≥ 0))
theorem S86c87_D (n : Nat × Nat) (hn : n.2 = 1) : S86c87 n = D86c87 n := by
  funext s0 cp_1_0; refine (S86c87_eq n s0 cp_1_0).trans ?_
  unfold D86c87
  (try simp only [S96c87_D n hn]) <;> first | with_reducible rfl | rfl
/-D 76 -/
noncomputable def D76 (n : Nat × Nat) (b0 : Int × List (Int × Int)) (v1 : Int) : Option R76 :=
 (D86c87 n b0.2 v1).bind fun r1' =>
 some (!r1')
theorem S76_D (n : Nat × Nat) (hn : n.2 = 1) : S76 n = D76 n := by
  funext b0 v1; refine (S76_eq n b0 v1).trans ?_
  unfold D76
  (try simp only [S86c87_D n hn]) <;> first | with_reducible rfl | rfl
/-D 68 -/
noncomputable def DL68_2 (n : Nat × Nat) (f1 : Int → Int → Int → Int → (List (Int × Int)) → List Int → Option R68) (many5 : Int) (v10 : Int) (v11 : Int) (b1_0 : Int) (b1_1 : List (Int × Int)) (best4 : List Int) : Option R68 :=
    f1 many5 v10 (wr .u64 (v11 + 1)) b1_0 b1_1 best4
theorem DL68_2_eq (n : Nat × Nat) (hn : n.2 = 1) (m1 : Nat) : L68_2 n m1 = DL68_2 n (L68_1 n m1) := by
  funext many5 v10 v11 b1_0 b1_1 best4; refine ((held_eq hn _).trans (L68_2_raw n m1 many5 v10 v11 b1_0 b1_1 best4)).trans ?_
  unfold DL68_2
  (try simp only [S47_D n hn, S75_D n hn, S76_D n hn]) <;> first | with_reducible rfl | rfl
noncomputable def DF68_1 (n : Nat × Nat) (f1 : Int → Int → Int → Int → (List (Int × Int)) → List Int → Option R68) (many5 : Int) (v10 : Int) (v11 : Int) (b1_0 : Int) (b1_1 : List (Int × Int)) (best4 : List Int) : Option R68 :=
 (bif decide (v11 < v10) then (D75 n v11).bind fun r1' =>
 (D76 n (b1_0, b1_1) v11).bind fun r2' =>
 ((bif ((!r2') == false) then ((bif (decide (many5 > 0) == true) then some (decide ((r1'.length : Int) > (best4.length : Int)))
 else some false)).bind fun b3' =>
 some b3'
 else some true)).bind fun b4' =>
 (bif b4' then DL68_2 n f1 many5 v10 v11 b1_0 b1_1 best4
 else ((bif ((many5 == 0) == false) then some (decide ((r1'.length : Int) < (best4.length : Int)))
 else some true)).bind fun b5' =>
 (bif b5' then DL68_2 n f1 1 v10 v11 b1_0 b1_1 r1'
 else (D47 n r1' best4).bind fun r6' =>
 (bif decide (r6' < 0) then DL68_2 n f1 (wr .i64 (many5 + 1)) v10 v11 b1_0 b1_1 r1'
 else DL68_2 n f1 (wr .i64 (many5 + 1)) v10 v11 b1_0 b1_1 best4)))
 else some (best4, many5))
noncomputable def DL68_1 (n : Nat × Nat) (m : Nat) : Int → Int → Int → Int → (List (Int × Int)) → List Int → Option R68 := Nat.rec (motive := fun _ => Int → Int → Int → Int → (List (Int × Int)) → List Int → Option R68) (fun _ _ _ _ _ _ => none) (fun _ ih => DF68_1 n ih) m
theorem DL68_1_succ (n : Nat × Nat) (m : Nat) : DL68_1 n (m + 1) = DF68_1 n (DL68_1 n m) := rfl
theorem DL68_1_eq (n : Nat × Nat) (hn : n.2 = 1) : ∀ m, L68_1 n m = DL68_1 n m
  | 0 => by funext many5 v10 v11 b1_0 b1_1 best4; kernel_rfl
  | m + 1 => by
    have ih := DL68_1_eq n hn m
    funext many5 v10 v11 b1_0 b1_1 best4; refine (L68_1_eq n m many5 v10 v11 b1_0 b1_1 best4).trans ?_
    rw [DL68_1_succ]
    unfold DF68_1
    (try simp only [ih, DL68_2_eq n hn, S47_D n hn, S75_D n hn, S76_D n hn]) <;> first | with_reducible rfl | rfl
noncomputable def D68 (n : Nat × Nat) (b0 : Int × List (Int × Int)) : Option R68 :=
 (bif decide (b0.1 < 0) then none
 else DL68_1 n n.1 0 (wr .u64 (1 * 2 ^ (min (Int.toNat b0.1) (IntKind.bits .u64)))) 0 b0.1 b0.2 [])
theorem S68_D (n : Nat × Nat) (hn : n.2 = 1) : S68 n = D68 n := by
  funext b0; refine (S68_eq n b0).trans ?_
  unfold D68
  (try simp only [DL68_2_eq n hn, DL68_1_eq n hn, S47_D n hn, S75_D n hn, S76_D n hn]) <;> first | with_reducible rfl | rfl
/-D 57 -/
noncomputable def D57 (n : Nat × Nat) (b0 : Int × List (Int × Int)) : Option R57 :=
 (D67 n b0).bind fun r1' =>
 (bif (r1' != 0) then some ([], r1')
 else (D68 n b0).bind fun r2' =>
 some (r2'.1, 0))
theorem S57_D (n : Nat × Nat) (hn : n.2 = 1) : S57 n = D57 n := by
  funext b0; refine (S57_eq n b0).trans ?_
  unfold D57
  (try simp only [S67_D n hn, S68_D n hn]) <;> first | with_reducible rfl | rfl
/-D 97 -/
noncomputable def DF97_1 (n : Nat × Nat) (f1 : (List (Int × Int)) → Int → Int → Int → (List (Int × Int)) → Option R97) (v20 : List (Int × Int)) (v21 : Int) (v22 : Int) (b1_0 : Int) (b1_1 : List (Int × Int)) : Option R97 :=
 (bif decide (v22 < v21) then (idx v20 v22).bind fun x2' =>
 (bif inB 0 2 then (idx [x2'.1, x2'.2] 0).bind fun x3' =>
 (bif inB 1 2 then (idx [x2'.1, x2'.2] 1).bind fun x4' =>
 ((bif (decide ((if x4' < x3' then x4' else x3') < 0) == false) then (bif inB 0 2 then (idx [x2'.1, x2'.2] 0).bind fun x5' =>
 (bif inB 1 2 then (idx [x2'.1, x2'.2] 1).bind fun x6' =>
 some (decide ((if x6' > x5' then x6' else x5') ≥ b1_0))
 else none)
 else none)
 else some true)).bind fun b7' =>
 (bif b7' then some 2
 else (bif inB 0 2 then (idx [x2'.1, x2'.2] 0).bind fun x8' =>
 (bif inB 1 2 then (idx [x2'.1, x2'.2] 1).bind fun x9' =>
 (bif (x8' == x9') then some 5
 else (bif bounds none (some v22) none b1_1.length then (D74 n (b1_1.take (Int.toNat v22)) x2').bind fun r10' =>
 (bif r10' then some 6
 else f1 v20 v21 (wr .i64 (v22 + 1)) b1_0 b1_1)
 else none))
 else none)
 else none))
 else none)
 else none)
 else some 0)
noncomputable def DL97_1 (n : Nat × Nat) (m : Nat) : (List (Int × Int)) → Int → Int → Int → (List (Int × Int)) → Option R97 := Nat.rec (motive := fun _ => (List (Int × Int)) → Int → Int → Int → (List (Int × Int)) → Option R97) (fun _ _ _ _ _ => none) (fun _ ih => DF97_1 n ih) m
theorem DL97_1_succ (n : Nat × Nat) (m : Nat) : DL97_1 n (m + 1) = DF97_1 n (DL97_1 n m) := rfl
theorem DL97_1_eq (n : Nat × Nat) (hn : n.2 = 1) : ∀ m, L97_1 n m = DL97_1 n m
  | 0 => by funext v20 v21 v22 b1_0 b1_1; kernel_rfl
  | m + 1 => by
    have ih := DL97_1_eq n hn m
    funext v20 v21 v22 b1_0 b1_1; refine (L97_1_eq n m v20 v21 v22 b1_0 b1_1).trans ?_
    rw [DL97_1_succ]
    unfold DF97_1
    (try simp only [ih, S74_D n hn]) <;> first | with_reducible rfl | rfl
noncomputable def D97 (n : Nat × Nat) (b0 : Int × List (Int × Int)) : Option R97 :=
 ((bif (decide (b0.1 < 1) == false) then some (decide (b0.1 > 7))
 else some true)).bind fun b1' =>
 (bif b1' then some 1
 else (bif decide ((b0.2.length : Int) > 16) then some 3
 else DL97_1 n n.1 b0.2 (b0.2.length : Int) 0 b0.1 b0.2))
theorem S97_D (n : Nat × Nat) (hn : n.2 = 1) : S97 n = D97 n := by
  funext b0; refine (S97_eq n b0).trans ?_
  unfold D97
  (try simp only [DL97_1_eq n hn, S74_D n hn]) <;> first | with_reducible rfl | rfl
/-D 88 -/
noncomputable def DF88_1 (n : Nat × Nat) (f1 : (List (Int × Int)) → Int → Int → Int → Int → Int → Int → Int → Int → Int → Int → Int → Int → Int → Int → Int → Int → Int → Int → Option R88) (v18 : List (Int × Int)) (v19 : Int) (v20 : Int) (v2_0 : Int) (v2_1 : Int) (v2_2 : Int) (v2_3 : Int) (v2_4 : Int) (v2_5 : Int) (v2_6 : Int) (v2_7 : Int) (w4_0 : Int) (w4_1 : Int) (w4_2 : Int) (w4_3 : Int) (w4_4 : Int) (w4_5 : Int) (w4_6 : Int) (w4_7 : Int) : Option R88 :=
 (bif decide (v20 < v19) then (idx v18 v20).bind fun x2' =>
 (bif inB 0 2 then (idx [x2'.1, x2'.2] 0).bind fun x3' =>
 (bif inB x3' 7 then (idx [w4_1, w4_2, w4_3, w4_4, w4_5, w4_6, w4_7] x3').bind fun x4' =>
 (bif inB 1 2 then (idx [x2'.1, x2'.2] 1).bind fun x5' =>
 (bif decide (x5' < 0) then none
 else (bif inB x3' 7 then f1 v18 v19 (wr .i64 (v20 + 1)) v2_0 v2_1 v2_2 v2_3 v2_4 v2_5 v2_6 v2_7 w4_0 (bif (x3' == 0) then wr .u64 (BitVec.ofInt (IntKind.bits .u64) x4' ||| BitVec.ofInt (IntKind.bits .u64) (wr .u64 (1 * 2 ^ (min (Int.toNat x5') (IntKind.bits .u64))))).toNat else w4_1) (bif (x3' == 1) then wr .u64 (BitVec.ofInt (IntKind.bits .u64) x4' ||| BitVec.ofInt (IntKind.bits .u64) (wr .u64 (1 * 2 ^ (min (Int.toNat x5') (IntKind.bits .u64))))).toNat else w4_2) (bif (x3' == 2) then wr .u64 (BitVec.ofInt (IntKind.bits .u64) x4' ||| BitVec.ofInt (IntKind.bits .u64) (wr .u64 (1 * 2 ^ (min (Int.toNat x5') (IntKind.bits .u64))))).toNat else w4_3) (bif (x3' == 3) then wr .u64 (BitVec.ofInt (IntKind.bits .u64) x4' ||| BitVec.ofInt (IntKind.bits .u64) (wr .u64 (1 * 2 ^ (min (Int.toNat x5') (IntKind.bits .u64))))).toNat else w4_4) (bif (x3' == 4) then wr .u64 (BitVec.ofInt (IntKind.bits .u64) x4' ||| BitVec.ofInt (IntKind.bits .u64) (wr .u64 (1 * 2 ^ (min (Int.toNat x5') (IntKind.bits .u64))))).toNat else w4_5) (bif (x3' == 5) then wr .u64 (BitVec.ofInt (IntKind.bits .u64) x4' ||| BitVec.ofInt (IntKind.bits .u64) (wr .u64 (1 * 2 ^ (min (Int.toNat x5') (IntKind.bits .u64))))).toNat else w4_6) (bif (x3' == 6) then wr .u64 (BitVec.ofInt (IntKind.bits .u64) x4' ||| BitVec.ofInt (IntKind.bits .u64) (wr .u64 (1 * 2 ^ (min (Int.toNat x5') (IntKind.bits .u64))))).toNat else w4_7)
 else none))
 else none)
 else none)
 else none)
 else some ((w4_0, w4_1, w4_2, w4_3, w4_4, w4_5, w4_6, w4_7), 0))
noncomputable def DL88_1 (n : Nat × Nat) (m : Nat) : (List (Int × Int)) → Int → Int → Int → Int → Int → Int → Int → Int → Int → Int → Int → Int → Int → Int → Int → Int → Int → Int → Option R88 := Nat.rec (motive := fun _ => (List (Int × Int)) → Int → Int → Int → Int → Int → Int → Int → Int → Int → Int → Int → Int → Int → Int → Int → Int → Int → Int → Option R88) (fun _ _ _ _ _ _ _ _ _ _ _ _ _ _ _ _ _ _ _ => none) (fun _ ih => DF88_1 n ih) m
theorem DL88_1_succ (n : Nat × Nat) (m : Nat) : DL88_1 n (m + 1) = DF88_1 n (DL88_1 n m) := rfl
theorem DL88_1_eq (n : Nat × Nat) (hn : n.2 = 1) : ∀ m, L88_1 n m = DL88_1 n m
  | 0 => by funext v18 v19 v20 v2_0 v2_1 v2_2 v2_3 v2_4 v2_5 v2_6 v2_7 w4_0 w4_1 w4_2 w4_3 w4_4 w4_5 w4_6 w4_7; kernel_rfl
  | m + 1 => by
    have ih := DL88_1_eq n hn m
    funext v18 v19 v20 v2_0 v2_1 v2_2 v2_3 v2_4 v2_5 v2_6 v2_7 w4_0 w4_1 w4_2 w4_3 w4_4 w4_5 w4_6 w4_7; refine (L88_1_eq n m v18 v19 v20 v2_0 v2_1 v2_2 v2_3 v2_4 v2_5 v2_6 v2_7 w4_0 w4_1 w4_2 w4_3 w4_4 w4_5 w4_6 w4_7).trans ?_
    rw [DL88_1_succ]
    unfold DF88_1
    (try simp only [ih, S97_D n hn]) <;> first | with_reducible rfl | rfl
noncomputable def D88 (n : Nat × Nat) (b0 : Int × List (Int × Int)) : Option R88 :=
 (D97 n b0).bind fun r1' =>
 (bif (r1' != 0) then some ((b0.1, 0, 0, 0, 0, 0, 0, 0), r1')
 else DL88_1 n n.1 b0.2 (b0.2.length : Int) 0 0 0 0 0 0 0 0 0 b0.1 0 0 0 0 0 0 0)
theorem S88_D (n : Nat × Nat) (hn : n.2 = 1) : S88 n = D88 n := by
  funext b0; refine (S88_eq n b0).trans ?_
  unfold D88
  (try simp only [DL88_1_eq n hn, S97_D n hn]) <;> first | with_reducible rfl | rfl
/-D 89 -/
noncomputable def DL89_2 (n : Nat × Nat) (f1 : Int → Bool → List Int → Int → Int → Option R89) (choice1 : Int) (v5 : Bool) (v12 : List Int) (v13 : Int) (v14 : Int) : Option R89 :=
    f1 choice1 v5 v12 v13 (wr .i64 (v14 + 1))
theorem DL89_2_eq (n : Nat × Nat) (hn : n.2 = 1) (m1 : Nat) : L89_2 n m1 = DL89_2 n (L89_1 n m1) := by
  funext choice1 v5 v12 v13 v14; refine ((held_eq hn _).trans (L89_2_raw n m1 choice1 v5 v12 v13 v14)).trans ?_
  unfold DL89_2
  first | with_reducible rfl | rfl
noncomputable def DF89_1 (n : Nat × Nat) (f1 : Int → Bool → List Int → Int → Int → Option R89) (choice1 : Int) (v5 : Bool) (v12 : List Int) (v13 : Int) (v14 : Int) : Option R89 :=
 (bif decide (v14 < v13) then (idx v12 v14).bind fun x1' =>
 (bif decide (v14 < 0) then none
 else ((bif (((wr .u64 (BitVec.ofInt (IntKind.bits .u64) (Int.fdiv choice1 (2 ^ (min (Int.toNat v14) (IntKind.bits .u64)))) &&& BitVec.ofInt (IntKind.bits .u64) 1).toNat) == 1) == true) then some ((wr .u64 (BitVec.ofInt (IntKind.bits .u64) x1' &&& BitVec.ofInt (IntKind.bits .u64) choice1).toNat) != 0)
 else some false)).bind fun b2' =>
 (bif b2' then some 13
 else ((bif ((!((wr .u64 (BitVec.ofInt (IntKind.bits .u64) (Int.fdiv choice1 (2 ^ (min (Int.toNat v14) (IntKind.bits .u64)))) &&& BitVec.ofInt (IntKind.bits .u64) 1).toNat) == 1)) == true) then some ((wr .u64 (BitVec.ofInt (IntKind.bits .u64) x1' &&& BitVec.ofInt (IntKind.bits .u64) choice1).toNat) == 0)
 else some false)).bind fun b3' =>
 (bif b3' then DL89_2 n f1 choice1 true v12 v13 v14
 else DL89_2 n f1 choice1 v5 v12 v13 v14)))
 else (bif v5 then some 21
 else some 0))
noncomputable def DL89_1 (n : Nat × Nat) (m : Nat) : Int → Bool → List Int → Int → Int → Option R89 := Nat.rec (motive := fun _ => Int → Bool → List Int → Int → Int → Option R89) (fun _ _ _ _ _ => none) (fun _ ih => DF89_1 n ih) m
theorem DL89_1_succ (n : Nat × Nat) (m : Nat) : DL89_1 n (m + 1) = DF89_1 n (DL89_1 n m) := rfl
theorem DL89_1_eq (n : Nat × Nat) (hn : n.2 = 1) : ∀ m, L89_1 n m = DL89_1 n m
  | 0 => by funext choice1 v5 v12 v13 v14; kernel_rfl
  | m + 1 => by
    have ih := DL89_1_eq n hn m
    funext choice1 v5 v12 v13 v14; refine (L89_1_eq n m choice1 v5 v12 v13 v14).trans ?_
    rw [DL89_1_succ]
    unfold DF89_1
    (try simp only [ih, DL89_2_eq n hn]) <;> first | with_reducible rfl | rfl
noncomputable def D89 (n : Nat × Nat) (w0 : Int × Int × Int × Int × Int × Int × Int × Int) (choice1 : Int) : Option R89 :=
 (bif bounds none (some w0.1) none 7 then DL89_1 n n.1 choice1 false ([w0.2.1, w0.2.2.1, w0.2.2.2.1, w0.2.2.2.2.1, w0.2.2.2.2.2.1, w0.2.2.2.2.2.2.1, w0.2.2.2.2.2.2.2].take (Int.toNat w0.1)) (([w0.2.1, w0.2.2.1, w0.2.2.2.1, w0.2.2.2.2.1, w0.2.2.2.2.2.1, w0.2.2.2.2.2.2.1, w0.2.2.2.2.2.2.2].take (Int.toNat w0.1)).length : Int) 0
 else none)
theorem S89_D (n : Nat × Nat) (hn : n.2 = 1) : S89 n = D89 n := by
  funext w0 choice1; refine (S89_eq n w0 choice1).trans ?_
  unfold D89
  (try simp only [DL89_2_eq n hn, DL89_1_eq n hn]) <;> first | with_reducible rfl | rfl
/-D 90 -/
noncomputable def DF90_1 (n : Nat × Nat) (f1 : Int → List Int → Option R90) (v0 : Int) (out3 : List Int) : Option R90 :=
 (bif (v0 != 0) then (D73 n v0).bind fun r1' =>
 (bif decide (out3.length + [r1'].length ≤ lim) then f1 (wr .u64 (BitVec.ofInt (IntKind.bits .u64) v0 &&& BitVec.ofInt (IntKind.bits .u64) (wr .u64 (v0 - 1))).toNat) (out3 ++ [r1'])
 else none)
 else some out3)
noncomputable def DL90_1 (n : Nat × Nat) (m : Nat) : Int → List Int → Option R90 := Nat.rec (motive := fun _ => Int → List Int → Option R90) (fun _ _ => none) (fun _ ih => DF90_1 n ih) m
theorem DL90_1_succ (n : Nat × Nat) (m : Nat) : DL90_1 n (m + 1) = DF90_1 n (DL90_1 n m) := rfl
theorem DL90_1_eq (n : Nat × Nat) (hn : n.2 = 1) : ∀ m, L90_1 n m = DL90_1 n m
  | 0 => by funext v0 out3; kernel_rfl
  | m + 1 => by
    have ih := DL90_1_eq n hn m
    funext v0 out3; refine (L90_1_eq n m v0 out3).trans ?_
    rw [DL90_1_succ]
    unfold DF90_1
    (try simp only [ih, S73_D n hn]) <;> first | with_reducible rfl | rfl
noncomputable def D90 (n : Nat × Nat) (v0 : Int) : Option R90 :=
    DL90_1 n n.1 v0 []
theorem S90_D (n : Nat × Nat) (hn : n.2 = 1) : S90 n = D90 n := by
  funext v0; refine (S90_eq n v0).trans ?_
  unfold D90
  (try simp only [DL90_1_eq n hn, S73_D n hn]) <;> first | with_reducible rfl | rfl
noncomputable def D91c47 (n : Nat × Nat) (x0 : List (List Int)) : Option R91c47 := HF91 x0
theorem S91c47_D (n : Nat × Nat) (hn : n.2 = 1) : S91c47 n = D91c47 n := rfl
/-D 77 -/
noncomputable def DL77_2 (n : Nat × Nat) (f1 : Int → Int → Int → Int → Int → Int → Int → Int → Int → Int → List (List Int) → Option R77) (v18 : Int) (v19 : Int) (w4_0 : Int) (w4_1 : Int) (w4_2 : Int) (w4_3 : Int) (w4_4 : Int) (w4_5 : Int) (w4_6 : Int) (w4_7 : Int) (out6 : List (List Int)) : Option R77 :=
    f1 v18 (wr .u64 (v19 + 1)) w4_0 w4_1 w4_2 w4_3 w4_4 w4_5 w4_6 w4_7 out6
theorem DL77_2_eq (n : Nat × Nat) (hn : n.2 = 1) (m1 : Nat) : L77_2 n m1 = DL77_2 n (L77_1 n m1) := by
  funext v18 v19 w4_0 w4_1 w4_2 w4_3 w4_4 w4_5 w4_6 w4_7 out6; refine ((held_eq hn _).trans (L77_2_raw n m1 v18 v19 w4_0 w4_1 w4_2 w4_3 w4_4 w4_5 w4_6 w4_7 out6)).trans ?_
  unfold DL77_2
  (try simp only [S88_D n hn, S89_D n hn, S90_D n hn, S91c47_D n hn]) <;> first | with_reducible rfl | rfl
noncomputable def DF77_1 (n : Nat × Nat) (f1 : Int → Int → Int → Int → Int → Int → Int → Int → Int → Int → List (List Int) → Option R77) (v18 : Int) (v19 : Int) (w4_0 : Int) (w4_1 : Int) (w4_2 : Int) (w4_3 : Int) (w4_4 : Int) (w4_5 : Int) (w4_6 : Int) (w4_7 : Int) (out6 : List (List Int)) : Option R77 :=
 (bif decide (v19 < v18) then (D89 n (w4_0, w4_1, w4_2, w4_3, w4_4, w4_5, w4_6, w4_7) v19).bind fun r2' =>
 (bif (r2' == 0) then (D90 n v19).bind fun r3' =>
 (bif decide (out6.length + [r3'].length ≤ lim) then DL77_2 n f1 v18 v19 w4_0 w4_1 w4_2 w4_3 w4_4 w4_5 w4_6 w4_7 (out6 ++ [r3'])
 else none)
 else DL77_2 n f1 v18 v19 w4_0 w4_1 w4_2 w4_3 w4_4 w4_5 w4_6 w4_7 out6)
 else (D91c47 n out6).bind fun r4' =>
 some (out6, 0))
noncomputable def DL77_1 (n : Nat × Nat) (m : Nat) : Int → Int → Int → Int → Int → Int → Int → Int → Int → Int → List (List Int) → Option R77 := Nat.rec (motive := fun _ => Int → Int → Int → Int → Int → Int → Int → Int → Int → Int → List (List Int) → Option R77) (fun _ _ _ _ _ _ _ _ _ _ _ => none) (fun _ ih => DF77_1 n ih) m
theorem DL77_1_succ (n : Nat × Nat) (m : Nat) : DL77_1 n (m + 1) = DF77_1 n (DL77_1 n m) := rfl
theorem DL77_1_eq (n : Nat × Nat) (hn : n.2 = 1) : ∀ m, L77_1 n m = DL77_1 n m
  | 0 => by funext v18 v19 w4_0 w4_1 w4_2 w4_3 w4_4 w4_5 w4_6 w4_7 out6; kernel_rfl
  | m + 1 => by
    have ih := DL77_1_eq n hn m
    funext v18 v19 w4_0 w4_1 w4_2 w4_3 w4_4 w4_5 w4_6 w4_7 out6; refine (L77_1_eq n m v18 v19 w4_0 w4_1 w4_2 w4_3 w4_4 w4_5 w4_6 w4_7 out6).trans ?_
    rw [DL77_1_succ]
    unfold DF77_1
    (try simp only [ih, DL77_2_eq n hn, S88_D n hn, S89_D n hn, S90_D n hn, S91c47_D n hn]) <;> first | with_reducible rfl | rfl
noncomputable def D77 (n : Nat × Nat) (b0 : Int × List (Int × Int)) : Option R77 :=
 (D88 n b0).bind fun r1' =>
 (bif (r1'.2 != 0) then some ([], r1'.2)
 else (bif decide (r1'.1.1 < 0) then none
 else DL77_1 n n.1 (wr .u64 (1 * 2 ^ (min (Int.toNat r1'.1.1) (IntKind.bits .u64)))) 0 r1'.1.1 r1'.1.2.1 r1'.1.2.2.1 r1'.1.2.2.2.1 r1'.1.2.2.2.2.1 r1'.1.2.2.2.2.2.1 r1'.1.2.2.2.2.2.2.1 r1'.1.2.2.2.2.2.2.2 []))
theorem S77_D (n : Nat × Nat) (hn : n.2 = 1) : S77 n = D77 n := by
  funext b0; refine (S77_eq n b0).trans ?_
  unfold D77
  (try simp only [DL77_2_eq n hn, DL77_1_eq n hn, S88_D n hn, S89_D n hn, S90_D n hn, S91c47_D n hn]) <;> first | with_reducible rfl | rfl
/-D 69 -/
noncomputable def D69 (n : Nat × Nat) (b0 : Int × List (Int × Int)) : Option R69 :=
 (D77 n b0).bind fun r1' =>
 (bif (r1'.2 != 0) then some ([], r1'.2)
 else (bif ((r1'.1.length : Int) == 0) then some ([], 12)
 else (bif inB 0 r1'.1.length then (idx r1'.1 0).bind fun x2' =>
 some (x2', 0)
 else none)))
theorem S69_D (n : Nat × Nat) (hn : n.2 = 1) : S69 n = D69 n := by
  funext b0; refine (S69_eq n b0).trans ?_
  unfold D69
  (try simp only [S77_D n hn]) <;> first | with_reducible rfl | rfl
/-D 100 -/
noncomputable def DF100_1 (n : Nat × Nat) (f1 : ByteArray → Nat → Option R100) (v9s : ByteArray) (v9p : Nat) : Option R100 :=
 (bif Nat.blt v9p v9s.size then ((strBytes v9s)[v9p]?).bind fun x1' =>
 (bif decide (x1' < 128) then ((bif (decide (x1' < 97) == false) then some (decide (x1' ≥ 103))
 else some true)).bind fun b2' =>
 (bif b2' then some 10
 else f1 v9s (v9p + 1))
 else none)
 else some 0)
noncomputable def DL100_1 (n : Nat × Nat) (m : Nat) : ByteArray → Nat → Option R100 := Nat.rec (motive := fun _ => ByteArray → Nat → Option R100) (fun _ _ => none) (fun _ ih => DF100_1 n ih) m
theorem DL100_1_succ (n : Nat × Nat) (m : Nat) : DL100_1 n (m + 1) = DF100_1 n (DL100_1 n m) := rfl
theorem DL100_1_eq (n : Nat × Nat) (hn : n.2 = 1) : ∀ m, L100_1 n m = DL100_1 n m
  | 0 => by funext v9s v9p; kernel_rfl
  | m + 1 => by
    have ih := DL100_1_eq n hn m
    funext v9s v9p; refine (L100_1_eq n m v9s v9p).trans ?_
    rw [DL100_1_succ]
    unfold DF100_1
    (try simp only [ih]) <;> first | with_reducible rfl | rfl
noncomputable def D100 (n : Nat × Nat) (word0 : ByteArray) : Option R100 :=
 (bif decide ((word0.size : Int) > 10) then some 19
 else DL100_1 n n.1 word0 0)
theorem S100_D (n : Nat × Nat) (hn : n.2 = 1) : S100 n = D100 n := by
  funext word0; refine (S100_eq n word0).trans ?_
  unfold D100
  (try simp only [DL100_1_eq n hn]) <;> first | with_reducible rfl | rfl
end Go.Proofs.YtkfkbebinhkdlaaGreatDoor
