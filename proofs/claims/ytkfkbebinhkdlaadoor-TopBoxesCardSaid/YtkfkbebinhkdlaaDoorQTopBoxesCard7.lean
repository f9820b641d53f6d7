/- Texts of this claim, joined: G66 to D55c56. -/
import Derived.KernelRfl
import Derived.Test.YtkfkbebinhkdlaaDoorProg
import Derived.WalkKit
import Derived.Test.YtkfkbebinhkdlaaDoorQTopBoxesCard6
set_option linter.unusedVariables false
set_option linter.unusedSimpArgs false
set_option maxRecDepth 100000
namespace Go.Proofs.YtkfkbebinhkdlaaDoor
open Go.Vi
abbrev R66 := Int
noncomputable def c66 : Code := bodyOf Tryd.f66
noncomputable def an66 : Ann := (.s .l (.s (.j [1, 35, 36, 37, 38, 39, 40, 41, 42] (.s .l (.j [1, 35, 36, 37, 38, 39, 40, 41, 42] .l (.s .l (.j [1, 35, 36, 37, 38, 39, 40, 41, 42] .l .l)))) .l) (.s (.s .l (.j [] (.j [1, 20, 21, 22, 35, 36, 37, 38, 39, 40, 41, 42] (.s .l (.s (.j [1, 20, 21, 22, 35, 36, 37, 38, 39, 40, 41, 42] .l .l) (.s (.j [1, 20, 21, 22, 35, 36, 37, 38, 39, 40, 41, 42] (.s .l (.j [1, 20, 21, 22, 35, 36, 37, 38, 39, 40, 41, 42] (.s .l (.j [1, 20, 21, 22, 35, 36, 37, 38, 39, 40, 41, 42] .l (.s .l (.j [1, 20, 21, 22, 35, 36, 37, 38, 39, 40, 41, 42] .l (.s .l (.j [1, 20, 21, 22, 35, 36, 37, 38, 39, 40, 41, 42] .l .l)))))) .l)) .l) .l))) .l) .l)) .l)))
def pk66 : List PK := [.c (.pair (.int .i64) (.sl (.pair (.int .i64) (.int .i64))))]
def rk66 : List RK := [.c (.int .i64) 2]
noncomputable def rt66 (st : St) : Option R66 := rtG rk66 st
noncomputable def E66 (n : Nat × Nat) : Env := { T := tab, phi := (consPhi 90 (fun _ => true) (P90 n) noPhi), eff := fun _ => false, fuel := n.1, hold := n.2 }
noncomputable def kq66_6 (n : Nat × Nat) : St → Option R66 := run (E66 n) (cB (cB (cB c66))) (Ann.snd (Ann.snd (Ann.snd an66))) rt66 (fun _ _ => none) rt66
noncomputable def xb66_8 (n : Nat × Nat) : Nat → St → Option R66 := fun j s => bif Nat.beq j 1 then normC [] s (kq66_6 n) else (fun _ _ => none) j s
noncomputable def F66_9 (n : Nat × Nat) : (St → Option R66) → St → Option R66 := fun K s => run (E66 n) (cA (cA (cB (cA (cB (cB c66)))))) (Ann.fst (Ann.fst (Ann.snd (Ann.fst (Ann.snd (Ann.snd an66)))))) (fun s => normC [1, 20, 21, 22, 35, 36, 37, 38, 39, 40, 41, 42] s K) (xb66_8 n) rt66 s
noncomputable def L66_1 (n : Nat × Nat) (m : Nat) (v20 : List (Int × Int)) (v21 : Int) (v22 : Int) (b1_0 : Int) (b1_1 : List (Int × Int)) : Option R66 := loopN (F66_9 n) m { tm := [uu, .ptr 1 0, uu, uu, uu, uu, uu, uu, uu, uu, uu, uu, uu, uu, uu, uu, uu, uu, uu, uu, .c (.sl (.pair (.int .i64) (.int .i64)) v20 false), .c (.int .i64 v21), .c (.int .i64 v22), uu, uu, uu, uu, uu, uu, uu, uu, uu, uu, uu, uu, uu, uu, uu, uu, uu, uu, uu, uu, uu, uu, uu, uu, uu, uu, uu, uu, uu, uu, uu, uu, uu, uu, uu], hp := (upd emp 1 (.box [.int .i64 b1_0, .sl (.pair (.int .i64) (.int .i64)) b1_1 false])) }
theorem L66_1_eq (n : Nat × Nat) (m1 : Nat) (v20 : List (Int × Int)) (v21 : Int) (v22 : Int) (b1_0 : Int) (b1_1 : List (Int × Int)) : L66_1 n (m1 + 1) v20 v21 v22 b1_0 b1_1 =
 (bif decide (v22 < v21) then (idx v20 v22).bind fun x2' =>
 (bif inB 0 2 then (idx [x2'.1, x2'.2] 0).bind fun x3' =>
 (bif inB 1 2 then (idx [x2'.1, x2'.2] 1).bind fun x4' =>
 ((bif (decide ((if x4' < x3' then x4' else x3') < 0) == false) then (bif inB 0 2 then (idx [x2'.1, x2'.2] 0).bind fun x5' =>
 (bif inB 1 2 then (idx [x2'.1, x2'.2] 1).bind fun x6' =>
 some (decide ((if x6' > x5' then x6' else x5') ≥ b1_0))
 else none)
 else none)
 else some true)).bind fun b7' =>
 (bif b7' then some 2
 else (bif inB 0 2 then (idx [x2'.1, x2'.2] 0).bind fun x8' =>
 (bif inB 1 2 then (idx [x2'.1, x2'.2] 1).bind fun x9' =>
 (bif (x8' == x9') then some 5
 else (bif bounds none (some v22) none b1_1.length then (S90 n (b1_1.take (Int.toNat v22)) x2').bind fun r10' =>
 (bif r10' then some 6
 else L66_1 n m1 v20 v21 (wr .i64 (v22 + 1)) b1_0 b1_1)
 else none))
 else none)
 else none))
 else none)
 else none)
 else some 0) := by kernel_rfl
noncomputable def S66 (n : Nat × Nat) (b0 : Int × List (Int × Int)) : Option R66 := run (E66 n) c66 an66 rt66 (fun _ _ => none) rt66 { tm := [.agg [.int .i64 b0.1, .sl (.pair (.int .i64) (.int .i64)) b0.2 false], uu, uu, uu, uu, uu, uu, uu, uu, uu, uu, uu, uu, uu, uu, uu, uu, uu, uu, uu, uu, uu, uu, uu, uu, uu, uu, uu, uu, uu, uu, uu, uu, uu, uu, uu, uu, uu, uu, uu, uu, uu, uu, uu, uu, uu, uu, uu, uu, uu, uu, uu, uu, uu, uu, uu, uu, uu], hp := emp }
theorem S66_eq (n : Nat × Nat) (b0 : Int × List (Int × Int)) : S66 n b0 =
 ((bif (decide (b0.1 < 1) == false) then some (decide (b0.1 > 7))
 else some true)).bind fun b1' =>
 (bif b1' then some 1
 else (bif decide ((b0.2.length : Int) > 16) then some 3
 else L66_1 n n.1 b0.2 (b0.2.length : Int) 0 b0.1 b0.2)) := by kernel_rfl
theorem S66_run (n : Nat × Nat) (xs : pksDen pk66) : S66 n xs.1 = runG (E66 n) noScope c66 an66 (rtG rk66) (fun _ _ => none) (rtG rk66) (st0 pk66 xs Tryd.f66.ntmps) := by kernel_rfl
noncomputable def P66 (n : Nat × Nat) := phiOf pk66 rk66 (fun xs => S66 n xs.1)
theorem call66 : CallOK Tryd.prog 66 := callOK_of Tryd.func66 (by kernel_rfl) (by kernel_rfl)
theorem env66 (n : Nat × Nat) : EnvOK Tryd.prog (E66 n) := envOK0 (consPhi_ok (FC90 n) call90 noPhi_ok) rfl rfl
theorem par66 (n : Nat × Nat) : EnvPar (E66 n) := envPar0 (consPhi_par phiOf_Par1 noPhi_par) rfl
theorem FC66 (n : Nat × Nat) : FCs Tryd.prog 66 (P66 n) := phiOf_FCs fun xs r h vs hv => FC.of_runG tabOK eqsOK (env66 n) (par66 n) mixed (fun _ p _ => noScope_ok p.1 p.2) Tryd.func66 (c := c66) (an := an66) (pks := pk66) (rks := rk66) (by kernel_rfl) (by kernel_rfl) hv ((S66_run n xs).symm.trans h)
abbrev R33 := (Int × Int × Int × Int × Int × Int × Int × Int) × Int
noncomputable def c33 : Code := bodyOf Tryd.f33
noncomputable def an33 : Ann := (.s .l (.s .l (.s (.s .l (.s .l (.j [1, 2, 4] .l .l))) (.s (.s .l (.j [2, 4] (.j [2, 4, 18, 19, 20] (.s .l (.s (.j [2, 4, 18, 19, 20] .l .l) (.s (.j [2, 4, 18, 19, 20] .l .l) .l))) .l) .l)) .l))))
def pk33 : List PK := [.c (.pair (.int .i64) (.sl (.pair (.int .i64) (.int .i64))))]
def rk33 : List RK := [.box (.pair (.int .i64) (.pair (.int .u64) (.pair (.int .u64) (.pair (.int .u64) (.pair (.int .u64) (.pair (.int .u64) (.pair (.int .u64) (.int .u64)))))))) 2, .c (.int .i64) 3]
noncomputable def rt33 (st : St) : Option R33 := rtG rk33 st
noncomputable def E33 (n : Nat × Nat) : Env := { T := tab, phi := (consPhi 66 (fun _ => true) (P66 n) noPhi), eff := fun _ => false, fuel := n.1, hold := n.2 }
noncomputable def kq33_3 (n : Nat × Nat) : St → Option R33 := run (E33 n) (cB (cB (cB (cB c33)))) (Ann.snd (Ann.snd (Ann.snd (Ann.snd an33)))) rt33 (fun _ _ => none) rt33
noncomputable def xb33_5 (n : Nat × Nat) : Nat → St → Option R33 := fun j s => bif Nat.beq j 0 then normC [2, 4] s (kq33_3 n) else (fun _ _ => none) j s
noncomputable def F33_6 (n : Nat × Nat) : (St → Option R33) → St → Option R33 := fun K s => run (E33 n) (cA (cA (cB (cA (cB (cB (cB c33))))))) (Ann.fst (Ann.fst (Ann.snd (Ann.fst (Ann.snd (Ann.snd (Ann.snd an33))))))) (fun s => normC [2, 4, 18, 19, 20] s K) (xb33_5 n) rt33 s
noncomputable def L33_1 (n : Nat × Nat) (m : Nat) (v18 : List (Int × Int)) (v19 : Int) (v20 : Int) (v2_0 : Int) (v2_1 : Int) (v2_2 : Int) (v2_3 : Int) (v2_4 : Int) (v2_5 : Int) (v2_6 : Int) (v2_7 : Int) (w4_0 : Int) (w4_1 : Int) (w4_2 : Int) (w4_3 : Int) (w4_4 : Int) (w4_5 : Int) (w4_6 : Int) (w4_7 : Int) : Option R33 := loopN (F33_6 n) m { tm := [uu, uu, .ptr 2 0, uu, .ptr 4 0, uu, uu, uu, uu, uu, uu, uu, uu, uu, uu, uu, uu, uu, .c (.sl (.pair (.int .i64) (.int .i64)) v18 false), .c (.int .i64 v19), .c (.int .i64 v20), uu, uu, uu, uu, uu, uu, uu, uu, uu, uu, uu, uu, uu, uu, uu, uu], hp := (upd (upd emp 4 (.box [.int .i64 w4_0, .int .u64 w4_1, .int .u64 w4_2, .int .u64 w4_3, .int .u64 w4_4, .int .u64 w4_5, .int .u64 w4_6, .int .u64 w4_7])) 2 (.box [.int .i64 v2_0, .int .u64 v2_1, .int .u64 v2_2, .int .u64 v2_3, .int .u64 v2_4, .int .u64 v2_5, .int .u64 v2_6, .int .u64 v2_7])) }
theorem L33_1_eq (n : Nat × Nat) (m1 : Nat) (v18 : List (Int × Int)) (v19 : Int) (v20 : Int) (v2_0 : Int) (v2_1 : Int) (v2_2 : Int) (v2_3 : Int) (v2_4 : Int) (v2_5 : Int) (v2_6 : Int) (v2_7 : Int) (w4_0 : Int) (w4_1 : Int) (w4_2 : Int) (w4_3 : Int) (w4_4 : Int) (w4_5 : Int) (w4_6 : Int) (w4_7 : Int) : L33_1 n (m1 + 1) v18 v19 v20 v2_0 v2_1 v2_2 v2_3 v2_4 v2_5 v2_6 v2_7 w4_0 w4_1 w4_2 w4_3 w4_4 w4_5 w4_6 w4_7 =
 (bif decide (v20 < v19) then (idx v18 v20).bind fun x2' =>
 (bif inB 0 2 then (idx [x2'.1, x2'.2] 0).bind fun x3' =>
 (bif inB x3' 7 then (idx [w4_1, w4_2, w4_3, w4_4, w4_5, w4_6, w4_7] x3').bind fun x4' =>
 (bif inB 1 2 then (idx [x2'.1, x2'.2] 1).bind fun x5' =>
 (bif decide (x5' < 0) then none
 else (bif inB x3' 7 then L33_1 n m1 v18 v19 (wr .i64 (v20 + 1)) v2_0 v2_1 v2_2 v2_3 v2_4 v2_5 v2_6 v2_7 w4_0 (bif (x3' == 0) then wr .u64 (BitVec.ofInt (IntKind.bits .u64) x4' ||| BitVec.ofInt (IntKind.bits .u64) (wr .u64 (1 * 2 ^ (min (Int.toNat x5') (IntKind.bits .u64))))).toNat else w4_1) (bif (x3' == 1) then wr .u64 (BitVec.ofInt (IntKind.bits .u64) x4' ||| BitVec.ofInt (IntKind.bits .u64) (wr .u64 (1 * 2 ^ (min (Int.toNat x5') (IntKind.bits .u64))))).toNat else w4_2) (bif (x3' == 2) then wr .u64 (BitVec.ofInt (IntKind.bits .u64) x4' ||| BitVec.ofInt (IntKind.bits .u64) (wr .u64 (1 * 2 ^ (min (Int.toNat x5') (IntKind.bits .u64))))).toNat else w4_3) (bif (x3' == 3) then wr .u64 (BitVec.ofInt (IntKind.bits .u64) x4' ||| BitVec.ofInt (IntKind.bits .u64) (wr .u64 (1 * 2 ^ (min (Int.toNat x5') (IntKind.bits .u64))))).toNat else w4_4) (bif (x3' == 4) then wr .u64 (BitVec.ofInt (IntKind.bits .u64) x4' ||| BitVec.ofInt (IntKind.bits .u64) (wr .u64 (1 * 2 ^ (min (Int.toNat x5') (IntKind.bits .u64))))).toNat else w4_5) (bif (x3' == 5) then wr .u64 (BitVec.ofInt (IntKind.bits .u64) x4' ||| BitVec.ofInt (IntKind.bits .u64) (wr .u64 (1 * 2 ^ (min (Int.toNat x5') (IntKind.bits .u64))))).toNat else w4_6) (bif (x3' == 6) then wr .u64 (BitVec.ofInt (IntKind.bits .u64) x4' ||| BitVec.ofInt (IntKind.bits .u64) (wr .u64 (1 * 2 ^ (min (Int.toNat x5') (IntKind.bits .u64))))).toNat else w4_7)
 else none))
 else none)
 else none)
 else none)
 else some ((w4_0, w4_1, w4_2, w4_3, w4_4, w4_5, w4_6, w4_7), 0)) := by kernel_rfl
noncomputable def S33 (n : Nat × Nat) (b0 : Int × List (Int × Int)) : Option R33 := run (E33 n) c33 an33 rt33 (fun _ _ => none) rt33 { tm := [.agg [.int .i64 b0.1, .sl (.pair (.int .i64) (.int .i64)) b0.2 false], uu, uu, uu, uu, uu, uu, uu, uu, uu, uu, uu, uu, uu, uu, uu, uu, uu, uu, uu, uu, uu, uu, uu, uu, uu, uu, uu, uu, uu, uu, uu, uu, uu, uu, uu, uu], hp := emp }
theorem S33_eq (n : Nat × Nat) (b0 : Int × List (Int × Int)) : S33 n b0 =
 (S66 n b0).bind fun r1' =>
 (bif (r1' != 0) then some ((b0.1, 0, 0, 0, 0, 0, 0, 0), r1')
 else L33_1 n n.1 b0.2 (b0.2.length : Int) 0 0 0 0 0 0 0 0 0 b0.1 0 0 0 0 0 0 0) := by kernel_rfl
theorem S33_run (n : Nat × Nat) (xs : pksDen pk33) : S33 n xs.1 = runG (E33 n) noScope c33 an33 (rtG rk33) (fun _ _ => none) (rtG rk33) (st0 pk33 xs Tryd.f33.ntmps) := by kernel_rfl
noncomputable def P33 (n : Nat × Nat) := phiOf pk33 rk33 (fun xs => S33 n xs.1)
theorem call33 : CallOK Tryd.prog 33 := callOK_of Tryd.func33 (by kernel_rfl) (by kernel_rfl)
theorem env33 (n : Nat × Nat) : EnvOK Tryd.prog (E33 n) := envOK0 (consPhi_ok (FC66 n) call66 noPhi_ok) rfl rfl
theorem par33 (n : Nat × Nat) : EnvPar (E33 n) := envPar0 (consPhi_par phiOf_Par1 noPhi_par) rfl
theorem FC33 (n : Nat × Nat) : FCs Tryd.prog 33 (P33 n) := phiOf_FCs fun xs r h vs hv => FC.of_runG tabOK eqsOK (env33 n) (par33 n) mixed (fun _ p _ => noScope_ok p.1 p.2) Tryd.func33 (c := c33) (an := an33) (pks := pk33) (rks := rk33) (by kernel_rfl) (by kernel_rfl) hv ((S33_run n xs).symm.trans h)
/- (headword/see.web).judged -/
abbrev R34 := Int
noncomputable def c34 : Code := bodyOf Tryd.f34
noncomputable def an34 : Ann := (.s .l (.s .l (.s (.s .l (.j [5] (.j [1, 5, 12, 13, 14, 27, 28, 29, 30, 36, 37, 38, 39] (.s .l (.s (.j [1, 5, 12, 13, 14, 27, 28, 29, 30, 36, 37, 38, 39] .l .l) (.j [] (.j [1, 5, 12, 13, 14, 27, 28, 29, 30, 36, 37, 38, 39] (.s .l (.s .l (.j [1, 5, 12, 13, 14, 27, 28, 29, 30, 36, 37, 38, 39] (.s .l (.j [1, 5, 12, 13, 14, 27, 28, 29, 30, 36, 37, 38, 39] .l (.s .l (.j [1, 5, 12, 13, 14, 27, 28, 29, 30, 36, 37, 38, 39] .l .l)))) .l))) .l) .l))) .l) .l)) (.s (.s .l (.j [] .l .l)) .l))))
def pk34 : List PK := [.c (.pair (.int .i64) (.pair (.int .u64) (.pair (.int .u64) (.pair (.int .u64) (.pair (.int .u64) (.pair (.int .u64) (.pair (.int .u64) (.int .u64)))))))), .c (.int .u64)]
def rk34 : List RK := [.c (.int .i64) 4]
noncomputable def rt34 (st : St) : Option R34 := rtG rk34 st
noncomputable def E34 (n : Nat × Nat) : Env := { T := tab, phi := noPhi, eff := fun _ => false, fuel := n.1, hold := n.2 }
noncomputable def kq34_1 (n : Nat × Nat) : St → Option R34 := run (E34 n) (cB (cB (cB c34))) (Ann.snd (Ann.snd (Ann.snd an34))) rt34 (fun _ _ => none) rt34
noncomputable def xb34_3 (n : Nat × Nat) : Nat → St → Option R34 := fun j s => bif Nat.beq j 0 then normC [5] s (kq34_1 n) else (fun _ _ => none) j s
noncomputable def F34_4 (n : Nat × Nat) : (St → Option R34) → St → Option R34 := fun K s => run (E34 n) (cA (cA (cB (cA (cB (cB c34)))))) (Ann.fst (Ann.fst (Ann.snd (Ann.fst (Ann.snd (Ann.snd an34)))))) (fun s => normC [1, 5, 12, 13, 14, 27, 28, 29, 30, 36, 37, 38, 39] s K) (xb34_3 n) rt34 s
noncomputable def kq34_7 (n : Nat × Nat) (m1 : Nat) : St → Option R34 := run (E34 n) (cB (cB (cB (cA (cA (cB (cA (cB (cB c34))))))))) (Ann.snd (Ann.snd (Ann.snd (Ann.fst (Ann.fst (Ann.snd (Ann.fst (Ann.snd (Ann.snd an34))))))))) (fun s => normC [1, 5, 12, 13, 14, 27, 28, 29, 30, 36, 37, 38, 39] s (loopN (F34_4 n) m1)) (xb34_3 n) rt34
noncomputable def L34_1 (n : Nat × Nat) (m : Nat) (choice1 : Int) (v5 : Bool) (v12 : List Int) (v13 : Int) (v14 : Int) : Option R34 := loopN (F34_4 n) m { tm := [uu, .c (.int .u64 choice1), uu, uu, uu, .c (.bool v5), uu, uu, uu, uu, uu, uu, .c (.sl (.int .u64) v12 false), .c (.int .i64 v13), .c (.int .i64 v14), uu, uu, uu, uu, uu, uu, uu, uu, uu, uu, uu, uu, uu, uu, uu, uu, uu, uu, uu, uu, uu, uu, uu, uu, uu, uu, uu, uu], hp := emp }
noncomputable def L34_2 (n : Nat × Nat) (m1 : Nat) (choice1 : Int) (v5 : Bool) (v12 : List Int) (v13 : Int) (v14 : Int) : Option R34 := loopN (fun _ => (kq34_7 n m1)) n.2 { tm := [uu, .c (.int .u64 choice1), uu, uu, uu, .c (.bool v5), uu, uu, uu, uu, uu, uu, .c (.sl (.int .u64) v12 false), .c (.int .i64 v13), .c (.int .i64 v14), uu, uu, uu, uu, uu, uu, uu, uu, uu, uu, uu, uu, uu, uu, uu, uu, uu, uu, uu, uu, uu, uu, uu, uu, uu, uu, uu, uu], hp := emp }
theorem L34_1_eq (n : Nat × Nat) (m1 : Nat) (choice1 : Int) (v5 : Bool) (v12 : List Int) (v13 : Int) (v14 : Int) : L34_1 n (m1 + 1) choice1 v5 v12 v13 v14 =
 (bif decide (v14 < v13) then (idx v12 v14).bind fun x1' =>
 (bif decide (v14 < 0) then none
 else ((bif (((wr .u64 (BitVec.ofInt (IntKind.bits .u64) (Int.fdiv choice1 (2 ^ (min (Int.toNat v14) (IntKind.bits .u64)))) &&& BitVec.ofInt (IntKind.bits .u64) 1).toNat) == 1) == true) then some ((wr .u64 (BitVec.ofInt (IntKind.bits .u64) x1' &&& BitVec.ofInt (IntKind.bits .u64) choice1).toNat) != 0)
 else some false)).bind fun b2' =>
 (bif b2' then some 13
 else ((bif ((!((wr .u64 (BitVec.ofInt (IntKind.bits .u64) (Int.fdiv choice1 (2 ^ (min (Int.toNat v14) (IntKind.bits .u64)))) &&& BitVec.ofInt (IntKind.bits .u64) 1).toNat) == 1)) == true) then some ((wr .u64 (BitVec.ofInt (IntKind.bits .u64) x1' &&& BitVec.ofInt (IntKind.bits .u64) choice1).toNat) == 0)
 else some false)).bind fun b3' =>
 (bif b3' then L34_2 n m1 choice1 true v12 v13 v14
 else L34_2 n m1 choice1 v5 v12 v13 v14)))
 else (bif v5 then some 21
 else some 0)) := by kernel_rfl
theorem L34_2_raw (n : Nat × Nat) (m1 : Nat) (choice1 : Int) (v5 : Bool) (v12 : List Int) (v13 : Int) (v14 : Int) : (kq34_7 n m1) { tm := [uu, .c (.int .u64 choice1), uu, uu, uu, .c (.bool v5), uu, uu, uu, uu, uu, uu, .c (.sl (.int .u64) v12 false), .c (.int .i64 v13), .c (.int .i64 v14), uu, uu, uu, uu, uu, uu, uu, uu, uu, uu, uu, uu, uu, uu, uu, uu, uu, uu, uu, uu, uu, uu, uu, uu, uu, uu, uu, uu], hp := emp } =
    L34_1 n m1 choice1 v5 v12 v13 (wr .i64 (v14 + 1)) := by kernel_rfl
noncomputable def S34 (n : Nat × Nat) (w0 : Int × Int × Int × Int × Int × Int × Int × Int) (choice1 : Int) : Option R34 := run (E34 n) c34 an34 rt34 (fun _ _ => none) rt34 { tm := [.agg [.int .i64 w0.1, .int .u64 w0.2.1, .int .u64 w0.2.2.1, .int .u64 w0.2.2.2.1, .int .u64 w0.2.2.2.2.1, .int .u64 w0.2.2.2.2.2.1, .int .u64 w0.2.2.2.2.2.2.1, .int .u64 w0.2.2.2.2.2.2.2], .c (.int .u64 choice1), uu, uu, uu, uu, uu, uu, uu, uu, uu, uu, uu, uu, uu, uu, uu, uu, uu, uu, uu, uu, uu, uu, uu, uu, uu, uu, uu, uu, uu, uu, uu, uu, uu, uu, uu, uu, uu, uu, uu, uu, uu], hp := emp }
theorem S34_eq (n : Nat × Nat) (w0 : Int × Int × Int × Int × Int × Int × Int × Int) (choice1 : Int) : S34 n w0 choice1 =
 (bif bounds none (some w0.1) none 7 then L34_1 n n.1 choice1 false ([w0.2.1, w0.2.2.1, w0.2.2.2.1, w0.2.2.2.2.1, w0.2.2.2.2.2.1, w0.2.2.2.2.2.2.1, w0.2.2.2.2.2.2.2].take (Int.toNat w0.1)) (([w0.2.1, w0.2.2.1, w0.2.2.2.1, w0.2.2.2.2.1, w0.2.2.2.2.2.1, w0.2.2.2.2.2.2.1, w0.2.2.2.2.2.2.2].take (Int.toNat w0.1)).length : Int) 0
 else none) := by kernel_rfl
theorem S34_run (n : Nat × Nat) (xs : pksDen pk34) : S34 n xs.1 xs.2.1 = runG (E34 n) noScope c34 an34 (rtG rk34) (fun _ _ => none) (rtG rk34) (st0 pk34 xs Tryd.f34.ntmps) := by kernel_rfl
noncomputable def P34 (n : Nat × Nat) := phiOf pk34 rk34 (fun xs => S34 n xs.1 xs.2.1)
theorem call34 : CallOK Tryd.prog 34 := callOK_of Tryd.func34 (by kernel_rfl) (by kernel_rfl)
theorem env34 (n : Nat × Nat) : EnvOK Tryd.prog (E34 n) := envOK0 noPhi_ok rfl rfl
theorem par34 (n : Nat × Nat) : EnvPar (E34 n) := envPar0 noPhi_par rfl
theorem FC34 (n : Nat × Nat) : FCs Tryd.prog 34 (P34 n) := phiOf_FCs fun xs r h vs hv => FC.of_runG tabOK eqsOK (env34 n) (par34 n) mixed (fun _ p _ => noScope_ok p.1 p.2) Tryd.func34 (c := c34) (an := an34) (pks := pk34) (rks := rk34) (by kernel_rfl) (by kernel_rfl) hv ((S34_run n xs).symm.trans h)
abbrev R35 := List Int
noncomputable def c35 : Code := bodyOf Tryd.f35
noncomputable def an35 : Ann := (.s .l (.s .l (.s (.j [3] (.j [0, 3] (.s (.s .l (.j [0, 3] .l .l)) (.s (.j [0, 3] .l .l) .l)) .l) .l) .l)))
def pk35 : List PK := [.c (.int .u64)]
def rk35 : List RK := [.own (.int .i64) 2]
noncomputable def rt35 (st : St) : Option R35 := rtG rk35 st
noncomputable def E35 (n : Nat × Nat) : Env := { T := tab, phi := (consPhi 41 (fun _ => true) (P41 n) noPhi), eff := fun _ => false, fuel := n.1, hold := n.2 }
noncomputable def kq35_1 (n : Nat × Nat) : St → Option R35 := run (E35 n) (cB (cB (cB c35))) (Ann.snd (Ann.snd (Ann.snd an35))) rt35 (fun _ _ => none) rt35
noncomputable def xb35_3 (n : Nat × Nat) : Nat → St → Option R35 := fun j s => bif Nat.beq j 0 then normC [3] s (kq35_1 n) else (fun _ _ => none) j s
noncomputable def F35_4 (n : Nat × Nat) : (St → Option R35) → St → Option R35 := fun K s => run (E35 n) (cA (cA (cA (cB (cB c35))))) (Ann.fst (Ann.fst (Ann.fst (Ann.snd (Ann.snd an35))))) (fun s => normC [0, 3] s K) (xb35_3 n) rt35 s
noncomputable def L35_1 (n : Nat × Nat) (m : Nat) (v0 : Int) (out3 : List Int) : Option R35 := loopN (F35_4 n) m { tm := [.c (.int .u64 v0), uu, uu, .own 3 none false, uu, uu, uu, uu, uu, uu, uu, uu, uu, uu, uu, uu], hp := (upd emp 3 (.arr (.int .i64) out3 false)) }
theorem L35_1_eq (n : Nat × Nat) (m1 : Nat) (v0 : Int) (out3 : List Int) : L35_1 n (m1 + 1) v0 out3 =
 (bif (v0 != 0) then (S41 n v0).bind fun r1' =>
 (bif decide (out3.length + [r1'].length ≤ lim) then L35_1 n m1 (wr .u64 (BitVec.ofInt (IntKind.bits .u64) v0 &&& BitVec.ofInt (IntKind.bits .u64) (wr .u64 (v0 - 1))).toNat) (out3 ++ [r1'])
 else none)
 else some out3) := by kernel_rfl
noncomputable def S35 (n : Nat × Nat) (v0 : Int) : Option R35 := run (E35 n) c35 an35 rt35 (fun _ _ => none) rt35 { tm := [.c (.int .u64 v0), uu, uu, uu, uu, uu, uu, uu, uu, uu, uu, uu, uu, uu, uu, uu], hp := emp }
theorem S35_eq (n : Nat × Nat) (v0 : Int) : S35 n v0 =
    L35_1 n n.1 v0 [] := by kernel_rfl
theorem S35_run (n : Nat × Nat) (xs : pksDen pk35) : S35 n xs.1 = runG (E35 n) noScope c35 an35 (rtG rk35) (fun _ _ => none) (rtG rk35) (st0 pk35 xs Tryd.f35.ntmps) := by kernel_rfl
noncomputable def P35 (n : Nat × Nat) := phiOf pk35 rk35 (fun xs => S35 n xs.1)
theorem call35 : CallOK Tryd.prog 35 := callOK_of Tryd.func35 (by kernel_rfl) (by kernel_rfl)
theorem env35 (n : Nat × Nat) : EnvOK Tryd.prog (E35 n) := envOK0 (consPhi_ok (FC41 n) call41 noPhi_ok) rfl rfl
theorem par35 (n : Nat × Nat) : EnvPar (E35 n) := envPar0 (consPhi_par phiOf_Par1 noPhi_par) rfl
theorem FC35 (n : Nat × Nat) : FCs Tryd.prog 35 (P35 n) := phiOf_FCs fun xs r h vs hv => FC.of_runG tabOK eqsOK (env35 n) (par35 n) mixed (fun _ p _ => noScope_ok p.1 p.2) Tryd.func35 (c := c35) (an := an35) (pks := pk35) (rks := rk35) (by kernel_rfl) (by kernel_rfl) hv ((S35_run n xs).symm.trans h)
/- math/bits.Len64 -/
abbrev R100 := Int
noncomputable def c100 : Code := bodyOf Tryd.f100
noncomputable def an100 : Ann := (.s .l (.s (.s .l (.j [0, 2] .l .l)) (.s (.s .l (.j [0, 2] .l .l)) (.s (.s .l (.j [0, 2] .l .l)) .l))))
def pk100 : List PK := [.c (.int .u64)]
def rk100 : List RK := [.c (.int .i64) 2]
noncomputable def rt100 (st : St) : Option R100 := rtG rk100 st
noncomputable def E100 (n : Nat × Nat) : Env := { T := tab, phi := noPhi, eff := fun _ => false, fuel := n.1, hold := n.2 }
noncomputable def S100 (n : Nat × Nat) (x0 : Int) : Option R100 := run (E100 n) c100 an100 rt100 (fun _ _ => none) rt100 { tm := [.c (.int .u64 x0), uu, uu, uu, uu, uu, uu, uu, uu, uu, uu, uu, uu, uu, uu, uu, uu, uu, uu, uu, uu, uu, uu, uu, uu], hp := emp }
theorem S100_eq (n : Nat × Nat) (x0 : Int) : S100 n x0 =
 (bif decide (x0 ≥ 4294967296) then (bif decide (32 < 0) then none
 else (bif decide (Int.fdiv x0 (2 ^ (min (Int.toNat 32) (IntKind.bits .u64))) ≥ 65536) then (bif decide (16 < 0) then none
 else (bif decide (Int.fdiv (Int.fdiv x0 (2 ^ (min (Int.toNat 32) (IntKind.bits .u64)))) (2 ^ (min (Int.toNat 16) (IntKind.bits .u64))) ≥ 256) then (bif decide (8 < 0) then none
 else (idx (strBytes (⟨#[0, 1, 2, 2, 3, 3, 3, 3, 4, 4, 4, 4, 4, 4, 4, 4, 5, 5, 5, 5, 5, 5, 5, 5, 5, 5, 5, 5, 5, 5, 5, 5, 6, 6, 6, 6, 6, 6, 6, 6, 6, 6, 6, 6, 6, 6, 6, 6, 6, 6, 6, 6, 6, 6, 6, 6, 6, 6, 6, 6, 6, 6, 6, 6, 7, 7, 7, 7, 7, 7, 7, 7, 7, 7, 7, 7, 7, 7, 7, 7, 7, 7, 7, 7, 7, 7, 7, 7, 7, 7, 7, 7, 7, 7, 7, 7, 7, 7, 7, 7, 7, 7, 7, 7, 7, 7, 7, 7, 7, 7, 7, 7, 7, 7, 7, 7, 7, 7, 7, 7, 7, 7, 7, 7, 7, 7, 7, 7, 8, 8, 8, 8, 8, 8, 8, 8, 8, 8, 8, 8, 8, 8, 8, 8, 8, 8, 8, 8, 8, 8, 8, 8, 8, 8, 8, 8, 8, 8, 8, 8, 8, 8, 8, 8, 8, 8, 8, 8, 8, 8, 8, 8, 8, 8, 8, 8, 8, 8, 8, 8, 8, 8, 8, 8, 8, 8, 8, 8, 8, 8, 8, 8, 8, 8, 8, 8, 8, 8, 8, 8, 8, 8, 8, 8, 8, 8, 8, 8, 8, 8, 8, 8, 8, 8, 8, 8, 8, 8, 8, 8, 8, 8, 8, 8, 8, 8, 8, 8, 8, 8, 8, 8, 8, 8, 8, 8, 8, 8, 8, 8, 8, 8, 8, 8, 8, 8, 8, 8, 8, 8, 8, 8, 8, 8, 8, 8]⟩ : ByteArray)) (wr .u8 (Int.fdiv (Int.fdiv (Int.fdiv x0 (2 ^ (min (Int.toNat 32) (IntKind.bits .u64)))) (2 ^ (min (Int.toNat 16) (IntKind.bits .u64)))) (2 ^ (min (Int.toNat 8) (IntKind.bits .u64)))))).bind fun x1' =>
 some (wr .i64 ((wr .i64 ((wr .i64 (32 + 16)) + 8)) + (wr .i64 x1'))))
 else (idx (strBytes (⟨#[0, 1, 2, 2, 3, 3, 3, 3, 4, 4, 4, 4, 4, 4, 4, 4, 5, 5, 5, 5, 5, 5, 5, 5, 5, 5, 5, 5, 5, 5, 5, 5, 6, 6, 6, 6, 6, 6, 6, 6, 6, 6, 6, 6, 6, 6, 6, 6, 6, 6, 6, 6, 6, 6, 6, 6, 6, 6, 6, 6, 6, 6, 6, 6, 7, 7, 7, 7, 7, 7, 7, 7, 7, 7, 7, 7, 7, 7, 7, 7, 7, 7, 7, 7, 7, 7, 7, 7, 7, 7, 7, 7, 7, 7, 7, 7, 7, 7, 7, 7, 7, 7, 7, 7, 7, 7, 7, 7, 7, 7, 7, 7, 7, 7, 7, 7, 7, 7, 7, 7, 7, 7, 7, 7, 7, 7, 7, 7, 8, 8, 8, 8, 8, 8, 8, 8, 8, 8, 8, 8, 8, 8, 8, 8, 8, 8, 8, 8, 8, 8, 8, 8, 8, 8, 8, 8, 8, 8, 8, 8, 8, 8, 8, 8, 8, 8, 8, 8, 8, 8, 8, 8, 8, 8, 8, 8, 8, 8, 8, 8, 8, 8, 8, 8, 8, 8, 8, 8, 8, 8, 8, 8, 8, 8, 8, 8, 8, 8, 8, 8, 8, 8, 8, 8, 8, 8, 8, 8, 8, 8, 8, 8, 8, 8, 8, 8, 8, 8, 8, 8, 8, 8, 8, 8, 8, 8, 8, 8, 8, 8, 8, 8, 8, 8, 8, 8, 8, 8, 8, 8, 8, 8, 8, 8, 8, 8, 8, 8, 8, 8, 8, 8, 8, 8, 8, 8]⟩ : ByteArray)) (wr .u8 (Int.fdiv (Int.fdiv x0 (2 ^ (min (Int.toNat 32) (IntKind.bits .u64)))) (2 ^ (min (Int.toNat 16) (IntKind.bits .u64)))))).bind fun x2' =>
 some (wr .i64 ((wr .i64 (32 + 16)) + (wr .i64 x2')))))
 else (bif decide (Int.fdiv x0 (2 ^ (min (Int.toNat 32) (IntKind.bits .u64))) ≥ 256) then (bif decide (8 < 0) then none
 else (idx (strBytes (⟨#[0, 1, 2, 2, 3, 3, 3, 3, 4, 4, 4, 4, 4, 4, 4, 4, 5, 5, 5, 5, 5, 5, 5, 5, 5, 5, 5, 5, 5, 5, 5, 5, 6, 6, 6, 6, 6, 6, 6, 6, 6, 6, 6, 6, 6, 6, 6, 6, 6, 6, 6, 6, 6, 6, 6, 6, 6, 6, 6, 6, 6, 6, 6, 6, 7, 7, 7, 7, 7, 7, 7, 7, 7, 7, 7, 7, 7, 7, 7, 7, 7, 7, 7, 7, 7, 7, 7, 7, 7, 7, 7, 7, 7, 7, 7, 7, 7, 7, 7, 7, 7, 7, 7, 7, 7, 7, 7, 7, 7, 7, 7, 7, 7, 7, 7, 7, 7, 7, 7, 7, 7, 7, 7, 7, 7, 7, 7, 7, 8, 8, 8, 8, 8, 8, 8, 8, 8, 8, 8, 8, 8, 8, 8, 8, 8, 8, 8, 8, 8, 8, 8, 8, 8, 8, 8, 8, 8, 8, 8, 8, 8, 8, 8, 8, 8, 8, 8, 8, 8, 8, 8, 8, 8, 8, 8, 8, 8, 8, 8, 8, 8, 8, 8, 8, 8, 8, 8, 8, 8, 8, 8, 8, 8, 8, 8, 8, 8, 8, 8, 8, 8, 8, 8, 8, 8, 8, 8, 8, 8, 8, 8, 8, 8, 8, 8, 8, 8, 8, 8, 8, 8, 8, 8, 8, 8, 8, 8, 8, 8, 8, 8, 8, 8, 8, 8, 8, 8, 8, 8, 8, 8, 8, 8, 8, 8, 8, 8, 8, 8, 8, 8, 8, 8, 8, 8, 8]⟩ : ByteArray)) (wr .u8 (Int.fdiv (Int.fdiv x0 (2 ^ (min (Int.toNat 32) (IntKind.bits .u64)))) (2 ^ (min (Int.toNat 8) (IntKind.bits .u64)))))).bind fun x3' =>
 some (wr .i64 ((wr .i64 (32 + 8)) + (wr .i64 x3'))))
 else (idx (strBytes (⟨#[0, 1, 2, 2, 3, 3, 3, 3, 4, 4, 4, 4, 4, 4, 4, 4, 5, 5, 5, 5, 5, 5, 5, 5, 5, 5, 5, 5, 5, 5, 5, 5, 6, 6, 6, 6, 6, 6, 6, 6, 6, 6, 6, 6, 6, 6, 6, 6, 6, 6, 6, 6, 6, 6, 6, 6, 6, 6, 6, 6, 6, 6, 6, 6, 7, 7, 7, 7, 7, 7, 7, 7, 7, 7, 7, 7, 7, 7, 7, 7, 7, 7, 7, 7, 7, 7, 7, 7, 7, 7, 7, 7, 7, 7, 7, 7, 7, 7, 7, 7, 7, 7, 7, 7, 7, 7, 7, 7, 7, 7, 7, 7, 7, 7, 7, 7, 7, 7, 7, 7, 7, 7, 7, 7, 7, 7, 7, 7, 8, 8, 8, 8, 8, 8, 8, 8, 8, 8, 8, 8, 8, 8, 8, 8, 8, 8, 8, 8, 8, 8, 8, 8, 8, 8, 8, 8, 8, 8, 8, 8, 8, 8, 8, 8, 8, 8, 8, 8, 8, 8, 8, 8, 8, 8, 8, 8, 8, 8, 8, 8, 8, 8, 8, 8, 8, 8, 8, 8, 8, 8, 8, 8, 8, 8, 8, 8, 8, 8, 8, 8, 8, 8, 8, 8, 8, 8, 8, 8, 8, 8, 8, 8, 8, 8, 8, 8, 8, 8, 8, 8, 8, 8, 8, 8, 8, 8, 8, 8, 8, 8, 8, 8, 8, 8, 8, 8, 8, 8, 8, 8, 8, 8, 8, 8, 8, 8, 8, 8, 8, 8, 8, 8, 8, 8, 8, 8]⟩ : ByteArray)) (wr .u8 (Int.fdiv x0 (2 ^ (min (Int.toNat 32) (IntKind.bits .u64)))))).bind fun x4' =>
 some (wr .i64 (32 + (wr .i64 x4'))))))
 else (bif decide (x0 ≥ 65536) then (bif decide (16 < 0) then none
 else (bif decide (Int.fdiv x0 (2 ^ (min (Int.toNat 16) (IntKind.bits .u64))) ≥ 256) then (bif decide (8 < 0) then none
 else (idx (strBytes (⟨#[0, 1, 2, 2, 3, 3, 3, 3, 4, 4, 4, 4, 4, 4, 4, 4, 5, 5, 5, 5, 5, 5, 5, 5, 5, 5, 5, 5, 5, 5, 5, 5, 6, 6, 6, 6, 6, 6, 6, 6, 6, 6, 6, 6, 6, 6, 6, 6, 6, 6, 6, 6, 6, 6, 6, 6, 6, 6, 6, 6, 6, 6, 6, 6, 7, 7, 7, 7, 7, 7, 7, 7, 7, 7, 7, 7, 7, 7, 7, 7, 7, 7, 7, 7, 7, 7, 7, 7, 7, 7, 7, 7, 7, 7, 7, 7, 7, 7, 7, 7, 7, 7, 7, 7, 7, 7, 7, 7, 7, 7, 7, 7, 7, 7, 7, 7, 7, 7, 7, 7, 7, 7, 7, 7, 7, 7, 7, 7, 8, 8, 8, 8, 8, 8, 8, 8, 8, 8, 8, 8, 8, 8, 8, 8, 8, 8, 8, 8, 8, 8, 8, 8, 8, 8, 8, 8, 8, 8, 8, 8, 8, 8, 8, 8, 8, 8, 8, 8, 8, 8, 8, 8, 8, 8, 8, 8, 8, 8, 8, 8, 8, 8, 8, 8, 8, 8, 8, 8, 8, 8, 8, 8, 8, 8, 8, 8, 8, 8, 8, 8, 8, 8, 8, 8, 8, 8, 8, 8, 8, 8, 8, 8, 8, 8, 8, 8, 8, 8, 8, 8, 8, 8, 8, 8, 8, 8, 8, 8, 8, 8, 8, 8, 8, 8, 8, 8, 8, 8, 8, 8, 8, 8, 8, 8, 8, 8, 8, 8, 8, 8, 8, 8, 8, 8, 8, 8]⟩ : ByteArray)) (wr .u8 (Int.fdiv (Int.fdiv x0 (2 ^ (min (Int.toNat 16) (IntKind.bits .u64)))) (2 ^ (min (Int.toNat 8) (IntKind.bits .u64)))))).bind fun x5' =>
 some (wr .i64 ((wr .i64 ((wr .i64 (0 + 16)) + 8)) + (wr .i64 x5'))))
 else (idx (strBytes (⟨#[0, 1, 2, 2, 3, 3, 3, 3, 4, 4, 4, 4, 4, 4, 4, 4, 5, 5, 5, 5, 5, 5, 5, 5, 5, 5, 5, 5, 5, 5, 5, 5, 6, 6, 6, 6, 6, 6, 6, 6, 6, 6, 6, 6, 6, 6, 6, 6, 6, 6, 6, 6, 6, 6, 6, 6, 6, 6, 6, 6, 6, 6, 6, 6, 7, 7, 7, 7, 7, 7, 7, 7, 7, 7, 7, 7, 7, 7, 7, 7, 7, 7, 7, 7, 7, 7, 7, 7, 7, 7, 7, 7, 7, 7, 7, 7, 7, 7, 7, 7, 7, 7, 7, 7, 7, 7, 7, 7, 7, 7, 7, 7, 7, 7, 7, 7, 7, 7, 7, 7, 7, 7, 7, 7, 7, 7, 7, 7, 8, 8, 8, 8, 8, 8, 8, 8, 8, 8, 8, 8, 8, 8, 8, 8, 8, 8, 8, 8, 8, 8, 8, 8, 8, 8, 8, 8, 8, 8, 8, 8, 8, 8, 8, 8, 8, 8, 8, 8, 8, 8, 8, 8, 8, 8, 8, 8, 8, 8, 8, 8, 8, 8, 8, 8, 8, 8, 8, 8, 8, 8, 8, 8, 8, 8, 8, 8, 8, 8, 8, 8, 8, 8, 8, 8, 8, 8, 8, 8, 8, 8, 8, 8, 8, 8, 8, 8, 8, 8, 8, 8, 8, 8, 8, 8, 8, 8, 8, 8, 8, 8, 8, 8, 8, 8, 8, 8, 8, 8, 8, 8, 8, 8, 8, 8, 8, 8, 8, 8, 8, 8, 8, 8, 8, 8, 8, 8]⟩ : ByteArray)) (wr .u8 (Int.fdiv x0 (2 ^ (min (Int.toNat 16) (IntKind.bits .u64)))))).bind fun x6' =>
 some (wr .i64 ((wr .i64 (0 + 16)) + (wr .i64 x6')))))
 else (bif decide (x0 ≥ 256) then (bif decide (8 < 0) then none
 else (idx (strBytes (⟨#[0, 1, 2, 2, 3, 3, 3, 3, 4, 4, 4, 4, 4, 4, 4, 4, 5, 5, 5, 5, 5, 5, 5, 5, 5, 5, 5, 5, 5, 5, 5, 5, 6, 6, 6, 6, 6, 6, 6, 6, 6, 6, 6, 6, 6, 6, 6, 6, 6, 6, 6, 6, 6, 6, 6, 6, 6, 6, 6, 6, 6, 6, 6, 6, 7, 7, 7, 7, 7, 7, 7, 7, 7, 7, 7, 7, 7, 7, 7, 7, 7, 7, 7, 7, 7, 7, 7, 7, 7, 7, 7, 7, 7, 7, 7, 7, 7, 7, 7, 7, 7, 7, 7, 7, 7, 7, 7, 7, 7, 7, 7, 7, 7, 7, 7, 7, 7, 7, 7, 7, 7, 7, 7, 7, 7, 7, 7, 7, 8, 8, 8, 8, 8, 8, 8, 8, 8, 8, 8, 8, 8, 8, 8, 8, 8, 8, 8, 8, 8, 8, 8, 8, 8, 8, 8, 8, 8, 8, 8, 8, 8, 8, 8, 8, 8, 8, 8, 8, 8, 8, 8, 8, 8, 8, 8, 8, 8, 8, 8, 8, 8, 8, 8, 8, 8, 8, 8, 8, 8, 8, 8, 8, 8, 8, 8, 8, 8, 8, 8, 8, 8, 8, 8, 8, 8, 8, 8, 8, 8, 8, 8, 8, 8, 8, 8, 8, 8, 8, 8, 8, 8, 8, 8, 8, 8, 8, 8, 8, 8, 8, 8, 8, 8, 8, 8, 8, 8, 8, 8, 8, 8, 8, 8, 8, 8, 8, 8, 8, 8, 8, 8, 8, 8, 8, 8, 8]⟩ : ByteArray)) (wr .u8 (Int.fdiv x0 (2 ^ (min (Int.toNat 8) (IntKind.bits .u64)))))).bind fun x7' =>
 some (wr .i64 ((wr .i64 (0 + 8)) + (wr .i64 x7'))))
 else (idx (strBytes (⟨#[0, 1, 2, 2, 3, 3, 3, 3, 4, 4, 4, 4, 4, 4, 4, 4, 5, 5, 5, 5, 5, 5, 5, 5, 5, 5, 5, 5, 5, 5, 5, 5, 6, 6, 6, 6, 6, 6, 6, 6, 6, 6, 6, 6, 6, 6, 6, 6, 6, 6, 6, 6, 6, 6, 6, 6, 6, 6, 6, 6, 6, 6, 6, 6, 7, 7, 7, 7, 7, 7, 7, 7, 7, 7, 7, 7, 7, 7, 7, 7, 7, 7, 7, 7, 7, 7, 7, 7, 7, 7, 7, 7, 7, 7, 7, 7, 7, 7, 7, 7, 7, 7, 7, 7, 7, 7, 7, 7, 7, 7, 7, 7, 7, 7, 7, 7, 7, 7, 7, 7, 7, 7, 7, 7, 7, 7, 7, 7, 8, 8, 8, 8, 8, 8, 8, 8, 8, 8, 8, 8, 8, 8, 8, 8, 8, 8, 8, 8, 8, 8, 8, 8, 8, 8, 8, 8, 8, 8, 8, 8, 8, 8, 8, 8, 8, 8, 8, 8, 8, 8, 8, 8, 8, 8, 8, 8, 8, 8, 8, 8, 8, 8, 8, 8, 8, 8, 8, 8, 8, 8, 8, 8, 8, 8, 8, 8, 8, 8, 8, 8, 8, 8, 8, 8, 8, 8, 8, 8, 8, 8, 8, 8, 8, 8, 8, 8, 8, 8, 8, 8, 8, 8, 8, 8, 8, 8, 8, 8, 8, 8, 8, 8, 8, 8, 8, 8, 8, 8, 8, 8, 8, 8, 8, 8, 8, 8, 8, 8, 8, 8, 8, 8, 8, 8, 8, 8]⟩ : ByteArray)) (wr .u8 x0)).bind fun x8' =>
 some (wr .i64 (0 + (wr .i64 x8')))))) := by kernel_rfl
theorem S100_run (n : Nat × Nat) (xs : pksDen pk100) : S100 n xs.1 = runG (E100 n) noScope c100 an100 (rtG rk100) (fun _ _ => none) (rtG rk100) (st0 pk100 xs Tryd.f100.ntmps) := by kernel_rfl
noncomputable def P100 (n : Nat × Nat) := phiOf pk100 rk100 (fun xs => S100 n xs.1)
theorem call100 : CallOK Tryd.prog 100 := callOK_of Tryd.func100 (by kernel_rfl) (by kernel_rfl)
theorem env100 (n : Nat × Nat) : EnvOK Tryd.prog (E100 n) := envOK0 noPhi_ok rfl rfl
theorem par100 (n : Nat × Nat) : EnvPar (E100 n) := envPar0 noPhi_par rfl
theorem FC100 (n : Nat × Nat) : FCs Tryd.prog 100 (P100 n) := phiOf_FCs fun xs r h vs hv => FC.of_runG tabOK eqsOK (env100 n) (par100 n) mixed (fun _ p _ => noScope_ok p.1 p.2) Tryd.func100 (c := c100) (an := an100) (pks := pk100) (rks := rk100) (by kernel_rfl) (by kernel_rfl) hv ((S100_run n xs).symm.trans h)
/- math/bits.Len -/
abbrev R68 := Int
noncomputable def c68 : Code := bodyOf Tryd.f68
noncomputable def an68 : Ann := (.s .l (.s (.j [0] .l .l) .l))
def pk68 : List PK := [.c (.int .u64)]
def rk68 : List RK := [.c (.int .i64) 2]
noncomputable def rt68 (st : St) : Option R68 := rtG rk68 st
noncomputable def E68 (n : Nat × Nat) : Env := { T := tab, phi := (consPhi 100 (fun _ => true) (P100 n) noPhi), eff := fun _ => false, fuel := n.1, hold := n.2 }
noncomputable def S68 (n : Nat × Nat) (x0 : Int) : Option R68 := run (E68 n) c68 an68 rt68 (fun _ _ => none) rt68 { tm := [.c (.int .u64 x0), uu, uu, uu, uu, uu, uu, uu], hp := emp }
theorem S68_eq (n : Nat × Nat) (x0 : Int) : S68 n x0 =
 (S100 n x0).bind fun r1' =>
 some r1' := by kernel_rfl
theorem S68_run (n : Nat × Nat) (xs : pksDen pk68) : S68 n xs.1 = runG (E68 n) noScope c68 an68 (rtG rk68) (fun _ _ => none) (rtG rk68) (st0 pk68 xs Tryd.f68.ntmps) := by kernel_rfl
noncomputable def P68 (n : Nat × Nat) := phiOf pk68 rk68 (fun xs => S68 n xs.1)
theorem call68 : CallOK Tryd.prog 68 := callOK_of Tryd.func68 (by kernel_rfl) (by kernel_rfl)
theorem env68 (n : Nat × Nat) : EnvOK Tryd.prog (E68 n) := envOK0 (consPhi_ok (FC100 n) call100 noPhi_ok) rfl rfl
theorem par68 (n : Nat × Nat) : EnvPar (E68 n) := envPar0 (consPhi_par phiOf_Par1 noPhi_par) rfl
theorem FC68 (n : Nat × Nat) : FCs Tryd.prog 68 (P68 n) := phiOf_FCs fun xs r h vs hv => FC.of_runG tabOK eqsOK (env68 n) (par68 n) mixed (fun _ p _ => noScope_ok p.1 p.2) Tryd.func68 (c := c68) (an := an68) (pks := pk68) (rks := rk68) (by kernel_rfl) (by kernel_rfl) hv ((S68_run n xs).symm.trans h)
/- slices.insertionSortCmpFunc[[]int] -/
abbrev R91c37 := Unit
noncomputable def c91c37 : Code := bodyOf Tryd.f91
noncomputable def an91c37 : Ann := (.s .l (.j [] (.j [0, 1, 2, 3, 8, 22, 23, 24, 25, 26, 27, 28, 29, 30, 31, 32, 33] (.s (.s .l (.j [0, 1, 2, 3, 8, 22, 23, 24, 25, 26, 27, 28, 29, 30, 31, 32, 33] .l .l)) (.s (.j [0, 1, 2, 3, 8, 22, 23, 24, 25, 26, 27, 28, 29, 30, 31, 32, 33] (.s .l (.j [0, 1, 2, 3, 8, 22, 23, 24, 25, 26, 27, 28, 29, 30, 31, 32, 33] (.j [0, 1, 2, 3, 8, 9, 22, 23, 24, 25, 26, 27, 28, 29, 30, 31, 32, 33] (.s (.s .l (.j [0, 1, 2, 3, 8, 9, 22, 23, 24, 25, 26, 27, 28, 29, 30, 31, 32, 33] .l .l)) (.s (.j [0, 1, 2, 3, 8, 9, 22, 23, 24, 25, 26, 27, 28, 29, 30, 31, 32, 33] .l .l) .l)) .l) .l)) .l) .l)) .l) .l))
def pk91c37 : List PK := [.c (.sl (.sl (.int .i64))), .c (.int .i64), .c (.int .i64), .f 37 []]
def rk91c37 : List RK := []
noncomputable def rt91c37 (st : St) : Option R91c37 := rtG rk91c37 st
noncomputable def E91c37 (n : Nat × Nat) : Env := { T := tab, phi := (consPhi 37 (fun _ => true) (P37 n) noPhi), eff := fun _ => false, fuel := n.1, hold := n.2, pcl := [22] }
noncomputable def xb91c37_2 (n : Nat × Nat) : Nat → St → Option R91c37 := fun j s => bif Nat.beq j 0 then normC [] s rt91c37 else (fun _ _ => none) j s
noncomputable def F91c37_3 (n : Nat × Nat) : (St → Option R91c37) → St → Option R91c37 := fun K s => run (E91c37 n) (cA (cA (cB c91c37))) (Ann.fst (Ann.fst (Ann.snd an91c37))) (fun s => normC [0, 1, 2, 3, 8, 22, 23, 24, 25, 26, 27, 28, 29, 30, 31, 32, 33] s K) (xb91c37_2 n) rt91c37 s
noncomputable def kq91c37_6 (n : Nat × Nat) (m1 : Nat) : St → Option R91c37 := run (E91c37 n) (cB (cB (cA (cA (cB c91c37))))) (Ann.snd (Ann.snd (Ann.fst (Ann.fst (Ann.snd an91c37))))) (fun s => normC [0, 1, 2, 3, 8, 22, 23, 24, 25, 26, 27, 28, 29, 30, 31, 32, 33] s (loopN (F91c37_3 n) m1)) (xb91c37_2 n) rt91c37
noncomputable def kc91c37_7 (n : Nat × Nat) (m1 : Nat) : St → Option R91c37 := fun s => normC [0, 1, 2, 3, 8, 22, 23, 24, 25, 26, 27, 28, 29, 30, 31, 32, 33] s (kq91c37_6 n m1)
noncomputable def xb91c37_8 (n : Nat × Nat) (m1 : Nat) : Nat → St → Option R91c37 := fun j s => bif Nat.beq j 1 then normC [0, 1, 2, 3, 8, 22, 23, 24, 25, 26, 27, 28, 29, 30, 31, 32, 33] s (kq91c37_6 n m1) else (xb91c37_2 n) j s
noncomputable def xb91c37_10 (n : Nat × Nat) (m1 : Nat) : Nat → St → Option R91c37 := fun j s => bif Nat.beq j 2 then normC [0, 1, 2, 3, 8, 22, 23, 24, 25, 26, 27, 28, 29, 30, 31, 32, 33] s (kc91c37_7 n m1) else (xb91c37_8 n m1) j s
noncomputable def F91c37_11 (n : Nat × Nat) (m1 : Nat) : (St → Option R91c37) → St → Option R91c37 := fun K s => run (E91c37 n) (cA (cA (cB (cA (cA (cB (cA (cA (cB c91c37))))))))) (Ann.fst (Ann.fst (Ann.snd (Ann.fst (Ann.fst (Ann.snd (Ann.fst (Ann.fst (Ann.snd an91c37))))))))) (fun s => normC [0, 1, 2, 3, 8, 9, 22, 23, 24, 25, 26, 27, 28, 29, 30, 31, 32, 33] s K) (xb91c37_10 n m1) rt91c37 s
noncomputable def L91c37_1 (n : Nat × Nat) (m : Nat) (data0 : List (List Int)) (a1 : Int) (b2 : Int) (i8 : Int) : Option R91c37 := loopN (F91c37_3 n) m { tm := [.c (.sl (.sl (.int .i64)) data0 false), .c (.int .i64 a1), .c (.int .i64 b2), .fn 37 [], uu, uu, uu, uu, .c (.int .i64 i8), uu, uu, uu, uu, uu, uu, uu, uu, uu, uu, uu, uu, uu, uu, uu, uu, uu, uu, uu, uu, uu, uu, uu, uu, uu, uu, uu, uu, uu, uu, uu, uu, uu, uu, uu, uu, uu, uu, uu, uu, uu, uu, uu, uu], hp := emp }
noncomputable def L91c37_2 (n : Nat × Nat) (m1 : Nat) (m : Nat) (data0 : List (List Int)) (a1 : Int) (b2 : Int) (i8 : Int) (j9 : Int) : Option R91c37 := loopN (F91c37_11 n m1) m { tm := [.c (.sl (.sl (.int .i64)) data0 false), .c (.int .i64 a1), .c (.int .i64 b2), .fn 37 [], uu, uu, uu, uu, .c (.int .i64 i8), .c (.int .i64 j9), uu, uu, uu, uu, uu, uu, uu, uu, uu, uu, uu, uu, uu, uu, uu, uu, uu, uu, uu, uu, uu, uu, uu, uu, uu, uu, uu, uu, uu, uu, uu, uu, uu, uu, uu, uu, uu, uu, uu, uu, uu, uu, uu], hp := emp }
theorem L91c37_1_eq (n : Nat × Nat) (m1 : Nat) (data0 : List (List Int)) (a1 : Int) (b2 : Int) (i8 : Int) : L91c37_1 n (m1 + 1) data0 a1 b2 i8 =
 (bif decide (i8 < b2) then L91c37_2 n m1 n.1 data0 a1 b2 i8 i8
 else some ()) := by kernel_rfl
theorem L91c37_2_eq (n : Nat × Nat) (m1 m2 : Nat) (data0 : List (List Int)) (a1 : Int) (b2 : Int) (i8 : Int) (j9 : Int) : L91c37_2 n m1 (m2 + 1) data0 a1 b2 i8 j9 =
 ((bif (decide (j9 > a1) == true) then (idx data0 j9).bind fun x1' =>
 (idx data0 (wr .i64 (j9 - 1))).bind fun x2' =>
 (S37 n x1' x2').bind fun r3' =>
 some (decide (r3' < 0))
 else some false)).bind fun b4' =>
 (bif b4' then none
 else L91c37_1 n m1 data0 a1 b2 (wr .i64 (i8 + 1))) := by kernel_rfl
noncomputable def S91c37 (n : Nat × Nat) (data0 : List (List Int)) (a1 : Int) (b2 : Int) : Option R91c37 := run (E91c37 n) c91c37 an91c37 rt91c37 (fun _ _ => none) rt91c37 { tm := [.c (.sl (.sl (.int .i64)) data0 false), .c (.int .i64 a1), .c (.int .i64 b2), .fn 37 [], uu, uu, uu, uu, uu, uu, uu, uu, uu, uu, uu, uu, uu, uu, uu, uu, uu, uu, uu, uu, uu, uu, uu, uu, uu, uu, uu, uu, uu, uu, uu, uu, uu, uu, uu, uu, uu, uu, uu, uu, uu, uu, uu, uu, uu, uu, uu, uu, uu], hp := emp }
theorem S91c37_eq (n : Nat × Nat) (data0 : List (List Int)) (a1 : Int) (b2 : Int) : S91c37 n data0 a1 b2 =
    L91c37_1 n n.1 data0 a1 b2 (wr .i64 (a1 + 1)) := by kernel_rfl
theorem S91c37_run (n : Nat × Nat) (xs : pksDen pk91c37) : S91c37 n xs.1 xs.2.1 xs.2.2.1 = runG (E91c37 n) noScope c91c37 an91c37 (rtG rk91c37) (fun _ _ => none) (rtG rk91c37) (st0 pk91c37 xs Tryd.f91.ntmps) := by kernel_rfl
noncomputable def P91c37 (n : Nat × Nat) := phiOf pk91c37 rk91c37 (fun xs => S91c37 n xs.1 xs.2.1 xs.2.2.1)
theorem call91 : CallOK Tryd.prog 91 := callOK_of Tryd.func91 (by kernel_rfl) (by kernel_rfl)
theorem env91c37 (n : Nat × Nat) : EnvOK Tryd.prog (E91c37 n) := envOK0 (consPhi_ok (FC37 n) call37 noPhi_ok) rfl rfl
theorem par91c37 (n : Nat × Nat) : EnvPar (E91c37 n) := envPar0 (consPhi_par phiOf_Par1 noPhi_par) rfl
theorem FC91c37 (n : Nat × Nat) : FCs Tryd.prog 91 (P91c37 n) := phiOf_FCs fun xs r h vs hv => FC.of_runG tabOK eqsOK (env91c37 n) (par91c37 n) mixed (fun _ p _ => noScope_ok p.1 p.2) Tryd.func91 (c := c91c37) (an := an91c37) (pks := pk91c37) (rks := rk91c37) (by kernel_rfl) (by kernel_rfl) hv ((S91c37_run n xs).symm.trans h)
/- slices.siftDownCmpFunc[[]int] -/
abbrev R118c37 := Unit
noncomputable def c118c37 : Code := bodyOf Tryd.f118
noncomputable def an118c37 : Ann := (.s .l (.j [] (.j [0, 2, 3, 4, 10, 24, 25, 26, 27, 28, 29, 30, 31, 32, 33, 34, 35, 36, 37, 38, 39] (.j [0, 2, 3, 4, 10, 24, 25, 26, 27, 28, 29, 30, 31, 32, 33, 34, 35, 36, 37, 38, 39] (.s .l (.s (.s .l (.j [0, 2, 3, 4, 10, 11, 24, 25, 26, 27, 28, 29, 30, 31, 32, 33, 34, 35, 36, 37, 38, 39] .l .l)) (.s (.s .l (.j [0, 2, 3, 4, 10, 11, 24, 25, 26, 27, 28, 29, 30, 31, 32, 33, 34, 35, 36, 37, 38, 39] .l .l)) (.s (.s .l (.j [0, 2, 3, 4, 10, 11, 24, 25, 26, 27, 28, 29, 30, 31, 32, 33, 34, 35, 36, 37, 38, 39] .l .l)) .l)))) .l) .l) .l))
def pk118c37 : List PK := [.c (.sl (.sl (.int .i64))), .c (.int .i64), .c (.int .i64), .c (.int .i64), .f 37 []]
def rk118c37 : List RK := []
noncomputable def rt118c37 (st : St) : Option R118c37 := rtG rk118c37 st
noncomputable def E118c37 (n : Nat × Nat) : Env := { T := tab, phi := (consPhi 37 (fun _ => true) (P37 n) noPhi), eff := fun _ => false, fuel := n.1, hold := n.2, pcl := [24, 43] }
noncomputable def xb118c37_2 (n : Nat × Nat) : Nat → St → Option R118c37 := fun j s => bif Nat.beq j 0 then normC [] s rt118c37 else (fun _ _ => none) j s
noncomputable def F118c37_3 (n : Nat × Nat) : (St → Option R118c37) → St → Option R118c37 := fun K s => run (E118c37 n) (cA (cA (cB c118c37))) (Ann.fst (Ann.fst (Ann.snd an118c37))) (fun s => normC [0, 2, 3, 4, 10, 24, 25, 26, 27, 28, 29, 30, 31, 32, 33, 34, 35, 36, 37, 38, 39] s K) (xb118c37_2 n) rt118c37 s
noncomputable def L118c37_1 (n : Nat × Nat) (m : Nat) (data0 : List (List Int)) (hi2 : Int) (first3 : Int) (root10 : Int) : Option R118c37 := loopN (F118c37_3 n) m { tm := [.c (.sl (.sl (.int .i64)) data0 false), uu, .c (.int .i64 hi2), .c (.int .i64 first3), .fn 37 [], uu, uu, uu, uu, uu, .c (.int .i64 root10), uu, uu, uu, uu, uu, uu, uu, uu, uu, uu, uu, uu, uu, uu, uu, uu, uu, uu, uu, uu, uu, uu, uu, uu, uu, uu, uu, uu, uu, uu, uu, uu, uu, uu, uu, uu, uu, uu, uu, uu, uu, uu, uu, uu, uu, uu, uu, uu, uu, uu, uu, uu, uu, uu, uu, uu, uu, uu, uu, uu, uu, uu, uu, uu, uu, uu, uu, uu, uu, uu, uu], hp := emp }
theorem L118c37_1_eq (n : Nat × Nat) (m1 : Nat) (data0 : List (List Int)) (hi2 : Int) (first3 : Int) (root10 : Int) : L118c37_1 n (m1 + 1) data0 hi2 first3 root10 =
 (bif decide (wr .i64 ((wr .i64 (2 * root10)) + 1) ≥ hi2) then some ()
 else ((bif (decide (wr .i64 ((wr .i64 ((wr .i64 (2 * root10)) + 1)) + 1) < hi2) == true) then (idx data0 (wr .i64 (first3 + (wr .i64 ((wr .i64 (2 * root10)) + 1))))).bind fun x1' =>
 (idx data0 (wr .i64 ((wr .i64 (first3 + (wr .i64 ((wr .i64 (2 * root10)) + 1)))) + 1))).bind fun x2' =>
 (S37 n x1' x2').bind fun r3' =>
 some (decide (r3' < 0))
 else some false)).bind fun b4' =>
 (bif b4' then (idx data0 (wr .i64 (first3 + root10))).bind fun x5' =>
 (idx data0 (wr .i64 (first3 + (wr .i64 ((wr .i64 ((wr .i64 (2 * root10)) + 1)) + 1))))).bind fun x6' =>
 (S37 n x5' x6').bind fun r7' =>
 (bif (!(decide (r7' < 0))) then some ()
 else none)
 else (idx data0 (wr .i64 (first3 + root10))).bind fun x8' =>
 (idx data0 (wr .i64 (first3 + (wr .i64 ((wr .i64 (2 * root10)) + 1))))).bind fun x9' =>
 (S37 n x8' x9').bind fun r10' =>
 (bif (!(decide (r10' < 0))) then some ()
 else none))) := by kernel_rfl
noncomputable def S118c37 (n : Nat × Nat) (data0 : List (List Int)) (lo1 : Int) (hi2 : Int) (first3 : Int) : Option R118c37 := run (E118c37 n) c118c37 an118c37 rt118c37 (fun _ _ => none) rt118c37 { tm := [.c (.sl (.sl (.int .i64)) data0 false), .c (.int .i64 lo1), .c (.int .i64 hi2), .c (.int .i64 first3), .fn 37 [], uu, uu, uu, uu, uu, uu, uu, uu, uu, uu, uu, uu, uu, uu, uu, uu, uu, uu, uu, uu, uu, uu, uu, uu, uu, uu, uu, uu, uu, uu, uu, uu, uu, uu, uu, uu, uu, uu, uu, uu, uu, uu, uu, uu, uu, uu, uu, uu, uu, uu, uu, uu, uu, uu, uu, uu, uu, uu, uu, uu, uu, uu, uu, uu, uu, uu, uu, uu, uu, uu, uu, uu, uu, uu, uu, uu, uu], hp := emp }
theorem S118c37_eq (n : Nat × Nat) (data0 : List (List Int)) (lo1 : Int) (hi2 : Int) (first3 : Int) : S118c37 n data0 lo1 hi2 first3 =
    L118c37_1 n n.1 data0 hi2 first3 lo1 := by kernel_rfl
theorem S118c37_run (n : Nat × Nat) (xs : pksDen pk118c37) : S118c37 n xs.1 xs.2.1 xs.2.2.1 xs.2.2.2.1 = runG (E118c37 n) noScope c118c37 an118c37 (rtG rk118c37) (fun _ _ => none) (rtG rk118c37) (st0 pk118c37 xs Tryd.f118.ntmps) := by kernel_rfl
noncomputable def P118c37 (n : Nat × Nat) := phiOf pk118c37 rk118c37 (fun xs => S118c37 n xs.1 xs.2.1 xs.2.2.1 xs.2.2.2.1)
theorem call118 : CallOK Tryd.prog 118 := callOK_of Tryd.func118 (by kernel_rfl) (by kernel_rfl)
theorem env118c37 (n : Nat × Nat) : EnvOK Tryd.prog (E118c37 n) := envOK0 (consPhi_ok (FC37 n) call37 noPhi_ok) rfl rfl
theorem par118c37 (n : Nat × Nat) : EnvPar (E118c37 n) := envPar0 (consPhi_par phiOf_Par1 noPhi_par) rfl
theorem FC118c37 (n : Nat × Nat) : FCs Tryd.prog 118 (P118c37 n) := phiOf_FCs fun xs r h vs hv => FC.of_runG tabOK eqsOK (env118c37 n) (par118c37 n) mixed (fun _ p _ => noScope_ok p.1 p.2) Tryd.func118 (c := c118c37) (an := an118c37) (pks := pk118c37) (rks := rk118c37) (by kernel_rfl) (by kernel_rfl) hv ((S118c37_run n xs).symm.trans h)
/- slices.heapSortCmpFunc[[]int] -/
abbrev R92c37 := Unit
noncomputable def c92c37 : Code := bodyOf Tryd.f92
noncomputable def an92c37 : Ann := (.s .l (.s .l (.s .l (.s (.s .l (.j [0, 3, 8, 9, 10] (.j [0, 3, 8, 9, 10, 11] (.s (.s .l (.j [0, 3, 8, 9, 10, 11] .l .l)) (.s (.j [0, 3, 8, 9, 10, 11] .l .l) .l)) .l) .l)) (.s .l (.j [] (.j [0, 3, 8, 9, 12] (.s (.s .l (.j [0, 3, 8, 9, 12] .l .l)) (.s (.j [0, 3, 8, 9, 12] .l .l) .l)) .l) .l))))))
def pk92c37 : List PK := [.c (.sl (.sl (.int .i64))), .c (.int .i64), .c (.int .i64), .f 37 []]
def rk92c37 : List RK := []
noncomputable def rt92c37 (st : St) : Option R92c37 := rtG rk92c37 st
noncomputable def E92c37 (n : Nat × Nat) : Env := { T := tab, phi := (consPhi 118 (isFns [none, none, none, none, some 37]) (P118c37 n) noPhi), eff := fun _ => false, fuel := n.1, hold := n.2 }
noncomputable def kq92c37_1 (n : Nat × Nat) : St → Option R92c37 := run (E92c37 n) (cB (cB (cB (cB c92c37)))) (Ann.snd (Ann.snd (Ann.snd (Ann.snd an92c37)))) rt92c37 (fun _ _ => none) rt92c37
noncomputable def xb92c37_3 (n : Nat × Nat) : Nat → St → Option R92c37 := fun j s => bif Nat.beq j 0 then normC [0, 3, 8, 9, 10] s (kq92c37_1 n) else (fun _ _ => none) j s
noncomputable def F92c37_4 (n : Nat × Nat) : (St → Option R92c37) → St → Option R92c37 := fun K s => run (E92c37 n) (cA (cA (cB (cA (cB (cB (cB c92c37))))))) (Ann.fst (Ann.fst (Ann.snd (Ann.fst (Ann.snd (Ann.snd (Ann.snd an92c37))))))) (fun s => normC [0, 3, 8, 9, 10, 11] s K) (xb92c37_3 n) rt92c37 s
noncomputable def xb92c37_11 (n : Nat × Nat) : Nat → St → Option R92c37 := fun j s => bif Nat.beq j 2 then normC [] s rt92c37 else (fun _ _ => none) j s
noncomputable def F92c37_12 (n : Nat × Nat) : (St → Option R92c37) → St → Option R92c37 := fun K s => run (E92c37 n) (cA (cA (cB (cB (cB (cB (cB c92c37))))))) (Ann.fst (Ann.fst (Ann.snd (Ann.snd (Ann.snd (Ann.snd (Ann.snd an92c37))))))) (fun s => normC [0, 3, 8, 9, 12] s K) (xb92c37_11 n) rt92c37 s
noncomputable def L92c37_1 (n : Nat × Nat) (m : Nat) (data0 : List (List Int)) (first8 : Int) (lo9 : Int) (hi10 : Int) (i11 : Int) : Option R92c37 := loopN (F92c37_4 n) m { tm := [.c (.sl (.sl (.int .i64)) data0 false), uu, uu, .fn 37 [], uu, uu, uu, uu, .c (.int .i64 first8), .c (.int .i64 lo9), .c (.int .i64 hi10), .c (.int .i64 i11), uu, uu, uu, uu, uu, uu, uu, uu, uu, uu, uu, uu, uu, uu, uu, uu, uu, uu, uu, uu, uu, uu, uu, uu, uu, uu, uu, uu, uu, uu, uu, uu, uu, uu, uu, uu, uu, uu, uu, uu, uu, uu, uu, uu, uu, uu, uu, uu], hp := emp }
noncomputable def L92c37_2 (n : Nat × Nat) (m : Nat) (data0 : List (List Int)) (first8 : Int) (lo9 : Int) (i12 : Int) : Option R92c37 := loopN (F92c37_12 n) m { tm := [.c (.sl (.sl (.int .i64)) data0 false), uu, uu, .fn 37 [], uu, uu, uu, uu, .c (.int .i64 first8), .c (.int .i64 lo9), uu, uu, .c (.int .i64 i12), uu, uu, uu, uu, uu, uu, uu, uu, uu, uu, uu, uu, uu, uu, uu, uu, uu, uu, uu, uu, uu, uu, uu, uu, uu, uu, uu, uu, uu, uu, uu, uu, uu, uu, uu, uu, uu, uu, uu, uu, uu, uu, uu, uu, uu, uu, uu], hp := emp }
theorem L92c37_1_eq (n : Nat × Nat) (m1 : Nat) (data0 : List (List Int)) (first8 : Int) (lo9 : Int) (hi10 : Int) (i11 : Int) : L92c37_1 n (m1 + 1) data0 first8 lo9 hi10 i11 =
 (bif decide (i11 ≥ 0) then (S118c37 n data0 i11 hi10 first8).bind fun r1' =>
      L92c37_1 n m1 data0 first8 lo9 hi10 (wr .i64 (i11 - 1))
 else L92c37_2 n n.1 data0 first8 lo9 (wr .i64 (hi10 - 1))) := by kernel_rfl
theorem L92c37_2_eq (n : Nat × Nat) (m1 : Nat) (data0 : List (List Int)) (first8 : Int) (lo9 : Int) (i12 : Int) : L92c37_2 n (m1 + 1) data0 first8 lo9 i12 =
 (bif decide (i12 ≥ 0) then none
 else some ()) := by kernel_rfl
noncomputable def S92c37 (n : Nat × Nat) (data0 : List (List Int)) (a1 : Int) (b2 : Int) : Option R92c37 := run (E92c37 n) c92c37 an92c37 rt92c37 (fun _ _ => none) rt92c37 { tm := [.c (.sl (.sl (.int .i64)) data0 false), .c (.int .i64 a1), .c (.int .i64 b2), .fn 37 [], uu, uu, uu, uu, uu, uu, uu, uu, uu, uu, uu, uu, uu, uu, uu, uu, uu, uu, uu, uu, uu, uu, uu, uu, uu, uu, uu, uu, uu, uu, uu, uu, uu, uu, uu, uu, uu, uu, uu, uu, uu, uu, uu, uu, uu, uu, uu, uu, uu, uu, uu, uu, uu, uu, uu, uu], hp := emp }
theorem S92c37_eq (n : Nat × Nat) (data0 : List (List Int)) (a1 : Int) (b2 : Int) : S92c37 n data0 a1 b2 =
 (bif 2 == 0 then none
 else L92c37_1 n n.1 data0 a1 0 (wr .i64 (b2 - a1)) (wr .i64 (Int.tdiv (wr .i64 ((wr .i64 (b2 - a1)) - 1)) 2))) := by kernel_rfl
theorem S92c37_run (n : Nat × Nat) (xs : pksDen pk92c37) : S92c37 n xs.1 xs.2.1 xs.2.2.1 = runG (E92c37 n) noScope c92c37 an92c37 (rtG rk92c37) (fun _ _ => none) (rtG rk92c37) (st0 pk92c37 xs Tryd.f92.ntmps) := by kernel_rfl
noncomputable def P92c37 (n : Nat × Nat) := phiOf pk92c37 rk92c37 (fun xs => S92c37 n xs.1 xs.2.1 xs.2.2.1)
theorem call92 : CallOK Tryd.prog 92 := callOK_of Tryd.func92 (by kernel_rfl) (by kernel_rfl)
theorem env92c37 (n : Nat × Nat) : EnvOK Tryd.prog (E92c37 n) := envOK0 (consPhi_ok (FC118c37 n) call118 noPhi_ok) rfl rfl
theorem par92c37 (n : Nat × Nat) : EnvPar (E92c37 n) := envPar0 (consPhi_par phiOf_Par1 noPhi_par) rfl
theorem FC92c37 (n : Nat × Nat) : FCs Tryd.prog 92 (P92c37 n) := phiOf_FCs fun xs r h vs hv => FC.of_runG tabOK eqsOK (env92c37 n) (par92c37 n) mixed (fun _ p _ => noScope_ok p.1 p.2) Tryd.func92 (c := c92c37) (an := an92c37) (pks := pk92c37) (rks := rk92c37) (by kernel_rfl) (by kernel_rfl) hv ((S92c37_run n xs).symm.trans h)
/- slices.nextPowerOfTwo -/
abbrev R119 := Int
noncomputable def c119 : Code := bodyOf Tryd.f119
noncomputable def an119 : Ann := .l
def pk119 : List PK := [.c (.int .i64)]
def rk119 : List RK := [.c (.int .u64) 2]
noncomputable def rt119 (st : St) : Option R119 := rtG rk119 st
noncomputable def E119 (n : Nat × Nat) : Env := { T := tab, phi := (consPhi 68 (fun _ => true) (P68 n) noPhi), eff := fun _ => false, fuel := n.1, hold := n.2 }
noncomputable def S119 (n : Nat × Nat) (length0 : Int) : Option R119 := run (E119 n) c119 an119 rt119 (fun _ _ => none) rt119 { tm := [.c (.int .i64 length0), uu, uu, uu, uu, uu, uu], hp := emp }
theorem S119_eq (n : Nat × Nat) (length0 : Int) : S119 n length0 =
 (S68 n (wr .u64 length0)).bind fun r1' =>
 (bif decide (r1' < 0) then none
 else some (wr .u64 (1 * 2 ^ (min (Int.toNat r1') (IntKind.bits .u64))))) := by kernel_rfl
theorem S119_run (n : Nat × Nat) (xs : pksDen pk119) : S119 n xs.1 = runG (E119 n) noScope c119 an119 (rtG rk119) (fun _ _ => none) (rtG rk119) (st0 pk119 xs Tryd.f119.ntmps) := by kernel_rfl
noncomputable def P119 (n : Nat × Nat) := phiOf pk119 rk119 (fun xs => S119 n xs.1)
theorem call119 : CallOK Tryd.prog 119 := callOK_of Tryd.func119 (by kernel_rfl) (by kernel_rfl)
theorem env119 (n : Nat × Nat) : EnvOK Tryd.prog (E119 n) := envOK0 (consPhi_ok (FC68 n) call68 noPhi_ok) rfl rfl
theorem par119 (n : Nat × Nat) : EnvPar (E119 n) := envPar0 (consPhi_par phiOf_Par1 noPhi_par) rfl
theorem FC119 (n : Nat × Nat) : FCs Tryd.prog 119 (P119 n) := phiOf_FCs fun xs r h vs hv => FC.of_runG tabOK eqsOK (env119 n) (par119 n) mixed (fun _ p _ => noScope_ok p.1 p.2) Tryd.func119 (c := c119) (an := an119) (pks := pk119) (rks := rk119) (by kernel_rfl) (by kernel_rfl) hv ((S119_run n xs).symm.trans h)
/- (*slices.xorshift).Next -/
abbrev R120io1 := (Int) × Int × Unit
noncomputable def c120io1 : Code := bodyOf Tryd.f120
noncomputable def an120io1 : Ann := .l
def pk120io1 : List QK := [.ob (.int .u64)]
def rk120io1 : List RK := [.c (.int .u64) 2]
noncomputable def rt120io1 (st : St) : Option R120io1 := rtIO rk120io1 (pk120io1.flatMap QK.ods) st
noncomputable def E120io1 (n : Nat × Nat) : Env := { T := tab, phi := noPhi, eff := fun _ => false, fuel := n.1, hold := n.2 }
noncomputable def S120io1 (n : Nat × Nat) (r0 : Int) : Option R120io1 := run (E120io1 n) c120io1 an120io1 rt120io1 (fun _ _ => none) rt120io1 { tm := [.ptr 1000000000000 0, uu, uu, uu, uu, uu, uu, uu, uu, uu, uu, uu, uu, uu, uu, uu, uu, uu, uu, uu, uu, uu, uu, uu, uu, uu, uu, uu, uu, uu, uu, uu, uu], hp := (upd emp 1000000000000 (.box [.int .u64 r0])) }
theorem S120io1_eq (n : Nat × Nat) (r0 : Int) : S120io1 n r0 =
 (bif decide (13 < 0) then none
 else (bif decide (7 < 0) then none
 else (bif decide (17 < 0) then none
 else some (wr .u64 (BitVec.ofInt (IntKind.bits .u64) (wr .u64 (BitVec.ofInt (IntKind.bits .u64) (wr .u64 (BitVec.ofInt (IntKind.bits .u64) r0 ^^^ BitVec.ofInt (IntKind.bits .u64) (wr .u64 (r0 * 2 ^ (min (Int.toNat 13) (IntKind.bits .u64))))).toNat) ^^^ BitVec.ofInt (IntKind.bits .u64) (Int.fdiv (wr .u64 (BitVec.ofInt (IntKind.bits .u64) r0 ^^^ BitVec.ofInt (IntKind.bits .u64) (wr .u64 (r0 * 2 ^ (min (Int.toNat 13) (IntKind.bits .u64))))).toNat) (2 ^ (min (Int.toNat 7) (IntKind.bits .u64))))).toNat) ^^^ BitVec.ofInt (IntKind.bits .u64) (wr .u64 ((wr .u64 (BitVec.ofInt (IntKind.bits .u64) (wr .u64 (BitVec.ofInt (IntKind.bits .u64) r0 ^^^ BitVec.ofInt (IntKind.bits .u64) (wr .u64 (r0 * 2 ^ (min (Int.toNat 13) (IntKind.bits .u64))))).toNat) ^^^ BitVec.ofInt (IntKind.bits .u64) (Int.fdiv (wr .u64 (BitVec.ofInt (IntKind.bits .u64) r0 ^^^ BitVec.ofInt (IntKind.bits .u64) (wr .u64 (r0 * 2 ^ (min (Int.toNat 13) (IntKind.bits .u64))))).toNat) (2 ^ (min (Int.toNat 7) (IntKind.bits .u64))))).toNat) * 2 ^ (min (Int.toNat 17) (IntKind.bits .u64))))).toNat, wr .u64 (BitVec.ofInt (IntKind.bits .u64) (wr .u64 (BitVec.ofInt (IntKind.bits .u64) (wr .u64 (BitVec.ofInt (IntKind.bits .u64) r0 ^^^ BitVec.ofInt (IntKind.bits .u64) (wr .u64 (r0 * 2 ^ (min (Int.toNat 13) (IntKind.bits .u64))))).toNat) ^^^ BitVec.ofInt (IntKind.bits .u64) (Int.fdiv (wr .u64 (BitVec.ofInt (IntKind.bits .u64) r0 ^^^ BitVec.ofInt (IntKind.bits .u64) (wr .u64 (r0 * 2 ^ (min (Int.toNat 13) (IntKind.bits .u64))))).toNat) (2 ^ (min (Int.toNat 7) (IntKind.bits .u64))))).toNat) ^^^ BitVec.ofInt (IntKind.bits .u64) (wr .u64 ((wr .u64 (BitVec.ofInt (IntKind.bits .u64) (wr .u64 (BitVec.ofInt (IntKind.bits .u64) r0 ^^^ BitVec.ofInt (IntKind.bits .u64) (wr .u64 (r0 * 2 ^ (min (Int.toNat 13) (IntKind.bits .u64))))).toNat) ^^^ BitVec.ofInt (IntKind.bits .u64) (Int.fdiv (wr .u64 (BitVec.ofInt (IntKind.bits .u64) r0 ^^^ BitVec.ofInt (IntKind.bits .u64) (wr .u64 (r0 * 2 ^ (min (Int.toNat 13) (IntKind.bits .u64))))).toNat) (2 ^ (min (Int.toNat 7) (IntKind.bits .u64))))).toNat) * 2 ^ (min (Int.toNat 17) (IntKind.bits .u64))))).toNat, ())))) := by kernel_rfl
theorem S120io1_run (n : Nat × Nat) (xs : qksDen pk120io1) : S120io1 n xs.1 = runG (E120io1 n) noScope c120io1 an120io1 (rtIO rk120io1 (pk120io1.flatMap QK.ods)) (fun _ _ => none) (rtIO rk120io1 (pk120io1.flatMap QK.ods)) (st1 pk120io1 xs Tryd.f120.ntmps) := by kernel_rfl
noncomputable def P120io1 (n : Nat × Nat) := phioOf pk120io1 rk120io1 (pk120io1.flatMap QK.ods) (fun xs => S120io1 n xs.1)
theorem call120 : CallOK Tryd.prog 120 := callOK_of Tryd.func120 (by kernel_rfl) (by kernel_rfl)
theorem env120io1 (n : Nat × Nat) : EnvOK Tryd.prog (E120io1 n) := envOK0 noPhi_ok rfl rfl
theorem par120io1 (n : Nat × Nat) : EnvPar (E120io1 n) := envPar0 noPhi_par rfl
theorem FC120io1 (n : Nat × Nat) : FCios Tryd.prog 120 (pk120io1.map QK.flag) (P120io1 n) := phioOf_FCios fun xs r h vs hv => FCio.of_runG tabOK eqsOK (env120io1 n) (par120io1 n) mixed (fun _ p _ => noScope_ok p.1 p.2) Tryd.func120 (c := c120io1) (an := an120io1) (qks := pk120io1) (rks := rk120io1) (by kernel_rfl) (by kernel_rfl) hv ((S120io1_run n xs).symm.trans h)
/- slices.breakPatternsCmpFunc[[]int] -/
abbrev R93c37 := Unit
noncomputable def c93c37 : Code := bodyOf Tryd.f93
noncomputable def an93c37 : Ann := (.s .l (.s .l (.j [] (.s .l (.s .l (.s .l (.j [] (.j [0, 1, 8, 9, 10, 11] (.s (.s .l (.j [0, 1, 8, 9, 10, 11] .l .l)) (.s (.j [0, 1, 8, 9, 10, 11] (.s .l (.s (.s .l (.j [0, 1, 8, 9, 10, 11, 12] .l .l)) .l)) .l) .l)) .l) .l)))) .l)))
def pk93c37 : List PK := [.c (.sl (.sl (.int .i64))), .c (.int .i64), .c (.int .i64), .f 37 []]
def rk93c37 : List RK := []
noncomputable def rt93c37 (st : St) : Option R93c37 := rtG rk93c37 st
noncomputable def io93c37 (n : Nat × Nat) : List IoE := [⟨120, (fun _ => true), pk120io1.map QK.flag, P120io1 n⟩]
noncomputable def E93c37 (n : Nat × Nat) : Env := { T := tab, phi := (consPhi 119 (fun _ => true) (P119 n) noPhi), eff := fun _ => false, fuel := n.1, hold := n.2, phio := phioL (io93c37 n), iop := iopL (io93c37 n) }
noncomputable def kc93c37_1 (n : Nat × Nat) : St → Option R93c37 := fun s => normC [] s rt93c37
noncomputable def xb93c37_3 (n : Nat × Nat) : Nat → St → Option R93c37 := fun j s => bif Nat.beq j 0 then normC [] s (kc93c37_1 n) else (fun _ _ => none) j s
noncomputable def F93c37_4 (n : Nat × Nat) : (St → Option R93c37) → St → Option R93c37 := fun K s => run (E93c37 n) (cA (cA (cB (cB (cB (cA (cB (cB c93c37)))))))) (Ann.fst (Ann.fst (Ann.snd (Ann.snd (Ann.snd (Ann.fst (Ann.snd (Ann.snd an93c37)))))))) (fun s => normC [0, 1, 8, 9, 10, 11] s K) (xb93c37_3 n) rt93c37 s
noncomputable def L93c37_1 (n : Nat × Nat) (m : Nat) (data0 : List (List Int)) (a1 : Int) (length8 : Int) (modulus10 : Int) (v11 : Int) (random9 : Int) : Option R93c37 := loopN (F93c37_4 n) m { tm := [.c (.sl (.sl (.int .i64)) data0 false), .c (.int .i64 a1), uu, uu, uu, uu, uu, uu, .c (.int .i64 length8), .ptr 9 0, .c (.int .u64 modulus10), .c (.int .i64 v11), uu, uu, uu, uu, uu, uu, uu, uu, uu, uu, uu, uu, uu, uu, uu, uu, uu, uu, uu, uu, uu, uu, uu, uu, uu, uu, uu, uu, uu, uu, uu, uu, uu, uu, uu, uu, uu, uu, uu, uu, uu, uu, uu, uu, uu, uu, uu, uu, uu, uu, uu, uu, uu, uu, uu], hp := (upd emp 9 (.box [.int .u64 random9])) }
theorem L93c37_1_eq (n : Nat × Nat) (m1 : Nat) (data0 : List (List Int)) (a1 : Int) (length8 : Int) (modulus10 : Int) (v11 : Int) (random9 : Int) : L93c37_1 n (m1 + 1) data0 a1 length8 modulus10 v11 random9 =
 (bif 4 == 0 then none
 else (bif decide (v11 ≤ wr .i64 ((wr .i64 (a1 + (wr .i64 ((wr .i64 (Int.tdiv length8 4)) * 2)))) + 1)) then (S120io1 n random9).bind fun r2' =>
 (bif decide (wr .i64 (wr .u64 (BitVec.ofInt (IntKind.bits .u64) r2'.1 &&& BitVec.ofInt (IntKind.bits .u64) (wr .u64 (modulus10 - 1))).toNat) ≥ length8) then none
 else none)
 else some ())) := by kernel_rfl
noncomputable def S93c37 (n : Nat × Nat) (data0 : List (List Int)) (a1 : Int) (b2 : Int) : Option R93c37 := run (E93c37 n) c93c37 an93c37 rt93c37 (fun _ _ => none) rt93c37 { tm := [.c (.sl (.sl (.int .i64)) data0 false), .c (.int .i64 a1), .c (.int .i64 b2), .fn 37 [], uu, uu, uu, uu, uu, uu, uu, uu, uu, uu, uu, uu, uu, uu, uu, uu, uu, uu, uu, uu, uu, uu, uu, uu, uu, uu, uu, uu, uu, uu, uu, uu, uu, uu, uu, uu, uu, uu, uu, uu, uu, uu, uu, uu, uu, uu, uu, uu, uu, uu, uu, uu, uu, uu, uu, uu, uu, uu, uu, uu, uu, uu, uu], hp := emp }
theorem S93c37_eq (n : Nat × Nat) (data0 : List (List Int)) (a1 : Int) (b2 : Int) : S93c37 n data0 a1 b2 =
 (bif decide (wr .i64 (b2 - a1) ≥ 8) then (S119 n (wr .i64 (b2 - a1))).bind fun r1' =>
 (bif 4 == 0 then none
 else L93c37_1 n n.1 data0 a1 (wr .i64 (b2 - a1)) r1' (wr .i64 ((wr .i64 (a1 + (wr .i64 ((wr .i64 (Int.tdiv (wr .i64 (b2 - a1)) 4)) * 2)))) - 1)) (wr .u64 (wr .i64 (b2 - a1))))
 else some ()) := by kernel_rfl
theorem S93c37_run (n : Nat × Nat) (xs : pksDen pk93c37) : S93c37 n xs.1 xs.2.1 xs.2.2.1 = runG (E93c37 n) noScope c93c37 an93c37 (rtG rk93c37) (fun _ _ => none) (rtG rk93c37) (st0 pk93c37 xs Tryd.f93.ntmps) := by kernel_rfl
noncomputable def P93c37 (n : Nat × Nat) := phiOf pk93c37 rk93c37 (fun xs => S93c37 n xs.1 xs.2.1 xs.2.2.1)
theorem call93 : CallOK Tryd.prog 93 := callOK_of Tryd.func93 (by kernel_rfl) (by kernel_rfl)
theorem env93c37 (n : Nat × Nat) : EnvOK Tryd.prog (E93c37 n) := envOK (l := io93c37 n) (consPhi_ok (FC119 n) call119 noPhi_ok) rfl rfl (by kernel_rfl) ⟨FC120io1 n, call120, trivial⟩
theorem par93c37 (n : Nat × Nat) : EnvPar (E93c37 n) := envPar (l := io93c37 n) (consPhi_par phiOf_Par1 noPhi_par) rfl ⟨phioOf_Pario1, trivial⟩
theorem FC93c37 (n : Nat × Nat) : FCs Tryd.prog 93 (P93c37 n) := phiOf_FCs fun xs r h vs hv => FC.of_runG tabOK eqsOK (env93c37 n) (par93c37 n) mixed (fun _ p _ => noScope_ok p.1 p.2) Tryd.func93 (c := c93c37) (an := an93c37) (pks := pk93c37) (rks := rk93c37) (by kernel_rfl) (by kernel_rfl) hv ((S93c37_run n xs).symm.trans h)
/- slices.order2CmpFunc[[]int] -/
abbrev R135c37io00010 := (Int × Int) × Int × Unit
noncomputable def c135c37io00010 : Code := bodyOf Tryd.f135
noncomputable def an135c37io00010 : Ann := (.s .l (.s (.s .l (.j [1, 2, 1000000000000] .l .l)) .l))
def pk135c37io00010 : List QK := [.pl (.c (.sl (.sl (.int .i64)))), .pl (.c (.int .i64)), .pl (.c (.int .i64)), .ob (.int .i64), .pl (.f 37 [])]
def rk135c37io00010 : List RK := [.c (.int .i64) 10, .c (.int .i64) 11]
noncomputable def rt135c37io00010 (st : St) : Option R135c37io00010 := rtIO rk135c37io00010 (pk135c37io00010.flatMap QK.ods) st
noncomputable def E135c37io00010 (n : Nat × Nat) : Env := { T := tab, phi := (consPhi 37 (fun _ => true) (P37 n) noPhi), eff := fun _ => false, fuel := n.1, hold := n.2, pcl := [12] }
noncomputable def S135c37io00010 (n : Nat × Nat) (data0 : List (List Int)) (a1 : Int) (b2 : Int) (swaps3 : Int) : Option R135c37io00010 := run (E135c37io00010 n) c135c37io00010 an135c37io00010 rt135c37io00010 (fun _ _ => none) rt135c37io00010 { tm := [.c (.sl (.sl (.int .i64)) data0 false), .c (.int .i64 a1), .c (.int .i64 b2), .ptr 1000000000000 0, .fn 37 [], uu, uu, uu, uu, uu, uu, uu, uu, uu, uu, uu, uu, uu, uu, uu, uu, uu, uu, uu, uu, uu, uu, uu, uu, uu, uu, uu], hp := (upd emp 1000000000000 (.box [.int .i64 swaps3])) }
theorem S135c37io00010_eq (n : Nat × Nat) (data0 : List (List Int)) (a1 : Int) (b2 : Int) (swaps3 : Int) : S135c37io00010 n data0 a1 b2 swaps3 =
 (idx data0 b2).bind fun x1' =>
 (idx data0 a1).bind fun x2' =>
 (S37 n x1' x2').bind fun r3' =>
 (bif decide (r3' < 0) then some ((b2, a1), wr .i64 (swaps3 + 1), ())
 else some ((a1, b2), swaps3, ())) := by kernel_rfl
theorem S135c37io00010_run (n : Nat × Nat) (xs : qksDen pk135c37io00010) : S135c37io00010 n xs.1 xs.2.1 xs.2.2.1 xs.2.2.2.1 = runG (E135c37io00010 n) noScope c135c37io00010 an135c37io00010 (rtIO rk135c37io00010 (pk135c37io00010.flatMap QK.ods)) (fun _ _ => none) (rtIO rk135c37io00010 (pk135c37io00010.flatMap QK.ods)) (st1 pk135c37io00010 xs Tryd.f135.ntmps) := by kernel_rfl
noncomputable def P135c37io00010 (n : Nat × Nat) := phioOf pk135c37io00010 rk135c37io00010 (pk135c37io00010.flatMap QK.ods) (fun xs => S135c37io00010 n xs.1 xs.2.1 xs.2.2.1 xs.2.2.2.1)
theorem call135 : CallOK Tryd.prog 135 := callOK_of Tryd.func135 (by kernel_rfl) (by kernel_rfl)
theorem env135c37io00010 (n : Nat × Nat) : EnvOK Tryd.prog (E135c37io00010 n) := envOK0 (consPhi_ok (FC37 n) call37 noPhi_ok) rfl rfl
theorem par135c37io00010 (n : Nat × Nat) : EnvPar (E135c37io00010 n) := envPar0 (consPhi_par phiOf_Par1 noPhi_par) rfl
theorem FC135c37io00010 (n : Nat × Nat) : FCios Tryd.prog 135 (pk135c37io00010.map QK.flag) (P135c37io00010 n) := phioOf_FCios fun xs r h vs hv => FCio.of_runG tabOK eqsOK (env135c37io00010 n) (par135c37io00010 n) mixed (fun _ p _ => noScope_ok p.1 p.2) Tryd.func135 (c := c135c37io00010) (an := an135c37io00010) (qks := pk135c37io00010) (rks := rk135c37io00010) (by kernel_rfl) (by kernel_rfl) hv ((S135c37io00010_run n xs).symm.trans h)
/- slices.medianCmpFunc[[]int] -/
abbrev R122c37io000010 := (Int) × Int × Unit
noncomputable def c122c37io000010 : Code := bodyOf Tryd.f122
noncomputable def an122c37io000010 : Ann := .l
def pk122c37io000010 : List QK := [.pl (.c (.sl (.sl (.int .i64)))), .pl (.c (.int .i64)), .pl (.c (.int .i64)), .pl (.c (.int .i64)), .ob (.int .i64), .pl (.f 37 [])]
def rk122c37io000010 : List RK := [.c (.int .i64) 12]
noncomputable def rt122c37io000010 (st : St) : Option R122c37io000010 := rtIO rk122c37io000010 (pk122c37io000010.flatMap QK.ods) st
noncomputable def io122c37io000010 (n : Nat × Nat) : List IoE := [⟨135, (isFns [none, none, none, none, some 37]), pk135c37io00010.map QK.flag, P135c37io00010 n⟩]
noncomputable def E122c37io000010 (n : Nat × Nat) : Env := { T := tab, phi := noPhi, eff := fun _ => false, fuel := n.1, hold := n.2, phio := phioL (io122c37io000010 n), iop := iopL (io122c37io000010 n) }
noncomputable def S122c37io000010 (n : Nat × Nat) (data0 : List (List Int)) (a1 : Int) (b2 : Int) (c3 : Int) (swaps4 : Int) : Option R122c37io000010 := run (E122c37io000010 n) c122c37io000010 an122c37io000010 rt122c37io000010 (fun _ _ => none) rt122c37io000010 { tm := [.c (.sl (.sl (.int .i64)) data0 false), .c (.int .i64 a1), .c (.int .i64 b2), .c (.int .i64 c3), .ptr 1000000000000 0, .fn 37 [], uu, uu, uu, uu, uu, uu, uu, uu, uu, uu, uu, uu, uu, uu, uu, uu, uu, uu, uu, uu, uu, uu, uu, uu, uu, uu, uu, uu, uu, uu, uu, uu, uu, uu, uu], hp := (upd emp 1000000000000 (.box [.int .i64 swaps4])) }
theorem S122c37io000010_eq (n : Nat × Nat) (data0 : List (List Int)) (a1 : Int) (b2 : Int) (c3 : Int) (swaps4 : Int) : S122c37io000010 n data0 a1 b2 c3 swaps4 =
 (S135c37io00010 n data0 a1 b2 swaps4).bind fun r1' =>
 (S135c37io00010 n data0 r1'.1.2 c3 r1'.2.1).bind fun r2' =>
 (S135c37io00010 n data0 r1'.1.1 r2'.1.1 r2'.2.1).bind fun r3' =>
 some (r3'.1.2, r3'.2.1, ()) := by kernel_rfl
theorem S122c37io000010_run (n : Nat × Nat) (xs : qksDen pk122c37io000010) : S122c37io000010 n xs.1 xs.2.1 xs.2.2.1 xs.2.2.2.1 xs.2.2.2.2.1 = runG (E122c37io000010 n) noScope c122c37io000010 an122c37io000010 (rtIO rk122c37io000010 (pk122c37io000010.flatMap QK.ods)) (fun _ _ => none) (rtIO rk122c37io000010 (pk122c37io000010.flatMap QK.ods)) (st1 pk122c37io000010 xs Tryd.f122.ntmps) := by kernel_rfl
noncomputable def P122c37io000010 (n : Nat × Nat) := phioOf pk122c37io000010 rk122c37io000010 (pk122c37io000010.flatMap QK.ods) (fun xs => S122c37io000010 n xs.1 xs.2.1 xs.2.2.1 xs.2.2.2.1 xs.2.2.2.2.1)
theorem call122 : CallOK Tryd.prog 122 := callOK_of Tryd.func122 (by kernel_rfl) (by kernel_rfl)
theorem env122c37io000010 (n : Nat × Nat) : EnvOK Tryd.prog (E122c37io000010 n) := envOK (l := io122c37io000010 n) noPhi_ok rfl rfl (by kernel_rfl) ⟨FC135c37io00010 n, call135, trivial⟩
theorem par122c37io000010 (n : Nat × Nat) : EnvPar (E122c37io000010 n) := envPar (l := io122c37io000010 n) noPhi_par rfl ⟨phioOf_Pario1, trivial⟩
theorem FC122c37io000010 (n : Nat × Nat) : FCios Tryd.prog 122 (pk122c37io000010.map QK.flag) (P122c37io000010 n) := phioOf_FCios fun xs r h vs hv => FCio.of_runG tabOK eqsOK (env122c37io000010 n) (par122c37io000010 n) mixed (fun _ p _ => noScope_ok p.1 p.2) Tryd.func122 (c := c122c37io000010) (an := an122c37io000010) (qks := pk122c37io000010) (rks := rk122c37io000010) (by kernel_rfl) (by kernel_rfl) hv ((S122c37io000010_run n xs).symm.trans h)
/- slices.medianAdjacentCmpFunc[[]int] -/
abbrev R121c37io0010 := (Int) × Int × Unit
noncomputable def c121c37io0010 : Code := bodyOf Tryd.f121
noncomputable def an121c37io0010 : Ann := .l
def pk121c37io0010 : List QK := [.pl (.c (.sl (.sl (.int .i64)))), .pl (.c (.int .i64)), .ob (.int .i64), .pl (.f 37 [])]
def rk121c37io0010 : List RK := [.c (.int .i64) 8]
noncomputable def rt121c37io0010 (st : St) : Option R121c37io0010 := rtIO rk121c37io0010 (pk121c37io0010.flatMap QK.ods) st
noncomputable def io121c37io0010 (n : Nat × Nat) : List IoE := [⟨122, (isFns [none, none, none, none, none, some 37]), pk122c37io000010.map QK.flag, P122c37io000010 n⟩]
noncomputable def E121c37io0010 (n : Nat × Nat) : Env := { T := tab, phi := noPhi, eff := fun _ => false, fuel := n.1, hold := n.2, phio := phioL (io121c37io0010 n), iop := iopL (io121c37io0010 n) }
noncomputable def S121c37io0010 (n : Nat × Nat) (data0 : List (List Int)) (a1 : Int) (swaps2 : Int) : Option R121c37io0010 := run (E121c37io0010 n) c121c37io0010 an121c37io0010 rt121c37io0010 (fun _ _ => none) rt121c37io0010 { tm := [.c (.sl (.sl (.int .i64)) data0 false), .c (.int .i64 a1), .ptr 1000000000000 0, .fn 37 [], uu, uu, uu, uu, uu, uu, uu, uu, uu, uu, uu, uu, uu, uu], hp := (upd emp 1000000000000 (.box [.int .i64 swaps2])) }
theorem S121c37io0010_eq (n : Nat × Nat) (data0 : List (List Int)) (a1 : Int) (swaps2 : Int) : S121c37io0010 n data0 a1 swaps2 =
 (S122c37io000010 n data0 (wr .i64 (a1 - 1)) a1 (wr .i64 (a1 + 1)) swaps2).bind fun r1' =>
 some (r1'.1, r1'.2.1, ()) := by kernel_rfl
theorem S121c37io0010_run (n : Nat × Nat) (xs : qksDen pk121c37io0010) : S121c37io0010 n xs.1 xs.2.1 xs.2.2.1 = runG (E121c37io0010 n) noScope c121c37io0010 an121c37io0010 (rtIO rk121c37io0010 (pk121c37io0010.flatMap QK.ods)) (fun _ _ => none) (rtIO rk121c37io0010 (pk121c37io0010.flatMap QK.ods)) (st1 pk121c37io0010 xs Tryd.f121.ntmps) := by kernel_rfl
noncomputable def P121c37io0010 (n : Nat × Nat) := phioOf pk121c37io0010 rk121c37io0010 (pk121c37io0010.flatMap QK.ods) (fun xs => S121c37io0010 n xs.1 xs.2.1 xs.2.2.1)
theorem call121 : CallOK Tryd.prog 121 := callOK_of Tryd.func121 (by kernel_rfl) (by kernel_rfl)
theorem env121c37io0010 (n : Nat × Nat) : EnvOK Tryd.prog (E121c37io0010 n) := envOK (l := io121c37io0010 n) noPhi_ok rfl rfl (by kernel_rfl) ⟨FC122c37io000010 n, call122, trivial⟩
theorem par121c37io0010 (n : Nat × Nat) : EnvPar (E121c37io0010 n) := envPar (l := io121c37io0010 n) noPhi_par rfl ⟨phioOf_Pario1, trivial⟩
theorem FC121c37io0010 (n : Nat × Nat) : FCios Tryd.prog 121 (pk121c37io0010.map QK.flag) (P121c37io0010 n) := phioOf_FCios fun xs r h vs hv => FCio.of_runG tabOK eqsOK (env121c37io0010 n) (par121c37io0010 n) mixed (fun _ p _ => noScope_ok p.1 p.2) Tryd.func121 (c := c121c37io0010) (an := an121c37io0010) (qks := pk121c37io0010) (rks := rk121c37io0010) (by kernel_rfl) (by kernel_rfl) hv ((S121c37io0010_run n xs).symm.trans h)
/- slices.choosePivotCmpFunc[[]int] -/
abbrev R94c37 := Int × Int
noncomputable def c94c37 : Code := bodyOf Tryd.f94
noncomputable def an94c37 : Ann := (.s .l (.s .l (.s .l (.s .l (.s .l (.s .l (.s (.s .l (.j [11, 13] (.s (.s .l (.j [0, 3, 11, 12, 13, 14] .l .l)) .l) .l)) (.s .l (.j [8, 9] (.s .l (.j [8, 9] .l (.s .l (.j [8, 9] .l .l)))) .l)))))))))
def pk94c37 : List PK := [.c (.sl (.sl (.int .i64))), .c (.int .i64), .c (.int .i64), .f 37 []]
def rk94c37 : List RK := [.c (.int .i64) 8, .c (.int .i64) 9]
noncomputable def rt94c37 (st : St) : Option R94c37 := rtG rk94c37 st
noncomputable def io94c37 (n : Nat × Nat) : List IoE := [⟨121, (isFns [none, none, none, some 37]), pk121c37io0010.map QK.flag, P121c37io0010 n⟩, ⟨122, (isFns [none, none, none, none, none, some 37]), pk122c37io000010.map QK.flag, P122c37io000010 n⟩]
noncomputable def E94c37 (n : Nat × Nat) : Env := { T := tab, phi := noPhi, eff := fun _ => false, fuel := n.1, hold := n.2, phio := phioL (io94c37 n), iop := iopL (io94c37 n) }
noncomputable def S94c37 (n : Nat × Nat) (data0 : List (List Int)) (a1 : Int) (b2 : Int) : Option R94c37 := run (E94c37 n) c94c37 an94c37 rt94c37 (fun _ _ => none) rt94c37 { tm := [.c (.sl (.sl (.int .i64)) data0 false), .c (.int .i64 a1), .c (.int .i64 b2), .fn 37 [], uu, uu, uu, uu, uu, uu, uu, uu, uu, uu, uu, uu, uu, uu, uu, uu, uu, uu, uu, uu, uu, uu, uu, uu, uu, uu, uu, uu, uu, uu, uu, uu, uu, uu, uu, uu, uu, uu, uu, uu, uu, uu, uu, uu, uu, uu, uu, uu, uu, uu, uu, uu, uu, uu, uu, uu, uu, uu, uu], hp := emp }
theorem S94c37_eq (n : Nat × Nat) (data0 : List (List Int)) (a1 : Int) (b2 : Int) : S94c37 n data0 a1 b2 =
 (bif 4 == 0 then none
 else (bif 4 == 0 then none
 else (bif 4 == 0 then none
 else (bif decide (wr .i64 (b2 - a1) ≥ 8) then (bif decide (wr .i64 (b2 - a1) ≥ 50) then (S121c37io0010 n data0 (wr .i64 (a1 + (wr .i64 ((wr .i64 (Int.tdiv (wr .i64 (b2 - a1)) 4)) * 1)))) 0).bind fun r1' =>
 (S121c37io0010 n data0 (wr .i64 (a1 + (wr .i64 ((wr .i64 (Int.tdiv (wr .i64 (b2 - a1)) 4)) * 2)))) r1'.2.1).bind fun r2' =>
 (S121c37io0010 n data0 (wr .i64 (a1 + (wr .i64 ((wr .i64 (Int.tdiv (wr .i64 (b2 - a1)) 4)) * 3)))) r2'.2.1).bind fun r3' =>
 (S122c37io000010 n data0 r1'.1 r2'.1 r3'.1 r3'.2.1).bind fun r4' =>
 (bif (r4'.2.1 == 0) then some (r4'.1, 1)
 else (bif (r4'.2.1 == 12) then some (r4'.1, 2)
 else some (r4'.1, 0)))
 else (S122c37io000010 n data0 (wr .i64 (a1 + (wr .i64 ((wr .i64 (Int.tdiv (wr .i64 (b2 - a1)) 4)) * 1)))) (wr .i64 (a1 + (wr .i64 ((wr .i64 (Int.tdiv (wr .i64 (b2 - a1)) 4)) * 2)))) (wr .i64 (a1 + (wr .i64 ((wr .i64 (Int.tdiv (wr .i64 (b2 - a1)) 4)) * 3)))) 0).bind fun r5' =>
 (bif (r5'.2.1 == 0) then some (r5'.1, 1)
 else (bif (r5'.2.1 == 12) then some (r5'.1, 2)
 else some (r5'.1, 0))))
 else (bif (0 == 0) then some (wr .i64 (a1 + (wr .i64 ((wr .i64 (Int.tdiv (wr .i64 (b2 - a1)) 4)) * 2))), 1)
 else (bif (0 == 12) then some (wr .i64 (a1 + (wr .i64 ((wr .i64 (Int.tdiv (wr .i64 (b2 - a1)) 4)) * 2))), 2)
 else some (wr .i64 (a1 + (wr .i64 ((wr .i64 (Int.tdiv (wr .i64 (b2 - a1)) 4)) * 2))), 0))))))) := by kernel_rfl
theorem S94c37_run (n : Nat × Nat) (xs : pksDen pk94c37) : S94c37 n xs.1 xs.2.1 xs.2.2.1 = runG (E94c37 n) noScope c94c37 an94c37 (rtG rk94c37) (fun _ _ => none) (rtG rk94c37) (st0 pk94c37 xs Tryd.f94.ntmps) := by kernel_rfl
noncomputable def P94c37 (n : Nat × Nat) := phiOf pk94c37 rk94c37 (fun xs => S94c37 n xs.1 xs.2.1 xs.2.2.1)
theorem call94 : CallOK Tryd.prog 94 := callOK_of Tryd.func94 (by kernel_rfl) (by kernel_rfl)
theorem env94c37 (n : Nat × Nat) : EnvOK Tryd.prog (E94c37 n) := envOK (l := io94c37 n) noPhi_ok rfl rfl (by kernel_rfl) ⟨FC121c37io0010 n, call121, FC122c37io000010 n, call122, trivial⟩
theorem par94c37 (n : Nat × Nat) : EnvPar (E94c37 n) := envPar (l := io94c37 n) noPhi_par rfl ⟨phioOf_Pario1, phioOf_Pario1, trivial⟩
theorem FC94c37 (n : Nat × Nat) : FCs Tryd.prog 94 (P94c37 n) := phiOf_FCs fun xs r h vs hv => FC.of_runG tabOK eqsOK (env94c37 n) (par94c37 n) mixed (fun _ p _ => noScope_ok p.1 p.2) Tryd.func94 (c := c94c37) (an := an94c37) (pks := pk94c37) (rks := rk94c37) (by kernel_rfl) (by kernel_rfl) hv ((S94c37_run n xs).symm.trans h)
/- slices.reverseRangeCmpFunc[[]int] -/
abbrev R95c37 := Unit
noncomputable def c95c37 : Code := bodyOf Tryd.f95
noncomputable def an95c37 : Ann := (.s .l (.s .l (.j [] (.j [0, 8, 9] (.s (.s .l (.j [0, 8, 9] .l .l)) (.j [0, 8, 9] .l .l)) .l) .l)))
def pk95c37 : List PK := [.c (.sl (.sl (.int .i64))), .c (.int .i64), .c (.int .i64), .f 37 []]
def rk95c37 : List RK := []
noncomputable def rt95c37 (st : St) : Option R95c37 := rtG rk95c37 st
noncomputable def E95c37 (n : Nat × Nat) : Env := { T := tab, phi := noPhi, eff := fun _ => false, fuel := n.1, hold := n.2 }
noncomputable def xb95c37_2 (n : Nat × Nat) : Nat → St → Option R95c37 := fun j s => bif Nat.beq j 0 then normC [] s rt95c37 else (fun _ _ => none) j s
noncomputable def F95c37_3 (n : Nat × Nat) : (St → Option R95c37) → St → Option R95c37 := fun K s => run (E95c37 n) (cA (cA (cB (cB c95c37)))) (Ann.fst (Ann.fst (Ann.snd (Ann.snd an95c37)))) (fun s => normC [0, 8, 9] s K) (xb95c37_2 n) rt95c37 s
noncomputable def L95c37_1 (n : Nat × Nat) (m : Nat) (data0 : List (List Int)) (i8 : Int) (j9 : Int) : Option R95c37 := loopN (F95c37_3 n) m { tm := [.c (.sl (.sl (.int .i64)) data0 false), uu, uu, uu, uu, uu, uu, uu, .c (.int .i64 i8), .c (.int .i64 j9), uu, uu, uu, uu, uu, uu, uu, uu, uu, uu, uu, uu, uu, uu, uu, uu, uu, uu, uu, uu, uu, uu, uu, uu], hp := emp }
theorem L95c37_1_eq (n : Nat × Nat) (m1 : Nat) (data0 : List (List Int)) (i8 : Int) (j9 : Int) : L95c37_1 n (m1 + 1) data0 i8 j9 =
 (bif decide (i8 < j9) then none
 else some ()) := by kernel_rfl
noncomputable def S95c37 (n : Nat × Nat) (data0 : List (List Int)) (a1 : Int) (b2 : Int) : Option R95c37 := run (E95c37 n) c95c37 an95c37 rt95c37 (fun _ _ => none) rt95c37 { tm := [.c (.sl (.sl (.int .i64)) data0 false), .c (.int .i64 a1), .c (.int .i64 b2), .fn 37 [], uu, uu, uu, uu, uu, uu, uu, uu, uu, uu, uu, uu, uu, uu, uu, uu, uu, uu, uu, uu, uu, uu, uu, uu, uu, uu, uu, uu, uu, uu], hp := emp }
theorem S95c37_eq (n : Nat × Nat) (data0 : List (List Int)) (a1 : Int) (b2 : Int) : S95c37 n data0 a1 b2 =
    L95c37_1 n n.1 data0 a1 (wr .i64 (b2 - 1)) := by kernel_rfl
theorem S95c37_run (n : Nat × Nat) (xs : pksDen pk95c37) : S95c37 n xs.1 xs.2.1 xs.2.2.1 = runG (E95c37 n) noScope c95c37 an95c37 (rtG rk95c37) (fun _ _ => none) (rtG rk95c37) (st0 pk95c37 xs Tryd.f95.ntmps) := by kernel_rfl
noncomputable def P95c37 (n : Nat × Nat) := phiOf pk95c37 rk95c37 (fun xs => S95c37 n xs.1 xs.2.1 xs.2.2.1)
theorem call95 : CallOK Tryd.prog 95 := callOK_of Tryd.func95 (by kernel_rfl) (by kernel_rfl)
theorem env95c37 (n : Nat × Nat) : EnvOK Tryd.prog (E95c37 n) := envOK0 noPhi_ok rfl rfl
theorem par95c37 (n : Nat × Nat) : EnvPar (E95c37 n) := envPar0 noPhi_par rfl
theorem FC95c37 (n : Nat × Nat) : FCs Tryd.prog 95 (P95c37 n) := phiOf_FCs fun xs r h vs hv => FC.of_runG tabOK eqsOK (env95c37 n) (par95c37 n) mixed (fun _ p _ => noScope_ok p.1 p.2) Tryd.func95 (c := c95c37) (an := an95c37) (pks := pk95c37) (rks := rk95c37) (by kernel_rfl) (by kernel_rfl) hv ((S95c37_run n xs).symm.trans h)
/- slices.partialInsertionSortCmpFunc[[]int] -/
abbrev R96c37 := Bool
noncomputable def c96c37 : Code := bodyOf Tryd.f96
noncomputable def an96c37 : Ann := (.s .l (.s .l (.s (.s .l (.j [] (.j [0, 1, 2, 3, 9, 10, 23, 24, 25, 26, 27, 28, 29, 30, 31, 32, 33, 34, 35] (.s (.s .l (.j [0, 1, 2, 3, 9, 10, 23, 24, 25, 26, 27, 28, 29, 30, 31, 32, 33, 34, 35] .l .l)) (.j [] (.j [0, 1, 2, 3, 9, 10, 23, 24, 25, 26, 27, 28, 29, 30, 31, 32, 33, 34, 35] (.s (.j [0, 1, 2, 3, 9, 10, 23, 24, 25, 26, 27, 28, 29, 30, 31, 32, 33, 34, 35] (.j [0, 1, 2, 3, 9, 10, 23, 24, 25, 26, 27, 28, 29, 30, 31, 32, 33, 34, 35] (.s (.s .l (.j [0, 1, 2, 3, 9, 10, 23, 24, 25, 26, 27, 28, 29, 30, 31, 32, 33, 34, 35] .l .l)) (.j [0, 1, 2, 3, 9, 10, 23, 24, 25, 26, 27, 28, 29, 30, 31, 32, 33, 34, 35] .l .l)) .l) .l) (.s (.s .l (.j [0, 1, 2, 3, 9, 10, 23, 24, 25, 26, 27, 28, 29, 30, 31, 32, 33, 34, 35] .l .l)) (.s (.s .l (.j [0, 1, 2, 3, 9, 10, 23, 24, 25, 26, 27, 28, 29, 30, 31, 32, 33, 34, 35] .l .l)) (.s .l (.s (.s .l (.j [0, 1, 2, 3, 9, 10, 23, 24, 25, 26, 27, 28, 29, 30, 31, 32, 33, 34, 35] (.s .l (.j [0, 1, 2, 3, 9, 10, 23, 24, 25, 26, 27, 28, 29, 30, 31, 32, 33, 34, 35] (.j [0, 1, 2, 3, 9, 10, 11, 23, 24, 25, 26, 27, 28, 29, 30, 31, 32, 33, 34, 35] (.s (.s .l (.j [0, 1, 2, 3, 9, 10, 11, 23, 24, 25, 26, 27, 28, 29, 30, 31, 32, 33, 34, 35] .l .l)) (.s (.j [0, 1, 2, 3, 9, 10, 11, 23, 24, 25, 26, 27, 28, 29, 30, 31, 32, 33, 34, 35] (.s (.s .l (.j [0, 1, 2, 3, 9, 10, 11, 23, 24, 25, 26, 27, 28, 29, 30, 31, 32, 33, 34, 35] .l .l)) .l) .l) .l)) .l) .l)) .l)) (.s .l (.j [0, 1, 2, 3, 9, 10, 23, 24, 25, 26, 27, 28, 29, 30, 31, 32, 33, 34, 35] (.s .l (.j [0, 1, 2, 3, 9, 10, 23, 24, 25, 26, 27, 28, 29, 30, 31, 32, 33, 34, 35] (.j [0, 1, 2, 3, 9, 10, 12, 23, 24, 25, 26, 27, 28, 29, 30, 31, 32, 33, 34, 35] (.s (.s .l (.j [0, 1, 2, 3, 9, 10, 12, 23, 24, 25, 26, 27, 28, 29, 30, 31, 32, 33, 34, 35] .l .l)) (.s (.j [0, 1, 2, 3, 9, 10, 12, 23, 24, 25, 26, 27, 28, 29, 30, 31, 32, 33, 34, 35] (.s (.s .l (.j [0, 1, 2, 3, 9, 10, 12, 23, 24, 25, 26, 27, 28, 29, 30, 31, 32, 33, 34, 35] .l .l)) .l) .l) .l)) .l) .l)) .l))))))) .l) .l)) .l) .l)) .l)))
def pk96c37 : List PK := [.c (.sl (.sl (.int .i64))), .c (.int .i64), .c (.int .i64), .f 37 []]
def rk96c37 : List RK := [.c .bool 8]
noncomputable def rt96c37 (st : St) : Option R96c37 := rtG rk96c37 st
noncomputable def E96c37 (n : Nat × Nat) : Env := { T := tab, phi := (consPhi 37 (fun _ => true) (P37 n) noPhi), eff := fun _ => false, fuel := n.1, hold := n.2, pcl := [23] }
noncomputable def kq96c37_1 (n : Nat × Nat) : St → Option R96c37 := run (E96c37 n) (cB (cB (cB c96c37))) (Ann.snd (Ann.snd (Ann.snd an96c37))) rt96c37 (fun _ _ => none) rt96c37
noncomputable def xb96c37_3 (n : Nat × Nat) : Nat → St → Option R96c37 := fun j s => bif Nat.beq j 0 then normC [] s (kq96c37_1 n) else (fun _ _ => none) j s
noncomputable def F96c37_4 (n : Nat × Nat) : (St → Option R96c37) → St → Option R96c37 := fun K s => run (E96c37 n) (cA (cA (cB (cA (cB (cB c96c37)))))) (Ann.fst (Ann.fst (Ann.snd (Ann.fst (Ann.snd (Ann.snd an96c37)))))) (fun s => normC [0, 1, 2, 3, 9, 10, 23, 24, 25, 26, 27, 28, 29, 30, 31, 32, 33, 34, 35] s K) (xb96c37_3 n) rt96c37 s
noncomputable def kq96c37_7 (n : Nat × Nat) (m1 : Nat) : St → Option R96c37 := run (E96c37 n) (cB (cB (cA (cA (cB (cA (cB (cB c96c37)))))))) (Ann.snd (Ann.snd (Ann.fst (Ann.fst (Ann.snd (Ann.fst (Ann.snd (Ann.snd an96c37)))))))) (fun s => normC [0, 1, 2, 3, 9, 10, 23, 24, 25, 26, 27, 28, 29, 30, 31, 32, 33, 34, 35] s (loopN (F96c37_4 n) m1)) (xb96c37_3 n) rt96c37
noncomputable def kc96c37_8 (n : Nat × Nat) (m1 : Nat) : St → Option R96c37 := fun s => normC [0, 1, 2, 3, 9, 10, 23, 24, 25, 26, 27, 28, 29, 30, 31, 32, 33, 34, 35] s (loopN (fun _ => (kq96c37_7 n m1)) n.2)
noncomputable def xb96c37_9 (n : Nat × Nat) (m1 : Nat) : Nat → St → Option R96c37 := fun j s => bif Nat.beq j 1 then normC [0, 1, 2, 3, 9, 10, 23, 24, 25, 26, 27, 28, 29, 30, 31, 32, 33, 34, 35] s (loopN (fun _ => (kq96c37_7 n m1)) n.2) else (xb96c37_3 n) j s
noncomputable def kq96c37_10 (n : Nat × Nat) (m1 : Nat) : St → Option R96c37 := run (E96c37 n) (cB (cA (cA (cB (cA (cA (cB (cA (cB (cB c96c37)))))))))) (Ann.snd (Ann.fst (Ann.fst (Ann.snd (Ann.fst (Ann.fst (Ann.snd (Ann.fst (Ann.snd (Ann.snd an96c37)))))))))) (kc96c37_8 n m1) (xb96c37_9 n m1) rt96c37
noncomputable def xb96c37_12 (n : Nat × Nat) (m1 : Nat) : Nat → St → Option R96c37 := fun j s => bif Nat.beq j 2 then normC [0, 1, 2, 3, 9, 10, 23, 24, 25, 26, 27, 28, 29, 30, 31, 32, 33, 34, 35] s (kq96c37_10 n m1) else (xb96c37_9 n m1) j s
noncomputable def F96c37_13 (n : Nat × Nat) (m1 : Nat) : (St → Option R96c37) → St → Option R96c37 := fun K s => run (E96c37 n) (cA (cA (cA (cA (cA (cB (cA (cA (cB (cA (cB (cB c96c37)))))))))))) (Ann.fst (Ann.fst (Ann.fst (Ann.fst (Ann.fst (Ann.snd (Ann.fst (Ann.fst (Ann.snd (Ann.fst (Ann.snd (Ann.snd an96c37)))))))))))) (fun s => normC [0, 1, 2, 3, 9, 10, 23, 24, 25, 26, 27, 28, 29, 30, 31, 32, 33, 34, 35] s K) (xb96c37_12 n m1) rt96c37 s
noncomputable def L96c37_1 (n : Nat × Nat) (m : Nat) (data0 : List (List Int)) (a1 : Int) (b2 : Int) (i9 : Int) (j10 : Int) : Option R96c37 := loopN (F96c37_4 n) m { tm := [.c (.sl (.sl (.int .i64)) data0 false), .c (.int .i64 a1), .c (.int .i64 b2), .fn 37 [], uu, uu, uu, uu, uu, .c (.int .i64 i9), .c (.int .i64 j10), uu, uu, uu, uu, uu, uu, uu, uu, uu, uu, uu, uu, uu, uu, uu, uu, uu, uu, uu, uu, uu, uu, uu, uu, uu, uu, uu, uu, uu, uu, uu, uu, uu, uu, uu, uu, uu, uu, uu, uu, uu, uu, uu, uu, uu, uu, uu, uu, uu, uu, uu, uu, uu, uu, uu, uu, uu, uu, uu, uu, uu, uu, uu, uu, uu, uu, uu, uu, uu, uu, uu, uu, uu, uu, uu, uu, uu, uu, uu, uu, uu, uu, uu, uu, uu, uu, uu, uu, uu, uu, uu, uu, uu, uu, uu, uu, uu, uu, uu, uu, uu, uu, uu, uu, uu, uu, uu, uu, uu, uu, uu, uu, uu, uu, uu, uu, uu, uu, uu, uu, uu, uu, uu, uu, uu, uu, uu, uu, uu, uu], hp := emp }
noncomputable def L96c37_2 (n : Nat × Nat) (m1 : Nat) (m : Nat) (data0 : List (List Int)) (a1 : Int) (b2 : Int) (i9 : Int) (j10 : Int) : Option R96c37 := loopN (F96c37_13 n m1) m { tm := [.c (.sl (.sl (.int .i64)) data0 false), .c (.int .i64 a1), .c (.int .i64 b2), .fn 37 [], uu, uu, uu, uu, uu, .c (.int .i64 i9), .c (.int .i64 j10), uu, uu, uu, uu, uu, uu, uu, uu, uu, uu, uu, uu, uu, uu, uu, uu, uu, uu, uu, uu, uu, uu, uu, uu, uu, uu, uu, uu, uu, uu, uu, uu, uu, uu, uu, uu, uu, uu, uu, uu, uu, uu, uu, uu, uu, uu, uu, uu, uu, uu, uu, uu, uu, uu, uu, uu, uu, uu, uu, uu, uu, uu, uu, uu, uu, uu, uu, uu, uu, uu, uu, uu, uu, uu, uu, uu, uu, uu, uu, uu, uu, uu, uu, uu, uu, uu, uu, uu, uu, uu, uu, uu, uu, uu, uu, uu, uu, uu, uu, uu, uu, uu, uu, uu, uu, uu, uu, uu, uu, uu, uu, uu, uu, uu, uu, uu, uu, uu, uu, uu, uu, uu, uu, uu, uu, uu, uu, uu, uu, uu], hp := emp }
theorem L96c37_1_eq (n : Nat × Nat) (m1 : Nat) (data0 : List (List Int)) (a1 : Int) (b2 : Int) (i9 : Int) (j10 : Int) : L96c37_1 n (m1 + 1) data0 a1 b2 i9 j10 =
 (bif decide (j10 < 5) then L96c37_2 n m1 n.1 data0 a1 b2 i9 j10
 else some false) := by kernel_rfl
theorem L96c37_2_eq (n : Nat × Nat) (m1 m2 : Nat) (data0 : List (List Int)) (a1 : Int) (b2 : Int) (i9 : Int) (j10 : Int) : L96c37_2 n m1 (m2 + 1) data0 a1 b2 i9 j10 =
 ((bif (decide (i9 < b2) == true) then (idx data0 i9).bind fun x1' =>
 (idx data0 (wr .i64 (i9 - 1))).bind fun x2' =>
 (S37 n x1' x2').bind fun r3' =>
 some (!(decide (r3' < 0)))
 else some false)).bind fun b4' =>
 (bif b4' then L96c37_2 n m1 m2 data0 a1 b2 (wr .i64 (i9 + 1)) j10
 else (bif (i9 == b2) then some true
 else (bif decide (wr .i64 (b2 - a1) < 50) then some false
 else none))) := by kernel_rfl
noncomputable def S96c37 (n : Nat × Nat) (data0 : List (List Int)) (a1 : Int) (b2 : Int) : Option R96c37 := run (E96c37 n) c96c37 an96c37 rt96c37 (fun _ _ => none) rt96c37 { tm := [.c (.sl (.sl (.int .i64)) data0 false), .c (.int .i64 a1), .c (.int .i64 b2), .fn 37 [], uu, uu, uu, uu, uu, uu, uu, uu, uu, uu, uu, uu, uu, uu, uu, uu, uu, uu, uu, uu, uu, uu, uu, uu, uu, uu, uu, uu, uu, uu, uu, uu, uu, uu, uu, uu, uu, uu, uu, uu, uu, uu, uu, uu, uu, uu, uu, uu, uu, uu, uu, uu, uu, uu, uu, uu, uu, uu, uu, uu, uu, uu, uu, uu, uu, uu, uu, uu, uu, uu, uu, uu, uu, uu, uu, uu, uu, uu, uu, uu, uu, uu, uu, uu, uu, uu, uu, uu, uu, uu, uu, uu, uu, uu, uu, uu, uu, uu, uu, uu, uu, uu, uu, uu, uu, uu, uu, uu, uu, uu, uu, uu, uu, uu, uu, uu, uu, uu, uu, uu, uu, uu, uu, uu, uu, uu, uu, uu, uu, uu, uu, uu, uu, uu, uu, uu, uu], hp := emp }
theorem S96c37_eq (n : Nat × Nat) (data0 : List (List Int)) (a1 : Int) (b2 : Int) : S96c37 n data0 a1 b2 =
    L96c37_1 n n.1 data0 a1 b2 (wr .i64 (a1 + 1)) 0 := by kernel_rfl
theorem S96c37_run (n : Nat × Nat) (xs : pksDen pk96c37) : S96c37 n xs.1 xs.2.1 xs.2.2.1 = runG (E96c37 n) noScope c96c37 an96c37 (rtG rk96c37) (fun _ _ => none) (rtG rk96c37) (st0 pk96c37 xs Tryd.f96.ntmps) := by kernel_rfl
noncomputable def P96c37 (n : Nat × Nat) := phiOf pk96c37 rk96c37 (fun xs => S96c37 n xs.1 xs.2.1 xs.2.2.1)
theorem call96 : CallOK Tryd.prog 96 := callOK_of Tryd.func96 (by kernel_rfl) (by kernel_rfl)
theorem env96c37 (n : Nat × Nat) : EnvOK Tryd.prog (E96c37 n) := envOK0 (consPhi_ok (FC37 n) call37 noPhi_ok) rfl rfl
theorem par96c37 (n : Nat × Nat) : EnvPar (E96c37 n) := envPar0 (consPhi_par phiOf_Par1 noPhi_par) rfl
theorem FC96c37 (n : Nat × Nat) : FCs Tryd.prog 96 (P96c37 n) := phiOf_FCs fun xs r h vs hv => FC.of_runG tabOK eqsOK (env96c37 n) (par96c37 n) mixed (fun _ p _ => noScope_ok p.1 p.2) Tryd.func96 (c := c96c37) (an := an96c37) (pks := pk96c37) (rks := rk96c37) (by kernel_rfl) (by kernel_rfl) hv ((S96c37_run n xs).symm.trans h)
/- slices.partitionEqualCmpFunc[[]int] -/
abbrev R97c37 := Int
noncomputable def c97c37 : Code := bodyOf Tryd.f97
noncomputable def an97c37 : Ann := (.s .l (.s .l (.s .l (.s (.j [11] (.j [0, 1, 4, 11, 12, 35, 36, 37, 38, 39, 40, 41, 42, 43, 44, 45, 46, 54, 55, 56, 57, 58, 59, 60, 61, 62, 63, 64] (.j [0, 1, 4, 11, 12, 35, 36, 37, 38, 39, 40, 41, 42, 43, 44, 45, 46, 54, 55, 56, 57, 58, 59, 60, 61, 62, 63, 64] (.s (.j [0, 1, 4, 11, 12, 35, 36, 37, 38, 39, 40, 41, 42, 43, 44, 45, 46, 54, 55, 56, 57, 58, 59, 60, 61, 62, 63, 64] (.j [0, 1, 4, 11, 12, 35, 36, 37, 38, 39, 40, 41, 42, 43, 44, 45, 46, 54, 55, 56, 57, 58, 59, 60, 61, 62, 63, 64] (.s (.s .l (.j [0, 1, 4, 11, 12, 35, 36, 37, 38, 39, 40, 41, 42, 43, 44, 45, 46, 54, 55, 56, 57, 58, 59, 60, 61, 62, 63, 64] .l .l)) (.j [0, 1, 4, 11, 12, 35, 36, 37, 38, 39, 40, 41, 42, 43, 44, 45, 46, 54, 55, 56, 57, 58, 59, 60, 61, 62, 63, 64] .l .l)) .l) .l) (.s (.j [0, 1, 4, 11, 12, 35, 36, 37, 38, 39, 40, 41, 42, 43, 44, 45, 46, 54, 55, 56, 57, 58, 59, 60, 61, 62, 63, 64] (.j [0, 1, 4, 11, 12, 35, 36, 37, 38, 39, 40, 41, 42, 43, 44, 45, 46, 54, 55, 56, 57, 58, 59, 60, 61, 62, 63, 64] (.s (.s .l (.j [0, 1, 4, 11, 12, 35, 36, 37, 38, 39, 40, 41, 42, 43, 44, 45, 46, 54, 55, 56, 57, 58, 59, 60, 61, 62, 63, 64] .l .l)) (.j [0, 1, 4, 11, 12, 35, 36, 37, 38, 39, 40, 41, 42, 43, 44, 45, 46, 54, 55, 56, 57, 58, 59, 60, 61, 62, 63, 64] .l .l)) .l) .l) (.s (.s .l (.j [0, 1, 4, 11, 12, 35, 36, 37, 38, 39, 40, 41, 42, 43, 44, 45, 46, 54, 55, 56, 57, 58, 59, 60, 61, 62, 63, 64] .l .l)) .l))) .l) .l) .l) .l))))
def pk97c37 : List PK := [.c (.sl (.sl (.int .i64))), .c (.int .i64), .c (.int .i64), .c (.int .i64), .f 37 []]
def rk97c37 : List RK := [.c (.int .i64) 10]
noncomputable def rt97c37 (st : St) : Option R97c37 := rtG rk97c37 st
noncomputable def E97c37 (n : Nat × Nat) : Env := { T := tab, phi := noPhi, eff := fun _ => false, fuel := n.1, hold := n.2 }
noncomputable def S97c37 (n : Nat × Nat) (data0 : List (List Int)) (a1 : Int) (b2 : Int) (pivot3 : Int) : Option R97c37 := run (E97c37 n) c97c37 an97c37 rt97c37 (fun _ _ => none) rt97c37 { tm := [.c (.sl (.sl (.int .i64)) data0 false), .c (.int .i64 a1), .c (.int .i64 b2), .c (.int .i64 pivot3), .fn 37 [], uu, uu, uu, uu, uu, uu, uu, uu, uu, uu, uu, uu, uu, uu, uu, uu, uu, uu, uu, uu, uu, uu, uu, uu, uu, uu, uu, uu, uu, uu, uu, uu, uu, uu, uu, uu, uu, uu, uu, uu, uu, uu, uu, uu, uu, uu, uu, uu, uu, uu, uu, uu, uu, uu, uu, uu, uu, uu, uu, uu, uu, uu, uu, uu, uu, uu, uu, uu, uu, uu, uu, uu, uu, uu, uu, uu, uu, uu, uu, uu, uu, uu, uu, uu, uu], hp := emp }
theorem S97c37_eq (n : Nat × Nat) (data0 : List (List Int)) (a1 : Int) (b2 : Int) (pivot3 : Int) : S97c37 n data0 a1 b2 pivot3 =
 none := by kernel_rfl
theorem S97c37_run (n : Nat × Nat) (xs : pksDen pk97c37) : S97c37 n xs.1 xs.2.1 xs.2.2.1 xs.2.2.2.1 = runG (E97c37 n) noScope c97c37 an97c37 (rtG rk97c37) (fun _ _ => none) (rtG rk97c37) (st0 pk97c37 xs Tryd.f97.ntmps) := by kernel_rfl
noncomputable def P97c37 (n : Nat × Nat) := phiOf pk97c37 rk97c37 (fun xs => S97c37 n xs.1 xs.2.1 xs.2.2.1 xs.2.2.2.1)
theorem call97 : CallOK Tryd.prog 97 := callOK_of Tryd.func97 (by kernel_rfl) (by kernel_rfl)
theorem env97c37 (n : Nat × Nat) : EnvOK Tryd.prog (E97c37 n) := envOK0 noPhi_ok rfl rfl
theorem par97c37 (n : Nat × Nat) : EnvPar (E97c37 n) := envPar0 noPhi_par rfl
theorem FC97c37 (n : Nat × Nat) : FCs Tryd.prog 97 (P97c37 n) := phiOf_FCs fun xs r h vs hv => FC.of_runG tabOK eqsOK (env97c37 n) (par97c37 n) mixed (fun _ p _ => noScope_ok p.1 p.2) Tryd.func97 (c := c97c37) (an := an97c37) (pks := pk97c37) (rks := rk97c37) (by kernel_rfl) (by kernel_rfl) hv ((S97c37_run n xs).symm.trans h)
/- slices.partitionCmpFunc[[]int] -/
abbrev R98c37 := Int × Bool
noncomputable def c98c37 : Code := bodyOf Tryd.f98
noncomputable def an98c37 : Ann := (.s .l (.s .l (.s .l (.s (.j [0, 1, 4, 12, 13, 54, 55, 56, 57, 58, 59, 60, 61, 62, 63, 64, 65, 109, 110, 111, 112, 113, 114, 115, 116, 117, 118, 119, 127, 128, 129, 130, 131, 132, 133, 134, 135, 136, 137, 138] (.j [0, 1, 4, 12, 13, 36, 37, 38, 39, 40, 41, 42, 43, 44, 45, 46, 54, 55, 56, 57, 58, 59, 60, 61, 62, 63, 64, 65, 109, 110, 111, 112, 113, 114, 115, 116, 117, 118, 119, 127, 128, 129, 130, 131, 132, 133, 134, 135, 136, 137, 138] (.s (.s .l (.j [0, 1, 4, 12, 13, 36, 37, 38, 39, 40, 41, 42, 43, 44, 45, 46, 54, 55, 56, 57, 58, 59, 60, 61, 62, 63, 64, 65, 109, 110, 111, 112, 113, 114, 115, 116, 117, 118, 119, 127, 128, 129, 130, 131, 132, 133, 134, 135, 136, 137, 138] .l .l)) (.j [0, 1, 4, 12, 13, 36, 37, 38, 39, 40, 41, 42, 43, 44, 45, 46, 54, 55, 56, 57, 58, 59, 60, 61, 62, 63, 64, 65, 109, 110, 111, 112, 113, 114, 115, 116, 117, 118, 119, 127, 128, 129, 130, 131, 132, 133, 134, 135, 136, 137, 138] .l .l)) .l) .l) (.s (.j [0, 1, 4, 12, 13, 109, 110, 111, 112, 113, 114, 115, 116, 117, 118, 119, 127, 128, 129, 130, 131, 132, 133, 134, 135, 136, 137, 138] (.j [0, 1, 4, 12, 13, 54, 55, 56, 57, 58, 59, 60, 61, 62, 63, 64, 65, 109, 110, 111, 112, 113, 114, 115, 116, 117, 118, 119, 127, 128, 129, 130, 131, 132, 133, 134, 135, 136, 137, 138] (.s (.s .l (.j [0, 1, 4, 12, 13, 54, 55, 56, 57, 58, 59, 60, 61, 62, 63, 64, 65, 109, 110, 111, 112, 113, 114, 115, 116, 117, 118, 119, 127, 128, 129, 130, 131, 132, 133, 134, 135, 136, 137, 138] .l .l)) (.j [0, 1, 4, 12, 13, 54, 55, 56, 57, 58, 59, 60, 61, 62, 63, 64, 65, 109, 110, 111, 112, 113, 114, 115, 116, 117, 118, 119, 127, 128, 129, 130, 131, 132, 133, 134, 135, 136, 137, 138] .l .l)) .l) .l) (.s (.s .l (.j [0, 1, 4, 12, 13, 109, 110, 111, 112, 113, 114, 115, 116, 117, 118, 119, 127, 128, 129, 130, 131, 132, 133, 134, 135, 136, 137, 138] .l .l)) (.s .l (.s .l (.s .l (.s (.j [0, 1, 13] (.j [0, 1, 4, 12, 13, 109, 110, 111, 112, 113, 114, 115, 116, 117, 118, 119, 127, 128, 129, 130, 131, 132, 133, 134, 135, 136, 137, 138] (.j [0, 1, 4, 12, 13, 109, 110, 111, 112, 113, 114, 115, 116, 117, 118, 119, 127, 128, 129, 130, 131, 132, 133, 134, 135, 136, 137, 138] (.s (.j [0, 1, 4, 12, 13, 109, 110, 111, 112, 113, 114, 115, 116, 117, 118, 119, 127, 128, 129, 130, 131, 132, 133, 134, 135, 136, 137, 138] (.j [0, 1, 4, 12, 13, 109, 110, 111, 112, 113, 114, 115, 116, 117, 118, 119, 127, 128, 129, 130, 131, 132, 133, 134, 135, 136, 137, 138] (.s (.s .l (.j [0, 1, 4, 12, 13, 109, 110, 111, 112, 113, 114, 115, 116, 117, 118, 119, 127, 128, 129, 130, 131, 132, 133, 134, 135, 136, 137, 138] .l .l)) (.j [0, 1, 4, 12, 13, 109, 110, 111, 112, 113, 114, 115, 116, 117, 118, 119, 127, 128, 129, 130, 131, 132, 133, 134, 135, 136, 137, 138] .l .l)) .l) .l) (.s (.j [0, 1, 4, 12, 13, 109, 110, 111, 112, 113, 114, 115, 116, 117, 118, 119, 127, 128, 129, 130, 131, 132, 133, 134, 135, 136, 137, 138] (.j [0, 1, 4, 12, 13, 109, 110, 111, 112, 113, 114, 115, 116, 117, 118, 119, 127, 128, 129, 130, 131, 132, 133, 134, 135, 136, 137, 138] (.s (.s .l (.j [0, 1, 4, 12, 13, 109, 110, 111, 112, 113, 114, 115, 116, 117, 118, 119, 127, 128, 129, 130, 131, 132, 133, 134, 135, 136, 137, 138] .l .l)) (.j [0, 1, 4, 12, 13, 109, 110, 111, 112, 113, 114, 115, 116, 117, 118, 119, 127, 128, 129, 130, 131, 132, 133, 134, 135, 136, 137, 138] .l .l)) .l) .l) (.s (.s .l (.j [0, 1, 4, 12, 13, 109, 110, 111, 112, 113, 114, 115, 116, 117, 118, 119, 127, 128, 129, 130, 131, 132, 133, 134, 135, 136, 137, 138] .l .l)) .l))) .l) .l) .l) .l))))))))))
def pk98c37 : List PK := [.c (.sl (.sl (.int .i64))), .c (.int .i64), .c (.int .i64), .c (.int .i64), .f 37 []]
def rk98c37 : List RK := [.c (.int .i64) 10, .c .bool 11]
noncomputable def rt98c37 (st : St) : Option R98c37 := rtG rk98c37 st
noncomputable def E98c37 (n : Nat × Nat) : Env := { T := tab, phi := noPhi, eff := fun _ => false, fuel := n.1, hold := n.2 }
noncomputable def S98c37 (n : Nat × Nat) (data0 : List (List Int)) (a1 : Int) (b2 : Int) (pivot3 : Int) : Option R98c37 := run (E98c37 n) c98c37 an98c37 rt98c37 (fun _ _ => none) rt98c37 { tm := [.c (.sl (.sl (.int .i64)) data0 false), .c (.int .i64 a1), .c (.int .i64 b2), .c (.int .i64 pivot3), .fn 37 [], uu, uu, uu, uu, uu, uu, uu, uu, uu, uu, uu, uu, uu, uu, uu, uu, uu, uu, uu, uu, uu, uu, uu, uu, uu, uu, uu, uu, uu, uu, uu, uu, uu, uu, uu, uu, uu, uu, uu, uu, uu, uu, uu, uu, uu, uu, uu, uu, uu, uu, uu, uu, uu, uu, uu, uu, uu, uu, uu, uu, uu, uu, uu, uu, uu, uu, uu, uu, uu, uu, uu, uu, uu, uu, uu, uu, uu, uu, uu, uu, uu, uu, uu, uu, uu, uu, uu, uu, uu, uu, uu, uu, uu, uu, uu, uu, uu, uu, uu, uu, uu, uu, uu, uu, uu, uu, uu, uu, uu, uu, uu, uu, uu, uu, uu, uu, uu, uu, uu, uu, uu, uu, uu, uu, uu, uu, uu, uu, uu, uu, uu, uu, uu, uu, uu, uu, uu, uu, uu, uu, uu, uu, uu, uu, uu, uu, uu, uu, uu, uu, uu, uu, uu, uu, uu, uu, uu, uu, uu, uu, uu, uu, uu, uu, uu, uu, uu, uu, uu, uu, uu, uu, uu], hp := emp }
theorem S98c37_eq (n : Nat × Nat) (data0 : List (List Int)) (a1 : Int) (b2 : Int) (pivot3 : Int) : S98c37 n data0 a1 b2 pivot3 =
 none := by kernel_rfl
theorem S98c37_run (n : Nat × Nat) (xs : pksDen pk98c37) : S98c37 n xs.1 xs.2.1 xs.2.2.1 xs.2.2.2.1 = runG (E98c37 n) noScope c98c37 an98c37 (rtG rk98c37) (fun _ _ => none) (rtG rk98c37) (st0 pk98c37 xs Tryd.f98.ntmps) := by kernel_rfl
noncomputable def P98c37 (n : Nat × Nat) := phiOf pk98c37 rk98c37 (fun xs => S98c37 n xs.1 xs.2.1 xs.2.2.1 xs.2.2.2.1)
theorem call98 : CallOK Tryd.prog 98 := callOK_of Tryd.func98 (by kernel_rfl) (by kernel_rfl)
theorem env98c37 (n : Nat × Nat) : EnvOK Tryd.prog (E98c37 n) := envOK0 noPhi_ok rfl rfl
theorem par98c37 (n : Nat × Nat) : EnvPar (E98c37 n) := envPar0 noPhi_par rfl
theorem FC98c37 (n : Nat × Nat) : FCs Tryd.prog 98 (P98c37 n) := phiOf_FCs fun xs r h vs hv => FC.of_runG tabOK eqsOK (env98c37 n) (par98c37 n) mixed (fun _ p _ => noScope_ok p.1 p.2) Tryd.func98 (c := c98c37) (an := an98c37) (pks := pk98c37) (rks := rk98c37) (by kernel_rfl) (by kernel_rfl) hv ((S98c37_run n xs).symm.trans h)
/- slices.pdqsortCmpFunc[[]int] -/
abbrev R67c37 := Unit
noncomputable def c67c37 : Code := bodyOf Tryd.f67
noncomputable def an67c37 : Ann := (.s .l (.s .l (.j [] (.j [0, 1, 2, 3, 4, 10, 11, 70, 73, 74, 84, 85, 86, 87, 88, 89, 90, 91, 92, 93, 94, 95, 96] (.j [0, 1, 2, 3, 4, 10, 11, 70, 73, 74, 84, 85, 86, 87, 88, 89, 90, 91, 92, 93, 94, 95, 96] (.s .l (.s (.s .l (.j [0, 1, 2, 3, 4, 10, 11, 12, 70, 73, 74, 84, 85, 86, 87, 88, 89, 90, 91, 92, 93, 94, 95, 96] .l .l)) (.s (.s .l (.j [0, 1, 2, 3, 4, 10, 11, 12, 70, 73, 74, 84, 85, 86, 87, 88, 89, 90, 91, 92, 93, 94, 95, 96] .l .l)) (.s (.s .l (.j [0, 1, 2, 3, 4, 10, 11, 12, 70, 73, 74, 84, 85, 86, 87, 88, 89, 90, 91, 92, 93, 94, 95, 96] .l .l)) (.s .l (.s (.s .l (.j [0, 1, 2, 3, 4, 10, 11, 12, 13, 14, 70, 73, 74, 84, 85, 86, 87, 88, 89, 90, 91, 92, 93, 94, 95, 96] .l .l)) (.s (.s .l (.j [0, 1, 2, 3, 4, 10, 11, 12, 13, 70, 73, 74, 84, 85, 86, 87, 88, 89, 90, 91, 92, 93, 94, 95, 96] (.s .l (.j [0, 1, 2, 3, 4, 10, 11, 12, 13, 70, 73, 74, 84, 85, 86, 87, 88, 89, 90, 91, 92, 93, 94, 95, 96] .l .l)) .l)) (.s (.s .l (.j [0, 1, 2, 3, 4, 12, 13, 70, 73, 74, 84, 85, 86, 87, 88, 89, 90, 91, 92, 93, 94, 95, 96] .l .l)) (.s .l (.s .l (.s .l (.s .l (.s .l (.j [0, 1, 2, 3, 4, 10, 11, 70, 73, 74, 84, 85, 86, 87, 88, 89, 90, 91, 92, 93, 94, 95, 96] .l .l)))))))))))))) .l) .l) .l)))
def pk67c37 : List PK := [.c (.sl (.sl (.int .i64))), .c (.int .i64), .c (.int .i64), .c (.int .i64), .f 37 []]
def rk67c37 : List RK := []
noncomputable def rt67c37 (st : St) : Option R67c37 := rtG rk67c37 st
noncomputable def E67c37 (n : Nat × Nat) (SS : List (List Int) → Int → Int → Int → Option R67c37) : Env := { T := tab, phi := (consPhi 67 (fun _ => true) (phiOf pk67c37 rk67c37 (fun xs => SS xs.1 xs.2.1 xs.2.2.1 xs.2.2.2.1)) (consPhi 37 (fun _ => true) (P37 n) (consPhi 91 (isFns [none, none, none, some 37]) (P91c37 n) (consPhi 92 (isFns [none, none, none, some 37]) (P92c37 n) (consPhi 93 (isFns [none, none, none, some 37]) (P93c37 n) (consPhi 94 (isFns [none, none, none, some 37]) (P94c37 n) (consPhi 95 (isFns [none, none, none, some 37]) (P95c37 n) (consPhi 96 (isFns [none, none, none, some 37]) (P96c37 n) (consPhi 97 (isFns [none, none, none, none, some 37]) (P97c37 n) (consPhi 98 (isFns [none, none, none, none, some 37]) (P98c37 n) noPhi)))))))))), eff := fun _ => false, fuel := n.1, hold := n.2, pcl := [84] }
noncomputable def xb67c37_2 (n : Nat × Nat) (SS : List (List Int) → Int → Int → Int → Option R67c37) : Nat → St → Option R67c37 := fun j s => bif Nat.beq j 0 then normC [] s rt67c37 else (fun _ _ => none) j s
noncomputable def F67c37_3 (n : Nat × Nat) (SS : List (List Int) → Int → Int → Int → Option R67c37) : (St → Option R67c37) → St → Option R67c37 := fun K s => run (E67c37 n SS) (cA (cA (cB (cB c67c37)))) (Ann.fst (Ann.fst (Ann.snd (Ann.snd an67c37)))) (fun s => normC [0, 1, 2, 3, 4, 10, 11, 70, 73, 74, 84, 85, 86, 87, 88, 89, 90, 91, 92, 93, 94, 95, 96] s K) (xb67c37_2 n SS) rt67c37 s
noncomputable def L67c37_1 (n : Nat × Nat) (SS : List (List Int) → Int → Int → Int → Option R67c37) (m : Nat) (data0 : List (List Int)) (a1 : Int) (b2 : Int) (limit3 : Int) (wasBalanced10 : Bool) (wasPartitioned11 : Bool) : Option R67c37 := loopN (F67c37_3 n SS) m { tm := [.c (.sl (.sl (.int .i64)) data0 false), .c (.int .i64 a1), .c (.int .i64 b2), .c (.int .i64 limit3), .fn 37 [], uu, uu, uu, uu, uu, .c (.bool wasBalanced10), .c (.bool wasPartitioned11), uu, uu, uu, uu, uu, uu, uu, uu, uu, uu, uu, uu, uu, uu, uu, uu, uu, uu, uu, uu, uu, uu, uu, uu, uu, uu, uu, uu, uu, uu, uu, uu, uu, uu, uu, uu, uu, uu, uu, uu, uu, uu, uu, uu, uu, uu, uu, uu, uu, uu, uu, uu, uu, uu, uu, uu, uu, uu, uu, uu, uu, uu, uu, uu, uu, uu, uu, uu, uu, uu, uu, uu, uu, uu, uu, uu, uu, uu, uu, uu, uu, uu, uu, uu, uu, uu, uu, uu, uu, uu, uu, uu, uu, uu, uu, uu, uu, uu, uu, uu, uu, uu, uu, uu, uu, uu, uu, uu, uu, uu, uu, uu, uu, uu, uu, uu, uu, uu, uu, uu, uu, uu, uu, uu, uu, uu, uu, uu, uu, uu, uu, uu, uu, uu, uu, uu], hp := emp }
theorem L67c37_1_eq (n : Nat × Nat) (SS : List (List Int) → Int → Int → Int → Option R67c37) (m1 : Nat) (data0 : List (List Int)) (a1 : Int) (b2 : Int) (limit3 : Int) (wasBalanced10 : Bool) (wasPartitioned11 : Bool) : L67c37_1 n SS (m1 + 1) data0 a1 b2 limit3 wasBalanced10 wasPartitioned11 =
 (bif decide (wr .i64 (b2 - a1) ≤ 12) then (S91c37 n data0 a1 b2).bind fun r1' =>
 some ()
 else (bif (limit3 == 0) then (S92c37 n data0 a1 b2).bind fun r2' =>
 some ()
 else (bif (!wasBalanced10) then (S93c37 n data0 a1 b2).bind fun r3' =>
 (S94c37 n data0 a1 b2).bind fun r4' =>
 (bif (r4'.2 == 2) then (S95c37 n data0 a1 b2).bind fun r5' =>
 ((bif (wasBalanced10 == true) then some wasPartitioned11
 else some false)).bind fun b6' =>
 ((bif (b6' == true) then some (1 == 1)
 else some false)).bind fun b7' =>
 (bif b7' then (S96c37 n data0 a1 b2).bind fun r8' =>
 (bif r8' then some ()
 else ((bif (decide (a1 > 0) == true) then (idx data0 (wr .i64 (a1 - 1))).bind fun x9' =>
 (idx data0 (wr .i64 ((wr .i64 (b2 - 1)) - (wr .i64 (r4'.1 - a1))))).bind fun x10' =>
 (S37 n x9' x10').bind fun r11' =>
 some (!(decide (r11' < 0)))
 else some false)).bind fun b12' =>
 (bif b12' then (S97c37 n data0 a1 b2 (wr .i64 ((wr .i64 (b2 - 1)) - (wr .i64 (r4'.1 - a1))))).bind fun r13' =>
                  L67c37_1 n SS m1 data0 r13' b2 (wr .i64 (limit3 - 1)) wasBalanced10 wasPartitioned11
 else (S98c37 n data0 a1 b2 (wr .i64 ((wr .i64 (b2 - 1)) - (wr .i64 (r4'.1 - a1))))).bind fun r14' =>
 (bif 8 == 0 then none
 else (bif decide (wr .i64 (r14'.1 - a1) < wr .i64 (b2 - r14'.1)) then (SS data0 a1 r14'.1 (wr .i64 (limit3 - 1))).bind fun r15' =>
                      L67c37_1 n SS m1 data0 (wr .i64 (r14'.1 + 1)) b2 (wr .i64 (limit3 - 1)) (decide (wr .i64 (r14'.1 - a1) ≥ wr .i64 (Int.tdiv (wr .i64 (b2 - a1)) 8))) r14'.2
 else (SS data0 (wr .i64 (r14'.1 + 1)) b2 (wr .i64 (limit3 - 1))).bind fun r16' =>
                      L67c37_1 n SS m1 data0 a1 r14'.1 (wr .i64 (limit3 - 1)) (decide (wr .i64 (b2 - r14'.1) ≥ wr .i64 (Int.tdiv (wr .i64 (b2 - a1)) 8))) r14'.2))))
 else ((bif (decide (a1 > 0) == true) then (idx data0 (wr .i64 (a1 - 1))).bind fun x17' =>
 (idx data0 (wr .i64 ((wr .i64 (b2 - 1)) - (wr .i64 (r4'.1 - a1))))).bind fun x18' =>
 (S37 n x17' x18').bind fun r19' =>
 some (!(decide (r19' < 0)))
 else some false)).bind fun b20' =>
 (bif b20' then (S97c37 n data0 a1 b2 (wr .i64 ((wr .i64 (b2 - 1)) - (wr .i64 (r4'.1 - a1))))).bind fun r21' =>
                L67c37_1 n SS m1 data0 r21' b2 (wr .i64 (limit3 - 1)) wasBalanced10 wasPartitioned11
 else (S98c37 n data0 a1 b2 (wr .i64 ((wr .i64 (b2 - 1)) - (wr .i64 (r4'.1 - a1))))).bind fun r22' =>
 (bif 8 == 0 then none
 else (bif decide (wr .i64 (r22'.1 - a1) < wr .i64 (b2 - r22'.1)) then (SS data0 a1 r22'.1 (wr .i64 (limit3 - 1))).bind fun r23' =>
                    L67c37_1 n SS m1 data0 (wr .i64 (r22'.1 + 1)) b2 (wr .i64 (limit3 - 1)) (decide (wr .i64 (r22'.1 - a1) ≥ wr .i64 (Int.tdiv (wr .i64 (b2 - a1)) 8))) r22'.2
 else (SS data0 (wr .i64 (r22'.1 + 1)) b2 (wr .i64 (limit3 - 1))).bind fun r24' =>
                    L67c37_1 n SS m1 data0 a1 r22'.1 (wr .i64 (limit3 - 1)) (decide (wr .i64 (b2 - r22'.1) ≥ wr .i64 (Int.tdiv (wr .i64 (b2 - a1)) 8))) r22'.2))))
 else ((bif (wasBalanced10 == true) then some wasPartitioned11
 else some false)).bind fun b25' =>
 ((bif (b25' == true) then some (r4'.2 == 1)
 else some false)).bind fun b26' =>
 (bif b26' then (S96c37 n data0 a1 b2).bind fun r27' =>
 (bif r27' then some ()
 else ((bif (decide (a1 > 0) == true) then (idx data0 (wr .i64 (a1 - 1))).bind fun x28' =>
 (idx data0 r4'.1).bind fun x29' =>
 (S37 n x28' x29').bind fun r30' =>
 some (!(decide (r30' < 0)))
 else some false)).bind fun b31' =>
 (bif b31' then (S97c37 n data0 a1 b2 r4'.1).bind fun r32' =>
                  L67c37_1 n SS m1 data0 r32' b2 (wr .i64 (limit3 - 1)) wasBalanced10 wasPartitioned11
 else (S98c37 n data0 a1 b2 r4'.1).bind fun r33' =>
 (bif 8 == 0 then none
 else (bif decide (wr .i64 (r33'.1 - a1) < wr .i64 (b2 - r33'.1)) then (SS data0 a1 r33'.1 (wr .i64 (limit3 - 1))).bind fun r34' =>
                      L67c37_1 n SS m1 data0 (wr .i64 (r33'.1 + 1)) b2 (wr .i64 (limit3 - 1)) (decide (wr .i64 (r33'.1 - a1) ≥ wr .i64 (Int.tdiv (wr .i64 (b2 - a1)) 8))) r33'.2
 else (SS data0 (wr .i64 (r33'.1 + 1)) b2 (wr .i64 (limit3 - 1))).bind fun r35' =>
                      L67c37_1 n SS m1 data0 a1 r33'.1 (wr .i64 (limit3 - 1)) (decide (wr .i64 (b2 - r33'.1) ≥ wr .i64 (Int.tdiv (wr .i64 (b2 - a1)) 8))) r33'.2))))
 else ((bif (decide (a1 > 0) == true) then (idx data0 (wr .i64 (a1 - 1))).bind fun x36' =>
 (idx data0 r4'.1).bind fun x37' =>
 (S37 n x36' x37').bind fun r38' =>
 some (!(decide (r38' < 0)))
 else some false)).bind fun b39' =>
 (bif b39' then (S97c37 n data0 a1 b2 r4'.1).bind fun r40' =>
                L67c37_1 n SS m1 data0 r40' b2 (wr .i64 (limit3 - 1)) wasBalanced10 wasPartitioned11
 else (S98c37 n data0 a1 b2 r4'.1).bind fun r41' =>
 (bif 8 == 0 then none
 else (bif decide (wr .i64 (r41'.1 - a1) < wr .i64 (b2 - r41'.1)) then (SS data0 a1 r41'.1 (wr .i64 (limit3 - 1))).bind fun r42' =>
                    L67c37_1 n SS m1 data0 (wr .i64 (r41'.1 + 1)) b2 (wr .i64 (limit3 - 1)) (decide (wr .i64 (r41'.1 - a1) ≥ wr .i64 (Int.tdiv (wr .i64 (b2 - a1)) 8))) r41'.2
 else (SS data0 (wr .i64 (r41'.1 + 1)) b2 (wr .i64 (limit3 - 1))).bind fun r43' =>
                    L67c37_1 n SS m1 data0 a1 r41'.1 (wr .i64 (limit3 - 1)) (decide (wr .i64 (b2 - r41'.1) ≥ wr .i64 (Int.tdiv (wr .i64 (b2 - a1)) 8))) r41'.2)))))
 else (S94c37 n data0 a1 b2).bind fun r44' =>
 (bif (r44'.2 == 2) then (S95c37 n data0 a1 b2).bind fun r45' =>
 ((bif (wasBalanced10 == true) then some wasPartitioned11
 else some false)).bind fun b46' =>
 ((bif (b46' == true) then some (1 == 1)
 else some false)).bind fun b47' =>
 (bif b47' then (S96c37 n data0 a1 b2).bind fun r48' =>
 (bif r48' then some ()
 else ((bif (decide (a1 > 0) == true) then (idx data0 (wr .i64 (a1 - 1))).bind fun x49' =>
 (idx data0 (wr .i64 ((wr .i64 (b2 - 1)) - (wr .i64 (r44'.1 - a1))))).bind fun x50' =>
 (S37 n x49' x50').bind fun r51' =>
 some (!(decide (r51' < 0)))
 else some false)).bind fun b52' =>
 (bif b52' then (S97c37 n data0 a1 b2 (wr .i64 ((wr .i64 (b2 - 1)) - (wr .i64 (r44'.1 - a1))))).bind fun r53' =>
                  L67c37_1 n SS m1 data0 r53' b2 limit3 wasBalanced10 wasPartitioned11
 else (S98c37 n data0 a1 b2 (wr .i64 ((wr .i64 (b2 - 1)) - (wr .i64 (r44'.1 - a1))))).bind fun r54' =>
 (bif 8 == 0 then none
 else (bif decide (wr .i64 (r54'.1 - a1) < wr .i64 (b2 - r54'.1)) then (SS data0 a1 r54'.1 limit3).bind fun r55' =>
                      L67c37_1 n SS m1 data0 (wr .i64 (r54'.1 + 1)) b2 limit3 (decide (wr .i64 (r54'.1 - a1) ≥ wr .i64 (Int.tdiv (wr .i64 (b2 - a1)) 8))) r54'.2
 else (SS data0 (wr .i64 (r54'.1 + 1)) b2 limit3).bind fun r56' =>
                      L67c37_1 n SS m1 data0 a1 r54'.1 limit3 (decide (wr .i64 (b2 - r54'.1) ≥ wr .i64 (Int.tdiv (wr .i64 (b2 - a1)) 8))) r54'.2))))
 else ((bif (decide (a1 > 0) == true) then (idx data0 (wr .i64 (a1 - 1))).bind fun x57' =>
 (idx data0 (wr .i64 ((wr .i64 (b2 - 1)) - (wr .i64 (r44'.1 - a1))))).bind fun x58' =>
 (S37 n x57' x58').bind fun r59' =>
 some (!(decide (r59' < 0)))
 else some false)).bind fun b60' =>
 (bif b60' then (S97c37 n data0 a1 b2 (wr .i64 ((wr .i64 (b2 - 1)) - (wr .i64 (r44'.1 - a1))))).bind fun r61' =>
                L67c37_1 n SS m1 data0 r61' b2 limit3 wasBalanced10 wasPartitioned11
 else (S98c37 n data0 a1 b2 (wr .i64 ((wr .i64 (b2 - 1)) - (wr .i64 (r44'.1 - a1))))).bind fun r62' =>
 (bif 8 == 0 then none
 else (bif decide (wr .i64 (r62'.1 - a1) < wr .i64 (b2 - r62'.1)) then (SS data0 a1 r62'.1 limit3).bind fun r63' =>
                    L67c37_1 n SS m1 data0 (wr .i64 (r62'.1 + 1)) b2 limit3 (decide (wr .i64 (r62'.1 - a1) ≥ wr .i64 (Int.tdiv (wr .i64 (b2 - a1)) 8))) r62'.2
 else (SS data0 (wr .i64 (r62'.1 + 1)) b2 limit3).bind fun r64' =>
                    L67c37_1 n SS m1 data0 a1 r62'.1 limit3 (decide (wr .i64 (b2 - r62'.1) ≥ wr .i64 (Int.tdiv (wr .i64 (b2 - a1)) 8))) r62'.2))))
 else ((bif (wasBalanced10 == true) then some wasPartitioned11
 else some false)).bind fun b65' =>
 ((bif (b65' == true) then some (r44'.2 == 1)
 else some false)).bind fun b66' =>
 (bif b66' then (S96c37 n data0 a1 b2).bind fun r67' =>
 (bif r67' then some ()
 else ((bif (decide (a1 > 0) == true) then (idx data0 (wr .i64 (a1 - 1))).bind fun x68' =>
 (idx data0 r44'.1).bind fun x69' =>
 (S37 n x68' x69').bind fun r70' =>
 some (!(decide (r70' < 0)))
 else some false)).bind fun b71' =>
 (bif b71' then (S97c37 n data0 a1 b2 r44'.1).bind fun r72' =>
                  L67c37_1 n SS m1 data0 r72' b2 limit3 wasBalanced10 wasPartitioned11
 else (S98c37 n data0 a1 b2 r44'.1).bind fun r73' =>
 (bif 8 == 0 then none
 else (bif decide (wr .i64 (r73'.1 - a1) < wr .i64 (b2 - r73'.1)) then (SS data0 a1 r73'.1 limit3).bind fun r74' =>
                      L67c37_1 n SS m1 data0 (wr .i64 (r73'.1 + 1)) b2 limit3 (decide (wr .i64 (r73'.1 - a1) ≥ wr .i64 (Int.tdiv (wr .i64 (b2 - a1)) 8))) r73'.2
 else (SS data0 (wr .i64 (r73'.1 + 1)) b2 limit3).bind fun r75' =>
                      L67c37_1 n SS m1 data0 a1 r73'.1 limit3 (decide (wr .i64 (b2 - r73'.1) ≥ wr .i64 (Int.tdiv (wr .i64 (b2 - a1)) 8))) r73'.2))))
 else ((bif (decide (a1 > 0) == true) then (idx data0 (wr .i64 (a1 - 1))).bind fun x76' =>
 (idx data0 r44'.1).bind fun x77' =>
 (S37 n x76' x77').bind fun r78' =>
 some (!(decide (r78' < 0)))
 else some false)).bind fun b79' =>
 (bif b79' then (S97c37 n data0 a1 b2 r44'.1).bind fun r80' =>
                L67c37_1 n SS m1 data0 r80' b2 limit3 wasBalanced10 wasPartitioned11
 else (S98c37 n data0 a1 b2 r44'.1).bind fun r81' =>
 (bif 8 == 0 then none
 else (bif decide (wr .i64 (r81'.1 - a1) < wr .i64 (b2 - r81'.1)) then (SS data0 a1 r81'.1 limit3).bind fun r82' =>
                    L67c37_1 n SS m1 data0 (wr .i64 (r81'.1 + 1)) b2 limit3 (decide (wr .i64 (r81'.1 - a1) ≥ wr .i64 (Int.tdiv (wr .i64 (b2 - a1)) 8))) r81'.2
 else (SS data0 (wr .i64 (r81'.1 + 1)) b2 limit3).bind fun r83' =>
                    L67c37_1 n SS m1 data0 a1 r81'.1 limit3 (decide (wr .i64 (b2 - r81'.1) ≥ wr .i64 (Int.tdiv (wr .i64 (b2 - a1)) 8))) r81'.2)))))))) := by kernel_rfl
noncomputable def B67c37 (n : Nat × Nat) (SS : List (List Int) → Int → Int → Int → Option R67c37) (data0 : List (List Int)) (a1 : Int) (b2 : Int) (limit3 : Int) : Option R67c37 := run (E67c37 n SS) c67c37 an67c37 rt67c37 (fun _ _ => none) rt67c37 { tm := [.c (.sl (.sl (.int .i64)) data0 false), .c (.int .i64 a1), .c (.int .i64 b2), .c (.int .i64 limit3), .fn 37 [], uu, uu, uu, uu, uu, uu, uu, uu, uu, uu, uu, uu, uu, uu, uu, uu, uu, uu, uu, uu, uu, uu, uu, uu, uu, uu, uu, uu, uu, uu, uu, uu, uu, uu, uu, uu, uu, uu, uu, uu, uu, uu, uu, uu, uu, uu, uu, uu, uu, uu, uu, uu, uu, uu, uu, uu, uu, uu, uu, uu, uu, uu, uu, uu, uu, uu, uu, uu, uu, uu, uu, uu, uu, uu, uu, uu, uu, uu, uu, uu, uu, uu, uu, uu, uu, uu, uu, uu, uu, uu, uu, uu, uu, uu, uu, uu, uu, uu, uu, uu, uu, uu, uu, uu, uu, uu, uu, uu, uu, uu, uu, uu, uu, uu, uu, uu, uu, uu, uu, uu, uu, uu, uu, uu, uu, uu, uu, uu, uu, uu, uu, uu, uu, uu, uu, uu, uu, uu, uu, uu, uu, uu, uu], hp := emp }
theorem B67c37_eq (n : Nat × Nat) (SS : List (List Int) → Int → Int → Int → Option R67c37) (data0 : List (List Int)) (a1 : Int) (b2 : Int) (limit3 : Int) : B67c37 n SS data0 a1 b2 limit3 =
    L67c37_1 n SS n.1 data0 a1 b2 limit3 true true := by kernel_rfl
noncomputable def T67c37 (n : Nat × Nat) : Nat → List (List Int) → Int → Int → Int → Option R67c37
  | 0 => fun _ _ _ _ => none
  | d + 1 => B67c37 n (T67c37 n d)
theorem T67c37_eq (n : Nat × Nat) (d : Nat) (data0 : List (List Int)) (a1 : Int) (b2 : Int) (limit3 : Int) : T67c37 n (d + 1) data0 a1 b2 limit3 = B67c37 n (T67c37 n d) data0 a1 b2 limit3 := rfl
noncomputable def S67c37 (n : Nat × Nat) (data0 : List (List Int)) (a1 : Int) (b2 : Int) (limit3 : Int) : Option R67c37 := T67c37 n n.1 data0 a1 b2 limit3
theorem B67c37_run (n : Nat × Nat) (SS : List (List Int) → Int → Int → Int → Option R67c37) (xs : pksDen pk67c37) : B67c37 n SS xs.1 xs.2.1 xs.2.2.1 xs.2.2.2.1 = runG (E67c37 n SS) noScope c67c37 an67c37 (rtG rk67c37) (fun _ _ => none) (rtG rk67c37) (st0 pk67c37 xs Tryd.f67.ntmps) := by kernel_rfl
noncomputable def P67c37 (n : Nat × Nat) := phiOf pk67c37 rk67c37 (fun xs => S67c37 n xs.1 xs.2.1 xs.2.2.1 xs.2.2.2.1)
theorem call67 : CallOK Tryd.prog 67 := callOK_of Tryd.func67 (by kernel_rfl) (by kernel_rfl)
theorem env67c37 (n : Nat × Nat) (SS : List (List Int) → Int → Int → Int → Option R67c37) (hSS : FCs Tryd.prog 67 (phiOf pk67c37 rk67c37 (fun xs => SS xs.1 xs.2.1 xs.2.2.1 xs.2.2.2.1))) : EnvOK Tryd.prog (E67c37 n SS) := envOK0 (consPhi_ok hSS call67 (consPhi_ok (FC37 n) call37 (consPhi_ok (FC91c37 n) call91 (consPhi_ok (FC92c37 n) call92 (consPhi_ok (FC93c37 n) call93 (consPhi_ok (FC94c37 n) call94 (consPhi_ok (FC95c37 n) call95 (consPhi_ok (FC96c37 n) call96 (consPhi_ok (FC97c37 n) call97 (consPhi_ok (FC98c37 n) call98 noPhi_ok)))))))))) rfl rfl
theorem par67c37 (n : Nat × Nat) (SS : List (List Int) → Int → Int → Int → Option R67c37) : EnvPar (E67c37 n SS) := envPar0 (consPhi_par phiOf_Par1 (consPhi_par phiOf_Par1 (consPhi_par phiOf_Par1 (consPhi_par phiOf_Par1 (consPhi_par phiOf_Par1 (consPhi_par phiOf_Par1 (consPhi_par phiOf_Par1 (consPhi_par phiOf_Par1 (consPhi_par phiOf_Par1 (consPhi_par phiOf_Par1 noPhi_par)))))))))) rfl
theorem FCT67c37 (n : Nat × Nat) : ∀ d : Nat, FCs Tryd.prog 67 (phiOf pk67c37 rk67c37 (fun xs => T67c37 n d xs.1 xs.2.1 xs.2.2.1 xs.2.2.2.1))
  | 0 => phiOf_FCs fun xs r h => by cases h
  | d + 1 => phiOf_FCs fun xs r h vs hv => FC.of_runG tabOK eqsOK (env67c37 n (T67c37 n d) (FCT67c37 n d)) (par67c37 n (T67c37 n d)) mixed (fun _ p _ => noScope_ok p.1 p.2) Tryd.func67 (c := c67c37) (an := an67c37) (pks := pk67c37) (rks := rk67c37) (by kernel_rfl) (by kernel_rfl) hv ((B67c37_run n (T67c37 n d) xs).symm.trans h)
theorem FC67c37 (n : Nat × Nat) : FCs Tryd.prog 67 (P67c37 n) := FCT67c37 n n.1
/- slices.SortFunc[[][]int,[]int] -/
abbrev R36c37 := Unit
noncomputable def c36c37 : Code := bodyOf Tryd.f36
noncomputable def an36c37 : Ann := .l
def pk36c37 : List PK := [.c (.sl (.sl (.int .i64))), .f 37 []]
def rk36c37 : List RK := []
noncomputable def rt36c37 (st : St) : Option R36c37 := rtG rk36c37 st
noncomputable def E36c37 (n : Nat × Nat) : Env := { T := tab, phi := (consPhi 67 (isFns [none, none, none, none, some 37]) (P67c37 n) (consPhi 68 (fun _ => true) (P68 n) noPhi)), eff := fun _ => false, fuel := n.1, hold := n.2 }
noncomputable def S36c37 (n : Nat × Nat) (x0 : List (List Int)) : Option R36c37 := run (E36c37 n) c36c37 an36c37 rt36c37 (fun _ _ => none) rt36c37 { tm := [.c (.sl (.sl (.int .i64)) x0 false), .fn 37 [], uu, uu, uu, uu, uu, uu, uu, uu, uu, uu, uu, uu], hp := emp }
theorem S36c37_eq (n : Nat × Nat) (x0 : List (List Int)) : S36c37 n x0 =
 (S68 n (wr .u64 (x0.length : Int))).bind fun r1' =>
 (S67c37 n x0 0 (x0.length : Int) r1').bind fun r2' =>
 some () := by kernel_rfl
theorem S36c37_run (n : Nat × Nat) (xs : pksDen pk36c37) : S36c37 n xs.1 = runG (E36c37 n) noScope c36c37 an36c37 (rtG rk36c37) (fun _ _ => none) (rtG rk36c37) (st0 pk36c37 xs Tryd.f36.ntmps) := by kernel_rfl
noncomputable def P36c37 (n : Nat × Nat) := phiOf pk36c37 rk36c37 (fun xs => S36c37 n xs.1)
theorem call36 : CallOK Tryd.prog 36 := callOK_of Tryd.func36 (by kernel_rfl) (by kernel_rfl)
theorem env36c37 (n : Nat × Nat) : EnvOK Tryd.prog (E36c37 n) := envOK0 (consPhi_ok (FC67c37 n) call67 (consPhi_ok (FC68 n) call68 noPhi_ok)) rfl rfl
theorem par36c37 (n : Nat × Nat) : EnvPar (E36c37 n) := envPar0 (consPhi_par phiOf_Par1 (consPhi_par phiOf_Par1 noPhi_par)) rfl
theorem FC36c37 (n : Nat × Nat) : FCs Tryd.prog 36 (P36c37 n) := phiOf_FCs fun xs r h vs hv => FC.of_runG tabOK eqsOK (env36c37 n) (par36c37 n) mixed (fun _ p _ => noScope_ok p.1 p.2) Tryd.func36 (c := c36c37) (an := an36c37) (pks := pk36c37) (rks := rk36c37) (by kernel_rfl) (by kernel_rfl) hv ((S36c37_run n xs).symm.trans h)
abbrev R11 := List (List Int) × Int
noncomputable def c11 : Code := bodyOf Tryd.f11
noncomputable def an11 : Ann := (.s .l (.s .l (.s (.s .l (.j [4] .l .l)) (.s .l (.s (.s .l (.j [6] (.j [4, 6, 18, 19] (.s .l (.s (.j [4, 6, 18, 19] .l .l) (.j [] (.j [4, 6, 18, 19] (.s .l (.s .l (.j [4, 6, 18, 19] .l .l))) .l) .l))) .l) .l)) .l)))))
def pk11 : List PK := [.c (.pair (.int .i64) (.sl (.pair (.int .i64) (.int .i64))))]
def rk11 : List RK := [.own (.sl (.int .i64)) 2, .c (.int .i64) 3]
noncomputable def rt11 (st : St) : Option R11 := rtG rk11 st
noncomputable def E11 (n : Nat × Nat) : Env := { T := tab, phi := (consPhi 33 (fun _ => true) (P33 n) (consPhi 34 (fun _ => true) (P34 n) (consPhi 35 (fun _ => true) (P35 n) (consPhi 36 (isFns [none, some 37]) (P36c37 n) noPhi)))), eff := fun _ => false, fuel := n.1, hold := n.2 }
noncomputable def kq11_3 (n : Nat × Nat) : St → Option R11 := run (E11 n) (cB (cB (cB (cB (cB c11))))) (Ann.snd (Ann.snd (Ann.snd (Ann.snd (Ann.snd an11))))) rt11 (fun _ _ => none) rt11
noncomputable def xb11_5 (n : Nat × Nat) : Nat → St → Option R11 := fun j s => bif Nat.beq j 0 then normC [6] s (kq11_3 n) else (fun _ _ => none) j s
noncomputable def F11_6 (n : Nat × Nat) : (St → Option R11) → St → Option R11 := fun K s => run (E11 n) (cA (cA (cB (cA (cB (cB (cB (cB c11)))))))) (Ann.fst (Ann.fst (Ann.snd (Ann.fst (Ann.snd (Ann.snd (Ann.snd (Ann.snd an11)))))))) (fun s => normC [4, 6, 18, 19] s K) (xb11_5 n) rt11 s
noncomputable def kq11_9 (n : Nat × Nat) (m1 : Nat) : St → Option R11 := run (E11 n) (cB (cB (cB (cA (cA (cB (cA (cB (cB (cB (cB c11))))))))))) (Ann.snd (Ann.snd (Ann.snd (Ann.fst (Ann.fst (Ann.snd (Ann.fst (Ann.snd (Ann.snd (Ann.snd (Ann.snd an11))))))))))) (fun s => normC [4, 6, 18, 19] s (loopN (F11_6 n) m1)) (xb11_5 n) rt11
noncomputable def L11_1 (n : Nat × Nat) (m : Nat) (v18 : Int) (v19 : Int) (w4_0 : Int) (w4_1 : Int) (w4_2 : Int) (w4_3 : Int) (w4_4 : Int) (w4_5 : Int) (w4_6 : Int) (w4_7 : Int) (out6 : List (List Int)) : Option R11 := loopN (F11_6 n) m { tm := [uu, uu, uu, uu, .ptr 4 0, uu, .own 6 none false, uu, uu, uu, uu, uu, uu, uu, uu, uu, uu, uu, .c (.int .u64 v18), .c (.int .u64 v19), uu, uu, uu, uu, uu, uu, uu, uu, uu, uu, uu, uu, uu, uu, uu], hp := (upd (upd emp 6 (.arr (.sl (.int .i64)) out6 false)) 4 (.box [.int .i64 w4_0, .int .u64 w4_1, .int .u64 w4_2, .int .u64 w4_3, .int .u64 w4_4, .int .u64 w4_5, .int .u64 w4_6, .int .u64 w4_7])) }
noncomputable def L11_2 (n : Nat × Nat) (m1 : Nat) (v18 : Int) (v19 : Int) (w4_0 : Int) (w4_1 : Int) (w4_2 : Int) (w4_3 : Int) (w4_4 : Int) (w4_5 : Int) (w4_6 : Int) (w4_7 : Int) (out6 : List (List Int)) : Option R11 := loopN (fun _ => (kq11_9 n m1)) n.2 { tm := [uu, uu, uu, uu, .ptr 4 0, uu, .own 6 none false, uu, uu, uu, uu, uu, uu, uu, uu, uu, uu, uu, .c (.int .u64 v18), .c (.int .u64 v19), uu, uu, uu, uu, uu, uu, uu, uu, uu, uu, uu, uu, uu, uu, uu], hp := (upd (upd emp 6 (.arr (.sl (.int .i64)) out6 false)) 4 (.box [.int .i64 w4_0, .int .u64 w4_1, .int .u64 w4_2, .int .u64 w4_3, .int .u64 w4_4, .int .u64 w4_5, .int .u64 w4_6, .int .u64 w4_7])) }
theorem L11_1_eq (n : Nat × Nat) (m1 : Nat) (v18 : Int) (v19 : Int) (w4_0 : Int) (w4_1 : Int) (w4_2 : Int) (w4_3 : Int) (w4_4 : Int) (w4_5 : Int) (w4_6 : Int) (w4_7 : Int) (out6 : List (List Int)) : L11_1 n (m1 + 1) v18 v19 w4_0 w4_1 w4_2 w4_3 w4_4 w4_5 w4_6 w4_7 out6 =
 (bif decide (v19 < v18) then (S34 n (w4_0, w4_1, w4_2, w4_3, w4_4, w4_5, w4_6, w4_7) v19).bind fun r2' =>
 (bif (r2' == 0) then (S35 n v19).bind fun r3' =>
 (bif decide (out6.length + [r3'].length ≤ lim) then L11_2 n m1 v18 v19 w4_0 w4_1 w4_2 w4_3 w4_4 w4_5 w4_6 w4_7 (out6 ++ [r3'])
 else none)
 else L11_2 n m1 v18 v19 w4_0 w4_1 w4_2 w4_3 w4_4 w4_5 w4_6 w4_7 out6)
 else (S36c37 n out6).bind fun r4' =>
 some (out6, 0)) := by kernel_rfl
theorem L11_2_raw (n : Nat × Nat) (m1 : Nat) (v18 : Int) (v19 : Int) (w4_0 : Int) (w4_1 : Int) (w4_2 : Int) (w4_3 : Int) (w4_4 : Int) (w4_5 : Int) (w4_6 : Int) (w4_7 : Int) (out6 : List (List Int)) : (kq11_9 n m1) { tm := [uu, uu, uu, uu, .ptr 4 0, uu, .own 6 none false, uu, uu, uu, uu, uu, uu, uu, uu, uu, uu, uu, .c (.int .u64 v18), .c (.int .u64 v19), uu, uu, uu, uu, uu, uu, uu, uu, uu, uu, uu, uu, uu, uu, uu], hp := (upd (upd emp 6 (.arr (.sl (.int .i64)) out6 false)) 4 (.box [.int .i64 w4_0, .int .u64 w4_1, .int .u64 w4_2, .int .u64 w4_3, .int .u64 w4_4, .int .u64 w4_5, .int .u64 w4_6, .int .u64 w4_7])) } =
    L11_1 n m1 v18 (wr .u64 (v19 + 1)) w4_0 w4_1 w4_2 w4_3 w4_4 w4_5 w4_6 w4_7 out6 := by kernel_rfl
noncomputable def S11 (n : Nat × Nat) (b0 : Int × List (Int × Int)) : Option R11 := run (E11 n) c11 an11 rt11 (fun _ _ => none) rt11 { tm := [.agg [.int .i64 b0.1, .sl (.pair (.int .i64) (.int .i64)) b0.2 false], uu, uu, uu, uu, uu, uu, uu, uu, uu, uu, uu, uu, uu, uu, uu, uu, uu, uu, uu, uu, uu, uu, uu, uu, uu, uu, uu, uu, uu, uu, uu, uu, uu, uu], hp := emp }
theorem S11_eq (n : Nat × Nat) (b0 : Int × List (Int × Int)) : S11 n b0 =
 (S33 n b0).bind fun r1' =>
 (bif (r1'.2 != 0) then some ([], r1'.2)
 else (bif decide (r1'.1.1 < 0) then none
 else L11_1 n n.1 (wr .u64 (1 * 2 ^ (min (Int.toNat r1'.1.1) (IntKind.bits .u64)))) 0 r1'.1.1 r1'.1.2.1 r1'.1.2.2.1 r1'.1.2.2.2.1 r1'.1.2.2.2.2.1 r1'.1.2.2.2.2.2.1 r1'.1.2.2.2.2.2.2.1 r1'.1.2.2.2.2.2.2.2 [])) := by kernel_rfl
theorem S11_run (n : Nat × Nat) (xs : pksDen pk11) : S11 n xs.1 = runG (E11 n) noScope c11 an11 (rtG rk11) (fun _ _ => none) (rtG rk11) (st0 pk11 xs Tryd.f11.ntmps) := by kernel_rfl
noncomputable def P11 (n : Nat × Nat) := phiOf pk11 rk11 (fun xs => S11 n xs.1)
theorem call11 : CallOK Tryd.prog 11 := callOK_of Tryd.func11 (by kernel_rfl) (by kernel_rfl)
theorem env11 (n : Nat × Nat) : EnvOK Tryd.prog (E11 n) := envOK0 (consPhi_ok (FC33 n) call33 (consPhi_ok (FC34 n) call34 (consPhi_ok (FC35 n) call35 (consPhi_ok (FC36c37 n) call36 noPhi_ok)))) rfl rfl
theorem par11 (n : Nat × Nat) : EnvPar (E11 n) := envPar0 (consPhi_par phiOf_Par1 (consPhi_par phiOf_Par1 (consPhi_par phiOf_Par1 (consPhi_par phiOf_Par1 noPhi_par)))) rfl
theorem FC11 (n : Nat × Nat) : FCs Tryd.prog 11 (P11 n) := phiOf_FCs fun xs r h vs hv => FC.of_runG tabOK eqsOK (env11 n) (par11 n) mixed (fun _ p _ => noScope_ok p.1 p.2) Tryd.func11 (c := c11) (an := an11) (pks := pk11) (rks := rk11) (by kernel_rfl) (by kernel_rfl) hv ((S11_run n xs).symm.trans h)
abbrev R44 := List Int × Int
noncomputable def c44 : Code := bodyOf Tryd.f44
noncomputable def an44 : Ann := (.s .l (.s .l (.s (.j [4] (.s .l (.j [4] .l (.s .l (.j [4] .l .l)))) .l) .l)))
def pk44 : List PK := [.c (.pair (.int .i64) (.sl (.pair (.int .i64) (.int .i64))))]
def rk44 : List RK := [.sl (.int .i64) 2, .c (.int .i64) 3]
noncomputable def rt44 (st : St) : Option R44 := rtG rk44 st
noncomputable def E44 (n : Nat × Nat) : Env := { T := tab, phi := (consPhi 11 (fun _ => true) (P11 n) noPhi), eff := fun g => Nat.beq g 11, fuel := n.1, hold := n.2 }
noncomputable def S44 (n : Nat × Nat) (b0 : Int × List (Int × Int)) : Option R44 := run (E44 n) c44 an44 rt44 (fun _ _ => none) rt44 { tm := [.agg [.int .i64 b0.1, .sl (.pair (.int .i64) (.int .i64)) b0.2 false], uu, uu, uu, uu, uu, uu, uu, uu, uu, uu, uu, uu, uu, uu, uu, uu, uu, uu, uu, uu, uu], hp := emp }
theorem S44_eq (n : Nat × Nat) (b0 : Int × List (Int × Int)) : S44 n b0 =
 (S11 n b0).bind fun r1' =>
 (bif (r1'.2 != 0) then some ([], r1'.2)
 else (bif ((r1'.1.length : Int) == 0) then some ([], 12)
 else (bif inB 0 r1'.1.length then (idx r1'.1 0).bind fun x2' =>
 some (x2', 0)
 else none))) := by kernel_rfl
theorem S44_run (n : Nat × Nat) (xs : pksDen pk44) : S44 n xs.1 = runG (E44 n) noScope c44 an44 (rtG rk44) (fun _ _ => none) (rtG rk44) (st0 pk44 xs Tryd.f44.ntmps) := by kernel_rfl
noncomputable def P44 (n : Nat × Nat) := phiOf pk44 rk44 (fun xs => S44 n xs.1)
theorem call44 : CallOK Tryd.prog 44 := callOK_of Tryd.func44 (by kernel_rfl) (by kernel_rfl)
theorem env44 (n : Nat × Nat) : EnvOK Tryd.prog (E44 n) := envOK0 (consPhi_ok (FC11 n) call11 noPhi_ok) rfl rfl
theorem par44 (n : Nat × Nat) : EnvPar (E44 n) := envPar0 (consPhi_par phiOf_Par1 noPhi_par) rfl
theorem FC44 (n : Nat × Nat) : FCs Tryd.prog 44 (P44 n) := phiOf_FCs fun xs r h vs hv => FC.of_runG tabOK eqsOK (env44 n) (par44 n) mixed (fun _ p _ => noScope_ok p.1 p.2) Tryd.func44 (c := c44) (an := an44) (pks := pk44) (rks := rk44) (by kernel_rfl) (by kernel_rfl) hv ((S44_run n xs).symm.trans h)
abbrev R65 := Int
noncomputable def c65 : Code := bodyOf Tryd.f65
noncomputable def an65 : Ann := (.s .l (.s (.s .l (.j [0, 16, 17] .l .l)) (.s (.s .l (.j [] (.j [9, 16, 17] (.s .l (.s (.j [9, 10, 16, 17] .l .l) (.j [9, 16, 17] (.s .l (.s .l (.j [9, 16, 17] .l .l))) .l))) .l) .l)) .l)))
def pk65 : List PK := [.c .str]
def rk65 : List RK := [.c (.int .i64) 2]
noncomputable def rt65 (st : St) : Option R65 := rtG rk65 st
noncomputable def E65 (n : Nat × Nat) : Env := { T := tab, phi := noPhi, eff := fun _ => false, fuel := n.1, hold := n.2 }
noncomputable def kq65_3 (n : Nat × Nat) : St → Option R65 := run (E65 n) (cB (cB (cB c65))) (Ann.snd (Ann.snd (Ann.snd an65))) rt65 (fun _ _ => none) rt65
noncomputable def xb65_5 (n : Nat × Nat) : Nat → St → Option R65 := fun j s => bif Nat.beq j 0 then normC [] s (kq65_3 n) else (fun _ _ => none) j s
noncomputable def F65_6 (n : Nat × Nat) : (St → Option R65) → St → Option R65 := fun K s => run (E65 n) (cA (cA (cB (cA (cB (cB c65)))))) (Ann.fst (Ann.fst (Ann.snd (Ann.fst (Ann.snd (Ann.snd an65)))))) (fun s => normC [9, 16, 17] s K) (xb65_5 n) rt65 s
noncomputable def L65_1 (n : Nat × Nat) (m : Nat) (v9s : ByteArray) (v9p : Nat) : Option R65 := loopN (F65_6 n) m { tm := [uu, uu, uu, uu, uu, uu, uu, uu, uu, .ptr 9 0, uu, uu, uu, uu, uu, uu, uu, uu, uu], hp := (upd emp 9 (.iter v9s v9p)) }
theorem L65_1_eq (n : Nat × Nat) (m1 : Nat) (v9s : ByteArray) (v9p : Nat) : L65_1 n (m1 + 1) v9s v9p =
 (bif Nat.blt v9p v9s.size then ((strBytes v9s)[v9p]?).bind fun x1' =>
 (bif decide (x1' < 128) then ((bif (decide (x1' < 97) == false) then some (decide (x1' ≥ 103))
 else some true)).bind fun b2' =>
 (bif b2' then some 10
 else L65_1 n m1 v9s (v9p + 1))
 else none)
 else some 0) := by kernel_rfl
noncomputable def S65 (n : Nat × Nat) (word0 : ByteArray) : Option R65 := run (E65 n) c65 an65 rt65 (fun _ _ => none) rt65 { tm := [.c (.str word0), uu, uu, uu, uu, uu, uu, uu, uu, uu, uu, uu, uu, uu, uu, uu, uu, uu, uu], hp := emp }
theorem S65_eq (n : Nat × Nat) (word0 : ByteArray) : S65 n word0 =
 (bif decide ((word0.size : Int) > 10) then some 19
 else L65_1 n n.1 word0 0) := by kernel_rfl
theorem S65_run (n : Nat × Nat) (xs : pksDen pk65) : S65 n xs.1 = runG (E65 n) noScope c65 an65 (rtG rk65) (fun _ _ => none) (rtG rk65) (st0 pk65 xs Tryd.f65.ntmps) := by kernel_rfl
noncomputable def P65 (n : Nat × Nat) := phiOf pk65 rk65 (fun xs => S65 n xs.1)
theorem call65 : CallOK Tryd.prog 65 := callOK_of Tryd.func65 (by kernel_rfl) (by kernel_rfl)
theorem env65 (n : Nat × Nat) : EnvOK Tryd.prog (E65 n) := envOK0 noPhi_ok rfl rfl
theorem par65 (n : Nat × Nat) : EnvPar (E65 n) := envPar0 noPhi_par rfl
theorem FC65 (n : Nat × Nat) : FCs Tryd.prog 65 (P65 n) := phiOf_FCs fun xs r h vs hv => FC.of_runG tabOK eqsOK (env65 n) (par65 n) mixed (fun _ p _ => noScope_ok p.1 p.2) Tryd.func65 (c := c65) (an := an65) (pks := pk65) (rks := rk65) (by kernel_rfl) (by kernel_rfl) hv ((S65_run n xs).symm.trans h)
abbrev R31 := Int
noncomputable def c31 : Code := bodyOf Tryd.f31
noncomputable def an31 : Ann := (.s .l (.s (.s .l (.j [] (.j [6, 7, 8] (.s .l (.s (.j [6, 7, 8] .l .l) (.s (.j [6, 7, 8] (.s .l (.s .l (.s .l (.j [6, 7, 8] .l .l)))) .l) .l))) .l) .l)) .l))
def pk31 : List PK := [.c (.sl .str)]
def rk31 : List RK := [.c (.int .i64) 2]
noncomputable def rt31 (st : St) : Option R31 := rtG rk31 st
noncomputable def E31 (n : Nat × Nat) : Env := { T := tab, phi := (consPhi 65 (fun _ => true) (P65 n) noPhi), eff := fun _ => false, fuel := n.1, hold := n.2 }
noncomputable def kq31_1 (n : Nat × Nat) : St → Option R31 := run (E31 n) (cB (cB c31)) (Ann.snd (Ann.snd an31)) rt31 (fun _ _ => none) rt31
noncomputable def xb31_3 (n : Nat × Nat) : Nat → St → Option R31 := fun j s => bif Nat.beq j 0 then normC [] s (kq31_1 n) else (fun _ _ => none) j s
noncomputable def F31_4 (n : Nat × Nat) : (St → Option R31) → St → Option R31 := fun K s => run (E31 n) (cA (cA (cB (cA (cB c31))))) (Ann.fst (Ann.fst (Ann.snd (Ann.fst (Ann.snd an31))))) (fun s => normC [6, 7, 8] s K) (xb31_3 n) rt31 s
noncomputable def L31_1 (n : Nat × Nat) (m : Nat) (v6 : List ByteArray) (v7 : Int) (v8 : Int) : Option R31 := loopN (F31_4 n) m { tm := [uu, uu, uu, uu, uu, uu, .c (.sl .str v6 false), .c (.int .i64 v7), .c (.int .i64 v8), uu, uu, uu, uu, uu, uu, uu, uu, uu], hp := emp }
theorem L31_1_eq (n : Nat × Nat) (m1 : Nat) (v6 : List ByteArray) (v7 : Int) (v8 : Int) : L31_1 n (m1 + 1) v6 v7 v8 =
 (bif decide (v8 < v7) then (idx v6 v8).bind fun x1' =>
 (S65 n x1').bind fun r2' =>
 (bif (r2' != 0) then some r2'
 else L31_1 n m1 v6 v7 (wr .i64 (v8 + 1)))
 else some 0) := by kernel_rfl
noncomputable def S31 (n : Nat × Nat) (words0 : List ByteArray) : Option R31 := run (E31 n) c31 an31 rt31 (fun _ _ => none) rt31 { tm := [.c (.sl .str words0 false), uu, uu, uu, uu, uu, uu, uu, uu, uu, uu, uu, uu, uu, uu, uu, uu, uu], hp := emp }
theorem S31_eq (n : Nat × Nat) (words0 : List ByteArray) : S31 n words0 =
    L31_1 n n.1 words0 (words0.length : Int) 0 := by kernel_rfl
theorem S31_run (n : Nat × Nat) (xs : pksDen pk31) : S31 n xs.1 = runG (E31 n) noScope c31 an31 (rtG rk31) (fun _ _ => none) (rtG rk31) (st0 pk31 xs Tryd.f31.ntmps) := by kernel_rfl
noncomputable def P31 (n : Nat × Nat) := phiOf pk31 rk31 (fun xs => S31 n xs.1)
theorem call31 : CallOK Tryd.prog 31 := callOK_of Tryd.func31 (by kernel_rfl) (by kernel_rfl)
theorem env31 (n : Nat × Nat) : EnvOK Tryd.prog (E31 n) := envOK0 (consPhi_ok (FC65 n) call65 noPhi_ok) rfl rfl
theorem par31 (n : Nat × Nat) : EnvPar (E31 n) := envPar0 (consPhi_par phiOf_Par1 noPhi_par) rfl
theorem FC31 (n : Nat × Nat) : FCs Tryd.prog 31 (P31 n) := phiOf_FCs fun xs r h vs hv => FC.of_runG tabOK eqsOK (env31 n) (par31 n) mixed (fun _ p _ => noScope_ok p.1 p.2) Tryd.func31 (c := c31) (an := an31) (pks := pk31) (rks := rk31) (by kernel_rfl) (by kernel_rfl) hv ((S31_run n xs).symm.trans h)
abbrev R75 := Int × Int
noncomputable def c75 : Code := bodyOf Tryd.f75
noncomputable def an75 : Ann := (.s .l (.s (.s .l (.s .l (.j [0, 1] .l .l))) (.s .l (.s .l (.s (.s .l (.j [1, 7] (.j [1, 7, 25, 26, 27] (.s .l (.s (.j [1, 7, 25, 26, 27] .l .l) (.s (.j [1, 7, 25, 26, 27] (.s .l (.s .l (.j [1, 7, 25, 26, 27] (.j [1, 7, 9, 10, 25, 26, 27] (.s (.s .l (.j [1, 7, 9, 10, 25, 26, 27] .l .l)) (.j [] (.j [1, 7, 9, 10, 25, 26, 27] (.s .l (.j [1, 7, 9, 10, 25, 26, 27] .l .l)) .l) .l)) .l) .l))) .l) .l))) .l) .l)) .l)))))
def pk75 : List PK := [.c .str, .c .str]
def rk75 : List RK := [.c (.int .i64) 4, .c (.int .i64) 5]
noncomputable def rt75 (st : St) : Option R75 := rtG rk75 st
noncomputable def E75 (n : Nat × Nat) : Env := { T := tab, phi := (consPhi 31 (fun _ => true) (P31 n) noPhi), eff := fun _ => false, fuel := n.1, hold := n.2 }
noncomputable def kq75_3 (n : Nat × Nat) : St → Option R75 := run (E75 n) (cB (cB (cB (cB (cB c75))))) (Ann.snd (Ann.snd (Ann.snd (Ann.snd (Ann.snd an75))))) rt75 (fun _ _ => none) rt75
noncomputable def xb75_5 (n : Nat × Nat) : Nat → St → Option R75 := fun j s => bif Nat.beq j 0 then normC [1, 7] s (kq75_3 n) else (fun _ _ => none) j s
noncomputable def F75_6 (n : Nat × Nat) : (St → Option R75) → St → Option R75 := fun K s => run (E75 n) (cA (cA (cB (cA (cB (cB (cB (cB c75)))))))) (Ann.fst (Ann.fst (Ann.snd (Ann.fst (Ann.snd (Ann.snd (Ann.snd (Ann.snd an75)))))))) (fun s => normC [1, 7, 25, 26, 27] s K) (xb75_5 n) rt75 s
noncomputable def kq75_9 (n : Nat × Nat) (m1 : Nat) : St → Option R75 := run (E75 n) (cB (cB (cB (cA (cA (cB (cA (cB (cB (cB (cB c75))))))))))) (Ann.snd (Ann.snd (Ann.snd (Ann.fst (Ann.fst (Ann.snd (Ann.fst (Ann.snd (Ann.snd (Ann.snd (Ann.snd an75))))))))))) (fun s => normC [1, 7, 25, 26, 27] s (loopN (F75_6 n) m1)) (xb75_5 n) rt75
noncomputable def kc75_10 (n : Nat × Nat) (m1 : Nat) : St → Option R75 := fun s => normC [1, 7, 25, 26, 27] s (kq75_9 n m1)
noncomputable def xb75_11 (n : Nat × Nat) (m1 : Nat) : Nat → St → Option R75 := fun j s => bif Nat.beq j 1 then normC [1, 7, 25, 26, 27] s (kq75_9 n m1) else (xb75_5 n) j s
noncomputable def xb75_13 (n : Nat × Nat) (m1 : Nat) : Nat → St → Option R75 := fun j s => bif Nat.beq j 2 then normC [1, 7, 25, 26, 27] s (kc75_10 n m1) else (xb75_11 n m1) j s
noncomputable def F75_14 (n : Nat × Nat) (m1 : Nat) : (St → Option R75) → St → Option R75 := fun K s => run (E75 n) (cA (cA (cB (cB (cA (cA (cB (cB (cA (cA (cB (cA (cB (cB (cB (cB c75)))))))))))))))) (Ann.fst (Ann.fst (Ann.snd (Ann.snd (Ann.fst (Ann.fst (Ann.snd (Ann.snd (Ann.fst (Ann.fst (Ann.snd (Ann.fst (Ann.snd (Ann.snd (Ann.snd (Ann.snd an75)))))))))))))))) (fun s => normC [1, 7, 9, 10, 25, 26, 27] s K) (xb75_13 n m1) rt75 s
noncomputable def kq75_17 (n : Nat × Nat) (m1 m2 : Nat) : St → Option R75 := run (E75 n) (cB (cB (cA (cA (cB (cB (cA (cA (cB (cB (cA (cA (cB (cA (cB (cB (cB (cB c75)))))))))))))))))) (Ann.snd (Ann.snd (Ann.fst (Ann.fst (Ann.snd (Ann.snd (Ann.fst (Ann.fst (Ann.snd (Ann.snd (Ann.fst (Ann.fst (Ann.snd (Ann.fst (Ann.snd (Ann.snd (Ann.snd (Ann.snd an75)))))))))))))))))) (fun s => normC [1, 7, 9, 10, 25, 26, 27] s (loopN (F75_14 n m1) m2)) (xb75_13 n m1) rt75
noncomputable def L75_1 (n : Nat × Nat) (m : Nat) (part1 : ByteArray) (v25 : List Int) (v26 : Int) (v27 : Int) (begun7 : List Int) : Option R75 := loopN (F75_6 n) m { tm := [uu, .c (.str part1), uu, uu, uu, uu, uu, .own 7 none false, uu, uu, uu, uu, uu, uu, uu, uu, uu, uu, uu, uu, uu, uu, uu, uu, uu, .c (.sl (.int .u8) v25 false), .c (.int .i64 v26), .c (.int .i64 v27), uu, uu, uu, uu, uu, uu, uu, uu, uu, uu, uu, uu, uu, uu, uu, uu, uu, uu, uu, uu, uu, uu, uu, uu, uu, uu, uu, uu, uu, uu, uu, uu], hp := (upd emp 7 (.arr (.int .i64) begun7 false)) }
noncomputable def L75_2 (n : Nat × Nat) (m1 : Nat) (m : Nat) (part1 : ByteArray) (c9 : Int) (k10 : Int) (v25 : List Int) (v26 : Int) (v27 : Int) (begun7 : List Int) : Option R75 := loopN (F75_14 n m1) m { tm := [uu, .c (.str part1), uu, uu, uu, uu, uu, .own 7 none false, uu, .c (.int .u8 c9), .c (.int .i64 k10), uu, uu, uu, uu, uu, uu, uu, uu, uu, uu, uu, uu, uu, uu, .c (.sl (.int .u8) v25 false), .c (.int .i64 v26), .c (.int .i64 v27), uu, uu, uu, uu, uu, uu, uu, uu, uu, uu, uu, uu, uu, uu, uu, uu, uu, uu, uu, uu, uu, uu, uu, uu, uu, uu, uu, uu, uu, uu, uu, uu], hp := (upd emp 7 (.arr (.int .i64) begun7 false)) }
noncomputable def L75_3 (n : Nat × Nat) (m1 m2 : Nat) (part1 : ByteArray) (c9 : Int) (k10 : Int) (v25 : List Int) (v26 : Int) (v27 : Int) (begun7 : List Int) : Option R75 := loopN (fun _ => (kq75_17 n m1 m2)) n.2 { tm := [uu, .c (.str part1), uu, uu, uu, uu, uu, .own 7 none false, uu, .c (.int .u8 c9), .c (.int .i64 k10), uu, uu, uu, uu, uu, uu, uu, uu, uu, uu, uu, uu, uu, uu, .c (.sl (.int .u8) v25 false), .c (.int .i64 v26), .c (.int .i64 v27), uu, uu, uu, uu, uu, uu, uu, uu, uu, uu, uu, uu, uu, uu, uu, uu, uu, uu, uu, uu, uu, uu, uu, uu, uu, uu, uu, uu, uu, uu, uu, uu], hp := (upd emp 7 (.arr (.int .i64) begun7 false)) }
theorem L75_1_eq (n : Nat × Nat) (m1 : Nat) (part1 : ByteArray) (v25 : List Int) (v26 : Int) (v27 : Int) (begun7 : List Int) : L75_1 n (m1 + 1) part1 v25 v26 v27 begun7 =
 (bif decide (v27 < v26) then (idx v25 v27).bind fun x3' =>
      L75_2 n m1 n.1 part1 x3' (part1.size : Int) v25 v26 v27 begun7
 else (bif inB (part1.size : Int) begun7.length then (idx begun7 (part1.size : Int)).bind fun x4' =>
 some (x4', 0)
 else none)) := by kernel_rfl
theorem L75_2_eq (n : Nat × Nat) (m1 m2 : Nat) (part1 : ByteArray) (c9 : Int) (k10 : Int) (v25 : List Int) (v26 : Int) (v27 : Int) (begun7 : List Int) : L75_2 n m1 (m2 + 1) part1 c9 k10 v25 v26 v27 begun7 =
 (bif decide (k10 > 0) then (idx (strBytes part1) (wr .i64 (k10 - 1))).bind fun x5' =>
 (bif (x5' == c9) then (bif inB k10 begun7.length then (idx begun7 k10).bind fun x6' =>
 (bif inB (wr .i64 (k10 - 1)) begun7.length then (idx begun7 (wr .i64 (k10 - 1))).bind fun x7' =>
 (bif inB k10 begun7.length then (idx begun7 k10).bind fun x8' =>
              L75_3 n m1 m2 part1 c9 k10 v25 v26 v27 (begun7.set (Int.toNat k10) (wr .i64 (x6' + x7')))
 else none)
 else none)
 else none)
 else L75_3 n m1 m2 part1 c9 k10 v25 v26 v27 begun7)
 else L75_1 n m1 part1 v25 v26 (wr .i64 (v27 + 1)) begun7) := by kernel_rfl
theorem L75_3_raw (n : Nat × Nat) (m1 m2 : Nat) (part1 : ByteArray) (c9 : Int) (k10 : Int) (v25 : List Int) (v26 : Int) (v27 : Int) (begun7 : List Int) : (kq75_17 n m1 m2) { tm := [uu, .c (.str part1), uu, uu, uu, uu, uu, .own 7 none false, uu, .c (.int .u8 c9), .c (.int .i64 k10), uu, uu, uu, uu, uu, uu, uu, uu, uu, uu, uu, uu, uu, uu, .c (.sl (.int .u8) v25 false), .c (.int .i64 v26), .c (.int .i64 v27), uu, uu, uu, uu, uu, uu, uu, uu, uu, uu, uu, uu, uu, uu, uu, uu, uu, uu, uu, uu, uu, uu, uu, uu, uu, uu, uu, uu, uu, uu, uu, uu], hp := (upd emp 7 (.arr (.int .i64) begun7 false)) } =
    L75_2 n m1 m2 part1 c9 (wr .i64 (k10 - 1)) v25 v26 v27 begun7 := by kernel_rfl
noncomputable def S75 (n : Nat × Nat) (word0 : ByteArray) (part1 : ByteArray) : Option R75 := run (E75 n) c75 an75 rt75 (fun _ _ => none) rt75 { tm := [.c (.str word0), .c (.str part1), uu, uu, uu, uu, uu, uu, uu, uu, uu, uu, uu, uu, uu, uu, uu, uu, uu, uu, uu, uu, uu, uu, uu, uu, uu, uu, uu, uu, uu, uu, uu, uu, uu, uu, uu, uu, uu, uu, uu, uu, uu, uu, uu, uu, uu, uu, uu, uu, uu, uu, uu, uu, uu, uu, uu, uu, uu, uu], hp := emp }
theorem S75_eq (n : Nat × Nat) (word0 : ByteArray) (part1 : ByteArray) : S75 n word0 part1 =
 (S31 n [word0, part1]).bind fun r1' =>
 (bif (r1' != 0) then some (0, r1')
 else (bif decide (0 ≤ wr .i64 ((part1.size : Int) + 1)) && decide (wr .i64 ((part1.size : Int) + 1) ≤ wr .i64 ((part1.size : Int) + 1)) && decide (wr .i64 ((part1.size : Int) + 1) ≤ lim) then (bif inB 0 (List.replicate (Int.toNat (wr .i64 ((part1.size : Int) + 1))) (0 : Int)).length then (idx (List.replicate (Int.toNat (wr .i64 ((part1.size : Int) + 1))) (0 : Int)) 0).bind fun x2' =>
          L75_1 n n.1 part1 (strBytes word0) ((strBytes word0).length : Int) 0 ((List.replicate (Int.toNat (wr .i64 ((part1.size : Int) + 1))) (0 : Int)).set (Int.toNat 0) 1)
 else none)
 else none)) := by kernel_rfl
theorem S75_run (n : Nat × Nat) (xs : pksDen pk75) : S75 n xs.1 xs.2.1 = runG (E75 n) noScope c75 an75 (rtG rk75) (fun _ _ => none) (rtG rk75) (st0 pk75 xs Tryd.f75.ntmps) := by kernel_rfl
noncomputable def P75 (n : Nat × Nat) := phiOf pk75 rk75 (fun xs => S75 n xs.1 xs.2.1)
theorem call75 : CallOK Tryd.prog 75 := callOK_of Tryd.func75 (by kernel_rfl) (by kernel_rfl)
theorem env75 (n : Nat × Nat) : EnvOK Tryd.prog (E75 n) := envOK0 (consPhi_ok (FC31 n) call31 noPhi_ok) rfl rfl
theorem par75 (n : Nat × Nat) : EnvPar (E75 n) := envPar0 (consPhi_par phiOf_Par1 noPhi_par) rfl
theorem FC75 (n : Nat × Nat) : FCs Tryd.prog 75 (P75 n) := phiOf_FCs fun xs r h vs hv => FC.of_runG tabOK eqsOK (env75 n) (par75 n) mixed (fun _ p _ => noScope_ok p.1 p.2) Tryd.func75 (c := c75) (an := an75) (pks := pk75) (rks := rk75) (by kernel_rfl) (by kernel_rfl) hv ((S75_run n xs).symm.trans h)
abbrev R105 := Int
noncomputable def c105 : Code := bodyOf Tryd.f105
noncomputable def an105 : Ann := (.s .l (.s (.s .l (.j [0, 1] (.s .l (.j [0, 1] .l (.s .l (.j [0, 1] .l .l)))) .l)) (.s (.s .l (.j [] (.j [1, 22] (.s .l (.s (.j [1, 22, 23] .l .l) (.j [1, 22] (.s .l (.s .l (.j [1, 22] .l .l))) .l))) .l) .l)) .l)))
def pk105 : List PK := [.c .str, .c (.int .i64)]
def rk105 : List RK := [.c (.int .i64) 4]
noncomputable def rt105 (st : St) : Option R105 := rtG rk105 st
noncomputable def E105 (n : Nat × Nat) : Env := { T := tab, phi := (consPhi 65 (fun _ => true) (P65 n) noPhi), eff := fun _ => false, fuel := n.1, hold := n.2 }
noncomputable def kq105_6 (n : Nat × Nat) : St → Option R105 := run (E105 n) (cB (cB (cB c105))) (Ann.snd (Ann.snd (Ann.snd an105))) rt105 (fun _ _ => none) rt105
noncomputable def xb105_8 (n : Nat × Nat) : Nat → St → Option R105 := fun j s => bif Nat.beq j 1 then normC [] s (kq105_6 n) else (fun _ _ => none) j s
noncomputable def F105_9 (n : Nat × Nat) : (St → Option R105) → St → Option R105 := fun K s => run (E105 n) (cA (cA (cB (cA (cB (cB c105)))))) (Ann.fst (Ann.fst (Ann.snd (Ann.fst (Ann.snd (Ann.snd an105)))))) (fun s => normC [1, 22] s K) (xb105_8 n) rt105 s
noncomputable def L105_1 (n : Nat × Nat) (m : Nat) (letters1 : Int) (v22s : ByteArray) (v22p : Nat) : Option R105 := loopN (F105_9 n) m { tm := [uu, .c (.int .i64 letters1), uu, uu, uu, uu, uu, uu, uu, uu, uu, uu, uu, uu, uu, uu, uu, uu, uu, uu, uu, uu, .ptr 22 0, uu, uu, uu, uu, uu, uu, uu, uu], hp := (upd emp 22 (.iter v22s v22p)) }
theorem L105_1_eq (n : Nat × Nat) (m1 : Nat) (letters1 : Int) (v22s : ByteArray) (v22p : Nat) : L105_1 n (m1 + 1) letters1 v22s v22p =
 (bif Nat.blt v22p v22s.size then ((strBytes v22s)[v22p]?).bind fun x3' =>
 (bif decide (x3' < 128) then (bif decide (x3' ≥ wr .i32 (97 + (wr .i32 letters1))) then some 2
 else L105_1 n m1 letters1 v22s (v22p + 1))
 else none)
 else some 0) := by kernel_rfl
noncomputable def S105 (n : Nat × Nat) (word0 : ByteArray) (letters1 : Int) : Option R105 := run (E105 n) c105 an105 rt105 (fun _ _ => none) rt105 { tm := [.c (.str word0), .c (.int .i64 letters1), uu, uu, uu, uu, uu, uu, uu, uu, uu, uu, uu, uu, uu, uu, uu, uu, uu, uu, uu, uu, uu, uu, uu, uu, uu, uu, uu, uu, uu], hp := emp }
theorem S105_eq (n : Nat × Nat) (word0 : ByteArray) (letters1 : Int) : S105 n word0 letters1 =
 (S65 n word0).bind fun r1' =>
 (bif (r1' != 0) then some r1'
 else ((bif (decide (letters1 < 1) == false) then some (decide (letters1 > 6))
 else some true)).bind fun b2' =>
 (bif b2' then some 1
 else L105_1 n n.1 letters1 word0 0)) := by kernel_rfl
theorem S105_run (n : Nat × Nat) (xs : pksDen pk105) : S105 n xs.1 xs.2.1 = runG (E105 n) noScope c105 an105 (rtG rk105) (fun _ _ => none) (rtG rk105) (st0 pk105 xs Tryd.f105.ntmps) := by kernel_rfl
noncomputable def P105 (n : Nat × Nat) := phiOf pk105 rk105 (fun xs => S105 n xs.1 xs.2.1)
theorem call105 : CallOK Tryd.prog 105 := callOK_of Tryd.func105 (by kernel_rfl) (by kernel_rfl)
theorem env105 (n : Nat × Nat) : EnvOK Tryd.prog (E105 n) := envOK0 (consPhi_ok (FC65 n) call65 noPhi_ok) rfl rfl
theorem par105 (n : Nat × Nat) : EnvPar (E105 n) := envPar0 (consPhi_par phiOf_Par1 noPhi_par) rfl
theorem FC105 (n : Nat × Nat) : FCs Tryd.prog 105 (P105 n) := phiOf_FCs fun xs r h vs hv => FC.of_runG tabOK eqsOK (env105 n) (par105 n) mixed (fun _ p _ => noScope_ok p.1 p.2) Tryd.func105 (c := c105) (an := an105) (pks := pk105) (rks := rk105) (by kernel_rfl) (by kernel_rfl) hv ((S105_run n xs).symm.trans h)
abbrev R106 := List Int
noncomputable def c106 : Code := bodyOf Tryd.f106
noncomputable def an106 : Ann := (.s .l (.s .l (.s .l (.s (.s .l (.j [5] (.j [1, 5, 6, 11] (.s .l (.s (.j [1, 5, 6, 11, 12] .l .l) (.j [1, 5, 6, 11] (.s .l (.s .l (.s .l (.j [1, 5, 6, 11] .l .l)))) .l))) .l) .l)) .l))))
def pk106 : List PK := [.c .str, .c (.int .i64)]
def rk106 : List RK := [.own (.int .i64) 4]
noncomputable def rt106 (st : St) : Option R106 := rtG rk106 st
noncomputable def E106 (n : Nat × Nat) : Env := { T := tab, phi := noPhi, eff := fun _ => false, fuel := n.1, hold := n.2 }
noncomputable def kq106_1 (n : Nat × Nat) : St → Option R106 := run (E106 n) (cB (cB (cB (cB c106)))) (Ann.snd (Ann.snd (Ann.snd (Ann.snd an106)))) rt106 (fun _ _ => none) rt106
noncomputable def xb106_3 (n : Nat × Nat) : Nat → St → Option R106 := fun j s => bif Nat.beq j 0 then normC [5] s (kq106_1 n) else (fun _ _ => none) j s
noncomputable def F106_4 (n : Nat × Nat) : (St → Option R106) → St → Option R106 := fun K s => run (E106 n) (cA (cA (cB (cA (cB (cB (cB c106))))))) (Ann.fst (Ann.fst (Ann.snd (Ann.fst (Ann.snd (Ann.snd (Ann.snd an106))))))) (fun s => normC [1, 5, 6, 11] s K) (xb106_3 n) rt106 s
noncomputable def L106_1 (n : Nat × Nat) (m : Nat) (letters1 : Int) (out5 : List Int) (met6 : List (Int × Bool)) (v11s : ByteArray) (v11p : Nat) : Option R106 := loopN (F106_4 n) m { tm := [uu, .c (.int .i64 letters1), uu, uu, uu, .own 5 none false, .map 6, uu, uu, uu, uu, .ptr 11 0, uu, uu, uu, uu, uu, uu, uu, uu, uu, uu, uu, uu, uu, uu, uu, uu, uu], hp := (upd (upd (upd emp 11 (.iter v11s v11p)) 6 (.mp .i32 .bool met6)) 5 (.arr (.int .i64) out5 false)) }
theorem L106_1_eq (n : Nat × Nat) (m1 : Nat) (letters1 : Int) (out5 : List Int) (met6 : List (Int × Bool)) (v11s : ByteArray) (v11p : Nat) : L106_1 n (m1 + 1) letters1 out5 met6 v11s v11p =
 (bif Nat.blt v11p v11s.size then ((strBytes v11s)[v11p]?).bind fun x1' =>
 (bif decide (x1' < 128) then (bif (((aset met6 x1' true).length : Int) == letters1) then (bif decide (out5.length + [wr .i64 ((v11p : Int) + 1)].length ≤ lim) then L106_1 n m1 letters1 (out5 ++ [wr .i64 ((v11p : Int) + 1)]) [] v11s (v11p + 1)
 else none)
 else L106_1 n m1 letters1 out5 (aset met6 x1' true) v11s (v11p + 1))
 else none)
 else some out5) := by kernel_rfl
noncomputable def S106 (n : Nat × Nat) (word0 : ByteArray) (letters1 : Int) : Option R106 := run (E106 n) c106 an106 rt106 (fun _ _ => none) rt106 { tm := [.c (.str word0), .c (.int .i64 letters1), uu, uu, uu, uu, uu, uu, uu, uu, uu, uu, uu, uu, uu, uu, uu, uu, uu, uu, uu, uu, uu, uu, uu, uu, uu, uu, uu], hp := emp }
theorem S106_eq (n : Nat × Nat) (word0 : ByteArray) (letters1 : Int) : S106 n word0 letters1 =
    L106_1 n n.1 letters1 [] [] word0 0 := by kernel_rfl
theorem S106_run (n : Nat × Nat) (xs : pksDen pk106) : S106 n xs.1 xs.2.1 = runG (E106 n) noScope c106 an106 (rtG rk106) (fun _ _ => none) (rtG rk106) (st0 pk106 xs Tryd.f106.ntmps) := by kernel_rfl
noncomputable def P106 (n : Nat × Nat) := phiOf pk106 rk106 (fun xs => S106 n xs.1 xs.2.1)
theorem call106 : CallOK Tryd.prog 106 := callOK_of Tryd.func106 (by kernel_rfl) (by kernel_rfl)
theorem env106 (n : Nat × Nat) : EnvOK Tryd.prog (E106 n) := envOK0 noPhi_ok rfl rfl
theorem par106 (n : Nat × Nat) : EnvPar (E106 n) := envPar0 noPhi_par rfl
theorem FC106 (n : Nat × Nat) : FCs Tryd.prog 106 (P106 n) := phiOf_FCs fun xs r h vs hv => FC.of_runG tabOK eqsOK (env106 n) (par106 n) mixed (fun _ p _ => noScope_ok p.1 p.2) Tryd.func106 (c := c106) (an := an106) (pks := pk106) (rks := rk106) (by kernel_rfl) (by kernel_rfl) hv ((S106_run n xs).symm.trans h)
/- slices.Index[[]byte,byte] -/
abbrev R107 := Int
noncomputable def c107 : Code := bodyOf Tryd.f107
noncomputable def an107 : Ann := (.s .l (.s (.s .l (.j [] (.j [0, 1, 7, 8] (.s .l (.s (.j [0, 1, 7, 8] .l .l) (.s (.j [0, 1, 7, 8] (.s .l (.s .l (.j [0, 1, 7, 8] .l .l))) .l) .l))) .l) .l)) .l))
def pk107 : List PK := [.c (.sl (.int .u8)), .c (.int .u8)]
def rk107 : List RK := [.c (.int .i64) 4]
noncomputable def rt107 (st : St) : Option R107 := rtG rk107 st
noncomputable def E107 (n : Nat × Nat) : Env := { T := tab, phi := noPhi, eff := fun _ => false, fuel := n.1, hold := n.2 }
noncomputable def kq107_1 (n : Nat × Nat) : St → Option R107 := run (E107 n) (cB (cB c107)) (Ann.snd (Ann.snd an107)) rt107 (fun _ _ => none) rt107
noncomputable def xb107_3 (n : Nat × Nat) : Nat → St → Option R107 := fun j s => bif Nat.beq j 0 then normC [] s (kq107_1 n) else (fun _ _ => none) j s
noncomputable def F107_4 (n : Nat × Nat) : (St → Option R107) → St → Option R107 := fun K s => run (E107 n) (cA (cA (cB (cA (cB c107))))) (Ann.fst (Ann.fst (Ann.snd (Ann.fst (Ann.snd an107))))) (fun s => normC [0, 1, 7, 8] s K) (xb107_3 n) rt107 s
noncomputable def L107_1 (n : Nat × Nat) (m : Nat) (s0 : List Int) (v1 : Int) (v7 : Int) (v8 : Int) : Option R107 := loopN (F107_4 n) m { tm := [.c (.sl (.int .u8) s0 false), .c (.int .u8 v1), uu, uu, uu, uu, uu, .c (.int .i64 v7), .c (.int .i64 v8), uu, uu, uu, uu, uu, uu, uu, uu, uu, uu], hp := emp }
theorem L107_1_eq (n : Nat × Nat) (m1 : Nat) (s0 : List Int) (v1 : Int) (v7 : Int) (v8 : Int) : L107_1 n (m1 + 1) s0 v1 v7 v8 =
 (bif decide (v8 < v7) then (idx s0 v8).bind fun x1' =>
 (bif (v1 == x1') then some v8
 else L107_1 n m1 s0 v1 v7 (wr .i64 (v8 + 1)))
 else some (-1)) := by kernel_rfl
noncomputable def S107 (n : Nat × Nat) (s0 : List Int) (v1 : Int) : Option R107 := run (E107 n) c107 an107 rt107 (fun _ _ => none) rt107 { tm := [.c (.sl (.int .u8) s0 false), .c (.int .u8 v1), uu, uu, uu, uu, uu, uu, uu, uu, uu, uu, uu, uu, uu, uu, uu, uu, uu], hp := emp }
theorem S107_eq (n : Nat × Nat) (s0 : List Int) (v1 : Int) : S107 n s0 v1 =
    L107_1 n n.1 s0 v1 (s0.length : Int) 0 := by kernel_rfl
theorem S107_run (n : Nat × Nat) (xs : pksDen pk107) : S107 n xs.1 xs.2.1 = runG (E107 n) noScope c107 an107 (rtG rk107) (fun _ _ => none) (rtG rk107) (st0 pk107 xs Tryd.f107.ntmps) := by kernel_rfl
noncomputable def P107 (n : Nat × Nat) := phiOf pk107 rk107 (fun xs => S107 n xs.1 xs.2.1)
theorem call107 : CallOK Tryd.prog 107 := callOK_of Tryd.func107 (by kernel_rfl) (by kernel_rfl)
theorem env107 (n : Nat × Nat) : EnvOK Tryd.prog (E107 n) := envOK0 noPhi_ok rfl rfl
theorem par107 (n : Nat × Nat) : EnvPar (E107 n) := envPar0 noPhi_par rfl
theorem FC107 (n : Nat × Nat) : FCs Tryd.prog 107 (P107 n) := phiOf_FCs fun xs r h vs hv => FC.of_runG tabOK eqsOK (env107 n) (par107 n) mixed (fun _ p _ => noScope_ok p.1 p.2) Tryd.func107 (c := c107) (an := an107) (pks := pk107) (rks := rk107) (by kernel_rfl) (by kernel_rfl) hv ((S107_run n xs).symm.trans h)
abbrev R76 := ByteArray × Int
noncomputable def c76 : Code := bodyOf Tryd.f76
noncomputable def an76 : Ann := (.s .l (.s (.s .l (.s .l (.j [0, 1, 28, 29, 49, 50, 51, 52, 53, 54, 55, 56, 57, 58] .l .l))) (.s .l (.j [4, 5] (.j [0, 1, 7, 28, 29, 49, 50, 51, 52, 53, 54, 55, 56, 57, 58] (.j [0, 1, 7, 28, 29, 49, 50, 51, 52, 53, 54, 55, 56, 57, 58] (.s .l (.s .l (.s .l (.j [0, 1, 7, 28, 29, 49, 50, 51, 52, 53, 54, 55, 56, 57, 58] (.j [0, 1, 7, 8, 9, 10, 28, 29, 49, 50, 51, 52, 53, 54, 55, 56, 57, 58] (.s (.s .l (.j [0, 1, 7, 8, 9, 10, 28, 29, 49, 50, 51, 52, 53, 54, 55, 56, 57, 58] .l .l)) (.j [] (.j [0, 1, 7, 8, 9, 10, 28, 29, 49, 50, 51, 52, 53, 54, 55, 56, 57, 58] (.s .l (.j [0, 1, 7, 8, 9, 10, 28, 29, 49, 50, 51, 52, 53, 54, 55, 56, 57, 58] (.s .l (.j [0, 1, 7, 8, 9, 10, 28, 29, 49, 50, 51, 52, 53, 54, 55, 56, 57, 58] .l (.s .l (.j [0, 1, 7, 8, 9, 10, 28, 29, 49, 50, 51, 52, 53, 54, 55, 56, 57, 58] .l .l)))) .l)) .l) .l)) .l) .l)))) .l) .l) .l))))
def pk76 : List PK := [.c .str, .c (.int .i64)]
def rk76 : List RK := [.c .str 4, .c (.int .i64) 5]
noncomputable def rt76 (st : St) : Option R76 := rtG rk76 st
noncomputable def E76 (n : Nat × Nat) : Env := { T := tab, phi := (consPhi 105 (fun _ => true) (P105 n) (consPhi 106 (fun _ => true) (P106 n) (consPhi 107 (fun _ => true) (P107 n) noPhi))), eff := fun _ => false, fuel := n.1, hold := n.2 }
noncomputable def xb76_4 (n : Nat × Nat) : Nat → St → Option R76 := fun j s => bif Nat.beq j 0 then normC [4, 5] s rt76 else (fun _ _ => none) j s
noncomputable def F76_5 (n : Nat × Nat) : (St → Option R76) → St → Option R76 := fun K s => run (E76 n) (cA (cA (cB (cB (cB c76))))) (Ann.fst (Ann.fst (Ann.snd (Ann.snd (Ann.snd an76))))) (fun s => normC [0, 1, 7, 28, 29, 49, 50, 51, 52, 53, 54, 55, 56, 57, 58] s K) (xb76_4 n) rt76 s
noncomputable def kc76_6 (n : Nat × Nat) (m1 : Nat) : St → Option R76 := fun s => normC [0, 1, 7, 28, 29, 49, 50, 51, 52, 53, 54, 55, 56, 57, 58] s (fun s => normC [0, 1, 7, 28, 29, 49, 50, 51, 52, 53, 54, 55, 56, 57, 58] s (loopN (F76_5 n) m1))
noncomputable def xb76_7 (n : Nat × Nat) (m1 : Nat) : Nat → St → Option R76 := fun j s => bif Nat.beq j 1 then normC [0, 1, 7, 28, 29, 49, 50, 51, 52, 53, 54, 55, 56, 57, 58] s (fun s => normC [0, 1, 7, 28, 29, 49, 50, 51, 52, 53, 54, 55, 56, 57, 58] s (loopN (F76_5 n) m1)) else (xb76_4 n) j s
noncomputable def xb76_9 (n : Nat × Nat) (m1 : Nat) : Nat → St → Option R76 := fun j s => bif Nat.beq j 2 then normC [0, 1, 7, 28, 29, 49, 50, 51, 52, 53, 54, 55, 56, 57, 58] s (kc76_6 n m1) else (xb76_7 n m1) j s
noncomputable def F76_10 (n : Nat × Nat) (m1 : Nat) : (St → Option R76) → St → Option R76 := fun K s => run (E76 n) (cA (cA (cB (cB (cB (cA (cA (cA (cB (cB (cB c76))))))))))) (Ann.fst (Ann.fst (Ann.snd (Ann.snd (Ann.snd (Ann.fst (Ann.fst (Ann.fst (Ann.snd (Ann.snd (Ann.snd an76))))))))))) (fun s => normC [0, 1, 7, 8, 9, 10, 28, 29, 49, 50, 51, 52, 53, 54, 55, 56, 57, 58] s K) (xb76_9 n m1) rt76 s
noncomputable def kq76_13 (n : Nat × Nat) (m1 m2 : Nat) : St → Option R76 := run (E76 n) (cB (cB (cA (cA (cB (cB (cB (cA (cA (cA (cB (cB (cB c76))))))))))))) (Ann.snd (Ann.snd (Ann.fst (Ann.fst (Ann.snd (Ann.snd (Ann.snd (Ann.fst (Ann.fst (Ann.fst (Ann.snd (Ann.snd (Ann.snd an76))))))))))))) (fun s => normC [0, 1, 7, 8, 9, 10, 28, 29, 49, 50, 51, 52, 53, 54, 55, 56, 57, 58] s (loopN (F76_10 n m1) m2)) (xb76_9 n m1) rt76
noncomputable def L76_1 (n : Nat × Nat) (m : Nat) (word0 : ByteArray) (letters1 : Int) (out7 : List Int) : Option R76 := loopN (F76_5 n) m { tm := [.c (.str word0), .c (.int .i64 letters1), uu, uu, uu, uu, uu, .own 7 none false, uu, uu, uu, uu, uu, uu, uu, uu, uu, uu, uu, uu, uu, uu, uu, uu, uu, uu, uu, uu, uu, uu, uu, uu, uu, uu, uu, uu, uu, uu, uu, uu, uu, uu, uu, uu, uu, uu, uu, uu, uu, uu, uu, uu, uu, uu, uu, uu, uu, uu, uu, uu, uu, uu, uu, uu, uu, uu, uu, uu], hp := (upd emp 7 (.arr (.int .u8) out7 false)) }
noncomputable def L76_2 (n : Nat × Nat) (m1 : Nat) (m : Nat) (word0 : ByteArray) (letters1 : Int) (left8 : Int) (found9 : Bool) (c10 : Int) (out7 : List Int) : Option R76 := loopN (F76_10 n m1) m { tm := [.c (.str word0), .c (.int .i64 letters1), uu, uu, uu, uu, uu, .own 7 none false, .c (.int .i64 left8), .c (.bool found9), .c (.int .u8 c10), uu, uu, uu, uu, uu, uu, uu, uu, uu, uu, uu, uu, uu, uu, uu, uu, uu, uu, uu, uu, uu, uu, uu, uu, uu, uu, uu, uu, uu, uu, uu, uu, uu, uu, uu, uu, uu, uu, uu, uu, uu, uu, uu, uu, uu, uu, uu, uu, uu, uu, uu, uu, uu, uu, uu, uu, uu], hp := (upd emp 7 (.arr (.int .u8) out7 false)) }
noncomputable def L76_3 (n : Nat × Nat) (m1 m2 : Nat) (word0 : ByteArray) (letters1 : Int) (left8 : Int) (found9 : Bool) (c10 : Int) (out7 : List Int) : Option R76 := loopN (fun _ => (kq76_13 n m1 m2)) n.2 { tm := [.c (.str word0), .c (.int .i64 letters1), uu, uu, uu, uu, uu, .own 7 none false, .c (.int .i64 left8), .c (.bool found9), .c (.int .u8 c10), uu, uu, uu, uu, uu, uu, uu, uu, uu, uu, uu, uu, uu, uu, uu, uu, uu, uu, uu, uu, uu, uu, uu, uu, uu, uu, uu, uu, uu, uu, uu, uu, uu, uu, uu, uu, uu, uu, uu, uu, uu, uu, uu, uu, uu, uu, uu, uu, uu, uu, uu, uu, uu, uu, uu, uu, uu], hp := (upd emp 7 (.arr (.int .u8) out7 false)) }
theorem L76_1_eq (n : Nat × Nat) (m1 : Nat) (word0 : ByteArray) (letters1 : Int) (out7 : List Int) : L76_1 n (m1 + 1) word0 letters1 out7 =
 (S106 n word0 letters1).bind fun r2' =>
    L76_2 n m1 n.1 word0 letters1 (r2'.length : Int) false 97 out7 := by kernel_rfl
theorem L76_2_eq (n : Nat × Nat) (m1 m2 : Nat) (word0 : ByteArray) (letters1 : Int) (left8 : Int) (found9 : Bool) (c10 : Int) (out7 : List Int) : L76_2 n m1 (m2 + 1) word0 letters1 left8 found9 c10 out7 =
 ((bif (decide (c10 < wr .u8 (wr .i64 (97 + letters1))) == true) then some (!found9)
 else some false)).bind fun b3' =>
 (bif b3' then (S107 n (strBytes word0) c10).bind fun r4' =>
 (bif decide (r4' < 0) then (bif decide (out7.length + [c10].length ≤ lim) then some (strNums (out7 ++ [c10]), 0)
 else none)
 else ((bif (decide (left8 > 0) == true) then (bif bounds (some (wr .i64 (r4' + 1))) none none word0.size then (S106 n (strCut (some (wr .i64 (r4' + 1))) none word0) letters1).bind fun r5' =>
 some ((r5'.length : Int) == (wr .i64 (left8 - 1)))
 else none)
 else some false)).bind fun b6' =>
 (bif b6' then (bif decide (out7.length + [c10].length ≤ lim) then (bif bounds (some (wr .i64 (r4' + 1))) none none word0.size then L76_3 n m1 m2 (strCut (some (wr .i64 (r4' + 1))) none word0) letters1 left8 true c10 (out7 ++ [c10])
 else none)
 else none)
 else L76_3 n m1 m2 word0 letters1 left8 found9 c10 out7))
 else L76_1 n m1 word0 letters1 out7) := by kernel_rfl
theorem L76_3_raw (n : Nat × Nat) (m1 m2 : Nat) (word0 : ByteArray) (letters1 : Int) (left8 : Int) (found9 : Bool) (c10 : Int) (out7 : List Int) : (kq76_13 n m1 m2) { tm := [.c (.str word0), .c (.int .i64 letters1), uu, uu, uu, uu, uu, .own 7 none false, .c (.int .i64 left8), .c (.bool found9), .c (.int .u8 c10), uu, uu, uu, uu, uu, uu, uu, uu, uu, uu, uu, uu, uu, uu, uu, uu, uu, uu, uu, uu, uu, uu, uu, uu, uu, uu, uu, uu, uu, uu, uu, uu, uu, uu, uu, uu, uu, uu, uu, uu, uu, uu, uu, uu, uu, uu, uu, uu, uu, uu, uu, uu, uu, uu, uu, uu, uu], hp := (upd emp 7 (.arr (.int .u8) out7 false)) } =
    L76_2 n m1 m2 word0 letters1 left8 found9 (wr .u8 (c10 + 1)) out7 := by kernel_rfl
noncomputable def S76 (n : Nat × Nat) (word0 : ByteArray) (letters1 : Int) : Option R76 := run (E76 n) c76 an76 rt76 (fun _ _ => none) rt76 { tm := [.c (.str word0), .c (.int .i64 letters1), uu, uu, uu, uu, uu, uu, uu, uu, uu, uu, uu, uu, uu, uu, uu, uu, uu, uu, uu, uu, uu, uu, uu, uu, uu, uu, uu, uu, uu, uu, uu, uu, uu, uu, uu, uu, uu, uu, uu, uu, uu, uu, uu, uu, uu, uu, uu, uu, uu, uu, uu, uu, uu, uu, uu, uu, uu, uu, uu, uu, uu, uu, uu, uu, uu, uu], hp := emp }
theorem S76_eq (n : Nat × Nat) (word0 : ByteArray) (letters1 : Int) : S76 n word0 letters1 =
 (S105 n word0 letters1).bind fun r1' =>
 (bif (r1' != 0) then some ((⟨#[]⟩ : ByteArray), r1')
 else L76_1 n n.1 word0 letters1 []) := by kernel_rfl
theorem S76_run (n : Nat × Nat) (xs : pksDen pk76) : S76 n xs.1 xs.2.1 = runG (E76 n) noScope c76 an76 (rtG rk76) (fun _ _ => none) (rtG rk76) (st0 pk76 xs Tryd.f76.ntmps) := by kernel_rfl
noncomputable def P76 (n : Nat × Nat) := phiOf pk76 rk76 (fun xs => S76 n xs.1 xs.2.1)
theorem call76 : CallOK Tryd.prog 76 := callOK_of Tryd.func76 (by kernel_rfl) (by kernel_rfl)
theorem env76 (n : Nat × Nat) : EnvOK Tryd.prog (E76 n) := envOK0 (consPhi_ok (FC105 n) call105 (consPhi_ok (FC106 n) call106 (consPhi_ok (FC107 n) call107 noPhi_ok))) rfl rfl
theorem par76 (n : Nat × Nat) : EnvPar (E76 n) := envPar0 (consPhi_par phiOf_Par1 (consPhi_par phiOf_Par1 (consPhi_par phiOf_Par1 noPhi_par))) rfl
theorem FC76 (n : Nat × Nat) : FCs Tryd.prog 76 (P76 n) := phiOf_FCs fun xs r h vs hv => FC.of_runG tabOK eqsOK (env76 n) (par76 n) mixed (fun _ p _ => noScope_ok p.1 p.2) Tryd.func76 (c := c76) (an := an76) (pks := pk76) (rks := rk76) (by kernel_rfl) (by kernel_rfl) hv ((S76_run n xs).symm.trans h)
abbrev R32 := Bool
noncomputable def c32 : Code := bodyOf Tryd.f32
noncomputable def an32 : Ann := (.s .l (.s (.s .l (.j [1] (.j [0, 1, 5, 11, 12] (.s (.s .l (.j [0, 1, 5, 11, 12] .l .l)) (.j [] (.j [0, 1, 5, 11, 12] (.s .l (.j [0, 1, 5, 11, 12] .l .l)) .l) .l)) .l) .l)) .l))
def pk32 : List PK := [.c .str, .c .str]
def rk32 : List RK := [.c .bool 4]
noncomputable def rt32 (st : St) : Option R32 := rtG rk32 st
noncomputable def E32 (n : Nat × Nat) : Env := { T := tab, phi := noPhi, eff := fun _ => false, fuel := n.1, hold := n.2 }
noncomputable def kq32_1 (n : Nat × Nat) : St → Option R32 := run (E32 n) (cB (cB c32)) (Ann.snd (Ann.snd an32)) rt32 (fun _ _ => none) rt32
noncomputable def xb32_3 (n : Nat × Nat) : Nat → St → Option R32 := fun j s => bif Nat.beq j 0 then normC [1] s (kq32_1 n) else (fun _ _ => none) j s
noncomputable def F32_4 (n : Nat × Nat) : (St → Option R32) → St → Option R32 := fun K s => run (E32 n) (cA (cA (cB (cA (cB c32))))) (Ann.fst (Ann.fst (Ann.snd (Ann.fst (Ann.snd an32))))) (fun s => normC [0, 1, 5, 11, 12] s K) (xb32_3 n) rt32 s
noncomputable def kq32_7 (n : Nat × Nat) (m1 : Nat) : St → Option R32 := run (E32 n) (cB (cB (cA (cA (cB (cA (cB c32))))))) (Ann.snd (Ann.snd (Ann.fst (Ann.fst (Ann.snd (Ann.fst (Ann.snd an32))))))) (fun s => normC [0, 1, 5, 11, 12] s (loopN (F32_4 n) m1)) (xb32_3 n) rt32
noncomputable def L32_1 (n : Nat × Nat) (m : Nat) (word0 : ByteArray) (part1 : ByteArray) (i5 : Int) : Option R32 := loopN (F32_4 n) m { tm := [.c (.str word0), .c (.str part1), uu, uu, uu, .c (.int .i64 i5), uu, uu, uu, uu, uu, uu, uu, uu, uu, uu, uu, uu, uu, uu, uu, uu, uu, uu, uu, uu], hp := emp }
noncomputable def L32_2 (n : Nat × Nat) (m1 : Nat) (word0 : ByteArray) (part1 : ByteArray) (i5 : Int) : Option R32 := loopN (fun _ => (kq32_7 n m1)) n.2 { tm := [.c (.str word0), .c (.str part1), uu, uu, uu, .c (.int .i64 i5), uu, uu, uu, uu, uu, uu, uu, uu, uu, uu, uu, uu, uu, uu, uu, uu, uu, uu, uu, uu], hp := emp }
theorem L32_1_eq (n : Nat × Nat) (m1 : Nat) (word0 : ByteArray) (part1 : ByteArray) (i5 : Int) : L32_1 n (m1 + 1) word0 part1 i5 =
 ((bif (decide (i5 < (word0.size : Int)) == true) then some (!strEq part1 (⟨#[]⟩ : ByteArray))
 else some false)).bind fun b1' =>
 (bif b1' then (idx (strBytes word0) i5).bind fun x2' =>
 (idx (strBytes part1) 0).bind fun x3' =>
 (bif (x2' == x3') then (bif bounds (some 1) none none part1.size then L32_2 n m1 word0 (strCut (some 1) none part1) i5
 else none)
 else L32_2 n m1 word0 part1 i5)
 else some (strEq part1 (⟨#[]⟩ : ByteArray))) := by kernel_rfl
theorem L32_2_raw (n : Nat × Nat) (m1 : Nat) (word0 : ByteArray) (part1 : ByteArray) (i5 : Int) : (kq32_7 n m1) { tm := [.c (.str word0), .c (.str part1), uu, uu, uu, .c (.int .i64 i5), uu, uu, uu, uu, uu, uu, uu, uu, uu, uu, uu, uu, uu, uu, uu, uu, uu, uu, uu, uu], hp := emp } =
    L32_1 n m1 word0 part1 (wr .i64 (i5 + 1)) := by kernel_rfl
noncomputable def S32 (n : Nat × Nat) (word0 : ByteArray) (part1 : ByteArray) : Option R32 := run (E32 n) c32 an32 rt32 (fun _ _ => none) rt32 { tm := [.c (.str word0), .c (.str part1), uu, uu, uu, uu, uu, uu, uu, uu, uu, uu, uu, uu, uu, uu, uu, uu, uu, uu, uu, uu, uu, uu, uu, uu], hp := emp }
theorem S32_eq (n : Nat × Nat) (word0 : ByteArray) (part1 : ByteArray) : S32 n word0 part1 =
    L32_1 n n.1 word0 part1 0 := by kernel_rfl
theorem S32_run (n : Nat × Nat) (xs : pksDen pk32) : S32 n xs.1 xs.2.1 = runG (E32 n) noScope c32 an32 (rtG rk32) (fun _ _ => none) (rtG rk32) (st0 pk32 xs Tryd.f32.ntmps) := by kernel_rfl
noncomputable def P32 (n : Nat × Nat) := phiOf pk32 rk32 (fun xs => S32 n xs.1 xs.2.1)
theorem call32 : CallOK Tryd.prog 32 := callOK_of Tryd.func32 (by kernel_rfl) (by kernel_rfl)
theorem env32 (n : Nat × Nat) : EnvOK Tryd.prog (E32 n) := envOK0 noPhi_ok rfl rfl
theorem par32 (n : Nat × Nat) : EnvPar (E32 n) := envPar0 noPhi_par rfl
theorem FC32 (n : Nat × Nat) : FCs Tryd.prog 32 (P32 n) := phiOf_FCs fun xs r h vs hv => FC.of_runG tabOK eqsOK (env32 n) (par32 n) mixed (fun _ p _ => noScope_ok p.1 p.2) Tryd.func32 (c := c32) (an := an32) (pks := pk32) (rks := rk32) (by kernel_rfl) (by kernel_rfl) hv ((S32_run n xs).symm.trans h)
abbrev R45 := Bool
noncomputable def c45 : Code := bodyOf Tryd.f45
noncomputable def an45 : Ann := .l
def pk45 : List PK := []
def rk45 : List RK := [.c .bool 0]
noncomputable def rt45 (st : St) : Option R45 := rtG rk45 st
noncomputable def E45 (n : Nat × Nat) : Env := { T := tab, phi := (consPhi 32 (fun _ => true) (P32 n) (consPhi 75 (fun _ => true) (P75 n) (consPhi 76 (fun _ => true) (P76 n) noPhi))), eff := fun _ => false, fuel := n.1, hold := n.2 }
noncomputable def S45 (n : Nat × Nat) : Option R45 := run (E45 n) c45 an45 rt45 (fun _ _ => none) rt45 { tm := [uu, uu, uu, uu, uu, uu, uu, uu, uu, uu, uu, uu, uu, uu, uu, uu, uu, uu, uu, uu, uu, uu, uu, uu, uu, uu, uu, uu, uu, uu], hp := emp }
theorem S45_eq (n : Nat × Nat) : S45 n =
 (S75 n (⟨#[97, 98, 99, 97]⟩ : ByteArray) (⟨#[97]⟩ : ByteArray)).bind fun r1' =>
 (S76 n (⟨#[97, 98, 98, 97]⟩ : ByteArray) 2).bind fun r2' =>
 ((bif ((r1'.2 == 0) == true) then some (r2'.2 == 0)
 else some false)).bind fun b3' =>
 ((bif (b3' == true) then some (r1'.1 == 2)
 else some false)).bind fun b4' =>
 ((bif (b4' == true) then some (strEq r2'.1 (⟨#[97, 97, 97]⟩ : ByteArray))
 else some false)).bind fun b5' =>
 ((bif (b5' == true) then (S32 n (⟨#[100, 97, 121, 45, 98, 111, 111, 107]⟩ : ByteArray) (⟨#[121, 98, 107]⟩ : ByteArray)).bind fun r6' =>
 some r6'
 else some false)).bind fun b7' =>
 some b7' := by kernel_rfl
theorem S45_run (n : Nat × Nat) (xs : pksDen pk45) : S45 n = runG (E45 n) noScope c45 an45 (rtG rk45) (fun _ _ => none) (rtG rk45) (st0 pk45 xs Tryd.f45.ntmps) := by kernel_rfl
noncomputable def P45 (n : Nat × Nat) := phiOf pk45 rk45 (fun xs => S45 n)
theorem call45 : CallOK Tryd.prog 45 := callOK_of Tryd.func45 (by kernel_rfl) (by kernel_rfl)
theorem env45 (n : Nat × Nat) : EnvOK Tryd.prog (E45 n) := envOK0 (consPhi_ok (FC32 n) call32 (consPhi_ok (FC75 n) call75 (consPhi_ok (FC76 n) call76 noPhi_ok))) rfl rfl
theorem par45 (n : Nat × Nat) : EnvPar (E45 n) := envPar0 (consPhi_par phiOf_Par1 (consPhi_par phiOf_Par1 (consPhi_par phiOf_Par1 noPhi_par))) rfl
theorem FC45 (n : Nat × Nat) : FCs Tryd.prog 45 (P45 n) := phiOf_FCs fun xs r h vs hv => FC.of_runG tabOK eqsOK (env45 n) (par45 n) mixed (fun _ p _ => noScope_ok p.1 p.2) Tryd.func45 (c := c45) (an := an45) (pks := pk45) (rks := rk45) (by kernel_rfl) (by kernel_rfl) hv ((S45_run n xs).symm.trans h)
abbrev R16 := Bool
noncomputable def c16 : Code := bodyOf Tryd.f16
noncomputable def an16 : Ann := .l
def pk16 : List PK := []
def rk16 : List RK := [.c .bool 0]
noncomputable def rt16 (st : St) : Option R16 := rtG rk16 st
noncomputable def E16 (n : Nat × Nat) : Env := { T := tabL, phi := (consPhi 14 (fun _ => true) (P14 n) (consPhi 44 (fun _ => true) (P44 n) (consPhi 45 (fun _ => true) (P45 n) noPhi))), eff := fun g => Nat.beq g 44, fuel := n.1, hold := n.2 }
noncomputable def S16 (n : Nat × Nat) : Option R16 := run (E16 n) c16 an16 rt16 (fun _ _ => none) rt16 { tm := [uu, uu, uu, uu, uu, uu, uu, uu, uu, uu, uu, uu, uu, uu, uu, uu, uu, uu, uu, uu, uu, uu], hp := emp }
theorem S16_eq (n : Nat × Nat) : S16 n =
 (S44 n (3, [(0, 1), (1, 2)])).bind fun r1' =>
 ((bif ((r1'.2 == 0) == true) then (S14 n r1'.1 [0, 2]).bind fun r2' =>
 some r2'
 else some false)).bind fun b3' =>
 ((bif (b3' == true) then (S45 n).bind fun r4' =>
 some r4'
 else some false)).bind fun b5' =>
 some b5' := by kernel_rfl
theorem S16_run (n : Nat × Nat) (xs : pksDen pk16) : S16 n = runG (E16 n) noScope c16 an16 (rtG rk16) (fun _ _ => none) (rtG rk16) (st0 pk16 xs Tryd.f16.ntmps) := by kernel_rfl
noncomputable def P16 (n : Nat × Nat) := phiOf pk16 rk16 (fun xs => S16 n)
theorem call16 : CallOK Tryd.prog 16 := callOK_of Tryd.func16 (by kernel_rfl) (by kernel_rfl)
theorem env16 (n : Nat × Nat) : EnvOK Tryd.prog (E16 n) := envOK0 (consPhi_ok (FC14 n) call14 (consPhi_ok (FC44 n) call44 (consPhi_ok (FC45 n) call45 noPhi_ok))) rfl rfl
theorem par16 (n : Nat × Nat) : EnvPar (E16 n) := envPar0 (consPhi_par phiOf_Par1 (consPhi_par phiOf_Par1 (consPhi_par phiOf_Par1 noPhi_par))) rfl
theorem FC16 (n : Nat × Nat) : FCs Tryd.prog 16 (P16 n) := phiOf_FCs fun xs r h vs hv => FC.of_runG tabLOK eqsLOK (env16 n) (par16 n) mixed (fun _ p _ => noScope_ok p.1 p.2) Tryd.func16 (c := c16) (an := an16) (pks := pk16) (rks := rk16) (by kernel_rfl) (by kernel_rfl) hv ((S16_run n xs).symm.trans h)
abbrev R83 := Bool
noncomputable def c83 : Code := bodyOf Tryd.f83
noncomputable def an83 : Ann := .l
def pk83 : List PK := []
def rk83 : List RK := [.c .bool 0]
noncomputable def rt83 (st : St) : Option R83 := rtG rk83 st
noncomputable def E83 (n : Nat × Nat) : Env := { T := tabL, phi := (consPhi 14 (fun _ => true) (P14 n) (consPhi 16 (fun _ => true) (P16 n) (consPhi 113 (fun _ => true) (P113 n) noPhi))), eff := fun _ => false, fuel := n.1, hold := n.2 }
noncomputable def S83 (n : Nat × Nat) : Option R83 := run (E83 n) c83 an83 rt83 (fun _ _ => none) rt83 { tm := [uu, uu, uu, uu, uu, uu, uu, uu, uu, uu, uu, uu, uu, uu, uu, uu, uu, uu, uu, uu, uu, uu, uu], hp := emp }
theorem S83_eq (n : Nat × Nat) : S83 n =
 (S113 n (3, [(0, 1), (0, 2), (1, 2)])).bind fun r1' =>
 ((bif ((r1'.2 == 0) == true) then (S14 n r1'.1 [0, 1]).bind fun r2' =>
 some r2'
 else some false)).bind fun b3' =>
 ((bif (b3' == true) then (S16 n).bind fun r4' =>
 some r4'
 else some false)).bind fun b5' =>
 some b5' := by kernel_rfl
theorem S83_run (n : Nat × Nat) (xs : pksDen pk83) : S83 n = runG (E83 n) noScope c83 an83 (rtG rk83) (fun _ _ => none) (rtG rk83) (st0 pk83 xs Tryd.f83.ntmps) := by kernel_rfl
noncomputable def P83 (n : Nat × Nat) := phiOf pk83 rk83 (fun xs => S83 n)
theorem call83 : CallOK Tryd.prog 83 := callOK_of Tryd.func83 (by kernel_rfl) (by kernel_rfl)
theorem env83 (n : Nat × Nat) : EnvOK Tryd.prog (E83 n) := envOK0 (consPhi_ok (FC14 n) call14 (consPhi_ok (FC16 n) call16 (consPhi_ok (FC113 n) call113 noPhi_ok))) rfl rfl
theorem par83 (n : Nat × Nat) : EnvPar (E83 n) := envPar0 (consPhi_par phiOf_Par1 (consPhi_par phiOf_Par1 (consPhi_par phiOf_Par1 noPhi_par))) rfl
theorem FC83 (n : Nat × Nat) : FCs Tryd.prog 83 (P83 n) := phiOf_FCs fun xs r h vs hv => FC.of_runG tabLOK eqsLOK (env83 n) (par83 n) mixed (fun _ p _ => noScope_ok p.1 p.2) Tryd.func83 (c := c83) (an := an83) (pks := pk83) (rks := rk83) (by kernel_rfl) (by kernel_rfl) hv ((S83_run n xs).symm.trans h)
abbrev R51 := Bool
noncomputable def c51 : Code := bodyOf Tryd.f51
noncomputable def an51 : Ann := .l
def pk51 : List PK := []
def rk51 : List RK := [.c .bool 0]
noncomputable def rt51 (st : St) : Option R51 := rtG rk51 st
noncomputable def E51 (n : Nat × Nat) : Env := { T := tabL, phi := (consPhi 17 (fun _ => true) (P17 n) (consPhi 83 (fun _ => true) (P83 n) noPhi)), eff := fun _ => false, fuel := n.1, hold := n.2 }
noncomputable def S51 (n : Nat × Nat) : Option R51 := run (E51 n) c51 an51 rt51 (fun _ _ => none) rt51 { tm := [uu, uu, uu, uu, uu, uu, uu, uu, uu, uu, uu, uu, uu, uu, uu, uu, uu, uu, uu], hp := emp }
theorem S51_eq (n : Nat × Nat) : S51 n =
 (S17 n (2, [0, 1, 2, 0, 1])).bind fun r1' =>
 ((bif ((r1'.2 == 0) == true) then some (r1'.1 == 4)
 else some false)).bind fun b2' =>
 ((bif (b2' == true) then (S83 n).bind fun r3' =>
 some r3'
 else some false)).bind fun b4' =>
 some b4' := by kernel_rfl
theorem S51_run (n : Nat × Nat) (xs : pksDen pk51) : S51 n = runG (E51 n) noScope c51 an51 (rtG rk51) (fun _ _ => none) (rtG rk51) (st0 pk51 xs Tryd.f51.ntmps) := by kernel_rfl
noncomputable def P51 (n : Nat × Nat) := phiOf pk51 rk51 (fun xs => S51 n)
theorem call51 : CallOK Tryd.prog 51 := callOK_of Tryd.func51 (by kernel_rfl) (by kernel_rfl)
theorem env51 (n : Nat × Nat) : EnvOK Tryd.prog (E51 n) := envOK0 (consPhi_ok (FC17 n) call17 (consPhi_ok (FC83 n) call83 noPhi_ok)) rfl rfl
theorem par51 (n : Nat × Nat) : EnvPar (E51 n) := envPar0 (consPhi_par phiOf_Par1 (consPhi_par phiOf_Par1 noPhi_par)) rfl
theorem FC51 (n : Nat × Nat) : FCs Tryd.prog 51 (P51 n) := phiOf_FCs fun xs r h vs hv => FC.of_runG tabLOK eqsLOK (env51 n) (par51 n) mixed (fun _ p _ => noScope_ok p.1 p.2) Tryd.func51 (c := c51) (an := an51) (pks := pk51) (rks := rk51) (by kernel_rfl) (by kernel_rfl) hv ((S51_run n xs).symm.trans h)
abbrev R20 := Bool
noncomputable def c20 : Code := bodyOf Tryd.f20
noncomputable def an20 : Ann := .l
def pk20 : List PK := []
def rk20 : List RK := [.c .bool 0]
noncomputable def rt20 (st : St) : Option R20 := rtG rk20 st
noncomputable def E20 (n : Nat × Nat) : Env := { T := tab, phi := (consPhi 14 (fun _ => true) (P14 n) (consPhi 50 (fun _ => true) (P50 n) (consPhi 51 (fun _ => true) (P51 n) noPhi))), eff := fun _ => false, fuel := n.1, hold := n.2 }
noncomputable def S20 (n : Nat × Nat) : Option R20 := run (E20 n) c20 an20 rt20 (fun _ _ => none) rt20 { tm := [uu, uu, uu, uu, uu, uu, uu, uu, uu, uu, uu, uu, uu, uu, uu, uu, uu, uu, uu, uu, uu, uu], hp := emp }
theorem S20_eq (n : Nat × Nat) : S20 n =
 (S50 n [(3, 1), (1, 1), (2, 1)]).bind fun r1' =>
 ((bif ((r1'.2 == 0) == true) then (S14 n r1'.1 [0]).bind fun r2' =>
 some r2'
 else some false)).bind fun b3' =>
 ((bif (b3' == true) then (S51 n).bind fun r4' =>
 some r4'
 else some false)).bind fun b5' =>
 some b5' := by kernel_rfl
theorem S20_run (n : Nat × Nat) (xs : pksDen pk20) : S20 n = runG (E20 n) noScope c20 an20 (rtG rk20) (fun _ _ => none) (rtG rk20) (st0 pk20 xs Tryd.f20.ntmps) := by kernel_rfl
noncomputable def P20 (n : Nat × Nat) := phiOf pk20 rk20 (fun xs => S20 n)
theorem call20 : CallOK Tryd.prog 20 := callOK_of Tryd.func20 (by kernel_rfl) (by kernel_rfl)
theorem env20 (n : Nat × Nat) : EnvOK Tryd.prog (E20 n) := envOK0 (consPhi_ok (FC14 n) call14 (consPhi_ok (FC50 n) call50 (consPhi_ok (FC51 n) call51 noPhi_ok))) rfl rfl
theorem par20 (n : Nat × Nat) : EnvPar (E20 n) := envPar0 (consPhi_par phiOf_Par1 (consPhi_par phiOf_Par1 (consPhi_par phiOf_Par1 noPhi_par))) rfl
theorem FC20 (n : Nat × Nat) : FCs Tryd.prog 20 (P20 n) := phiOf_FCs fun xs r h vs hv => FC.of_runG tabOK eqsOK (env20 n) (par20 n) mixed (fun _ p _ => noScope_ok p.1 p.2) Tryd.func20 (c := c20) (an := an20) (pks := pk20) (rks := rk20) (by kernel_rfl) (by kernel_rfl) hv ((S20_run n xs).symm.trans h)
abbrev R59 := Bool
noncomputable def c59 : Code := bodyOf Tryd.f59
noncomputable def an59 : Ann := .l
def pk59 : List PK := []
def rk59 : List RK := [.c .bool 0]
noncomputable def rt59 (st : St) : Option R59 := rtG rk59 st
noncomputable def E59 (n : Nat × Nat) : Env := { T := tabL, phi := (consPhi 20 (fun _ => true) (P20 n) (consPhi 24 (fun _ => true) (P24 n) noPhi)), eff := fun _ => false, fuel := n.1, hold := n.2 }
noncomputable def S59 (n : Nat × Nat) : Option R59 := run (E59 n) c59 an59 rt59 (fun _ _ => none) rt59 { tm := [uu, uu, uu, uu, uu, uu, uu, uu, uu, uu, uu, uu, uu, uu, uu, uu, uu, uu, uu, uu, uu], hp := emp }
theorem S59_eq (n : Nat × Nat) : S59 n =
 (S24 n ([(1, 3), (1, 4), (1, 2)], 7, 0) 2).bind fun r1' =>
 ((bif ((r1'.2 == 0) == true) then some (r1'.1 == 6)
 else some false)).bind fun b2' =>
 ((bif (b2' == true) then (S20 n).bind fun r3' =>
 some r3'
 else some false)).bind fun b4' =>
 some b4' := by kernel_rfl
theorem S59_run (n : Nat × Nat) (xs : pksDen pk59) : S59 n = runG (E59 n) noScope c59 an59 (rtG rk59) (fun _ _ => none) (rtG rk59) (st0 pk59 xs Tryd.f59.ntmps) := by kernel_rfl
noncomputable def P59 (n : Nat × Nat) := phiOf pk59 rk59 (fun xs => S59 n)
theorem call59 : CallOK Tryd.prog 59 := callOK_of Tryd.func59 (by kernel_rfl) (by kernel_rfl)
theorem env59 (n : Nat × Nat) : EnvOK Tryd.prog (E59 n) := envOK0 (consPhi_ok (FC20 n) call20 (consPhi_ok (FC24 n) call24 noPhi_ok)) rfl rfl
theorem par59 (n : Nat × Nat) : EnvPar (E59 n) := envPar0 (consPhi_par phiOf_Par1 (consPhi_par phiOf_Par1 noPhi_par)) rfl
theorem FC59 (n : Nat × Nat) : FCs Tryd.prog 59 (P59 n) := phiOf_FCs fun xs r h vs hv => FC.of_runG tabLOK eqsLOK (env59 n) (par59 n) mixed (fun _ p _ => noScope_ok p.1 p.2) Tryd.func59 (c := c59) (an := an59) (pks := pk59) (rks := rk59) (by kernel_rfl) (by kernel_rfl) hv ((S59_run n xs).symm.trans h)
abbrev R25 := Bool
noncomputable def c25 : Code := bodyOf Tryd.f25
noncomputable def an25 : Ann := .l
def pk25 : List PK := []
def rk25 : List RK := [.c .bool 0]
noncomputable def rt25 (st : St) : Option R25 := rtG rk25 st
noncomputable def E25 (n : Nat × Nat) : Env := { T := tab, phi := (consPhi 14 (fun _ => true) (P14 n) (consPhi 58 (fun _ => true) (P58 n) (consPhi 59 (fun _ => true) (P59 n) noPhi))), eff := fun _ => false, fuel := n.1, hold := n.2 }
noncomputable def S25 (n : Nat × Nat) : Option R25 := run (E25 n) c25 an25 rt25 (fun _ _ => none) rt25 { tm := [uu, uu, uu, uu, uu, uu, uu, uu, uu, uu, uu, uu, uu, uu, uu, uu, uu, uu, uu, uu], hp := emp }
theorem S25_eq (n : Nat × Nat) : S25 n =
 (S58 n [1, 3, 4] 6).bind fun r1' =>
 ((bif ((r1'.2 == 0) == true) then (S14 n r1'.1 [0, 2, 0]).bind fun r2' =>
 some r2'
 else some false)).bind fun b3' =>
 ((bif (b3' == true) then (S59 n).bind fun r4' =>
 some r4'
 else some false)).bind fun b5' =>
 some b5' := by kernel_rfl
theorem S25_run (n : Nat × Nat) (xs : pksDen pk25) : S25 n = runG (E25 n) noScope c25 an25 (rtG rk25) (fun _ _ => none) (rtG rk25) (st0 pk25 xs Tryd.f25.ntmps) := by kernel_rfl
noncomputable def P25 (n : Nat × Nat) := phiOf pk25 rk25 (fun xs => S25 n)
theorem call25 : CallOK Tryd.prog 25 := callOK_of Tryd.func25 (by kernel_rfl) (by kernel_rfl)
theorem env25 (n : Nat × Nat) : EnvOK Tryd.prog (E25 n) := envOK0 (consPhi_ok (FC14 n) call14 (consPhi_ok (FC58 n) call58 (consPhi_ok (FC59 n) call59 noPhi_ok))) rfl rfl
theorem par25 (n : Nat × Nat) : EnvPar (E25 n) := envPar0 (consPhi_par phiOf_Par1 (consPhi_par phiOf_Par1 (consPhi_par phiOf_Par1 noPhi_par))) rfl
theorem FC25 (n : Nat × Nat) : FCs Tryd.prog 25 (P25 n) := phiOf_FCs fun xs r h vs hv => FC.of_runG tabOK eqsOK (env25 n) (par25 n) mixed (fun _ p _ => noScope_ok p.1 p.2) Tryd.func25 (c := c25) (an := an25) (pks := pk25) (rks := rk25) (by kernel_rfl) (by kernel_rfl) hv ((S25_run n xs).symm.trans h)
abbrev R5 := Bool
noncomputable def c5 : Code := bodyOf Tryd.f5
noncomputable def an5 : Ann := (.s .l (.s .l (.s .l (.s (.q [(7, 0, 1)] (.s .l (.j [5, 6, 7, 50, 51, 54, 55, 56, 59, 60, 61, 62, 65, 66, 67, 68, 69, 81, 82, 83, 84, 85, 86, 87, 88, 89, 90, 91, 94, 95, 96, 99, 500499999] (.j [5, 6, 7, 24, 25, 50, 51, 54, 55, 56, 59, 60, 61, 62, 65, 66, 67, 68, 69, 81, 82, 83, 84, 85, 86, 87, 88, 89, 90, 91, 94, 95, 96, 99, 500499999] (.s .l (.s (.j [5, 6, 7, 24, 25, 50, 51, 54, 55, 56, 59, 60, 61, 62, 65, 66, 67, 68, 69, 81, 82, 83, 84, 85, 86, 87, 88, 89, 90, 91, 94, 95, 96, 99, 500499999] .l .l) (.s (.j [5, 6, 7, 24, 25, 50, 51, 54, 55, 56, 59, 60, 61, 62, 65, 66, 67, 68, 69, 81, 82, 83, 84, 85, 86, 87, 88, 89, 90, 91, 94, 95, 96, 99, 500499999] .l .l) .l))) .l) .l))) (.q [(7, 0, 0)] (.s .l (.s .l (.s (.s .l (.j [5, 7, 8, 10, 81, 82, 83, 84, 85, 86, 87, 88, 89, 90, 91, 94, 95, 96, 99, 500499999] .l .l)) .l))))))))
def pk5 : List PK := [.c (.int .u8), .c (.int .u8)]
def rk5 : List RK := [.c .bool 4]
noncomputable def rt5 (st : St) : Option R5 := rtG rk5 st
noncomputable def E5 (n : Nat × Nat) : Env := { T := tab, phi := (consPhi 21 (fun _ => true) (P21 n) (consPhi 23 (fun _ => true) (P23 n) (consPhi 24 (fun _ => true) (P24 n) (consPhi 25 (fun _ => true) (P25 n) noPhi)))), eff := fun _ => false, fuel := n.1, hold := n.2 }
noncomputable def kq5_1 (n : Nat × Nat) : St → Option R5 := run (E5 n) (cB (cB (cB (cB c5)))) (Ann.snd (Ann.snd (Ann.snd (Ann.snd an5)))) rt5 (fun _ _ => none) rt5
noncomputable def xb5_3 (n : Nat × Nat) : Nat → St → Option R5 := fun j s => bif Nat.beq j 0 then normC [5, 6, 7, 50, 51, 54, 55, 56, 59, 60, 61, 62, 65, 66, 67, 68, 69, 81, 82, 83, 84, 85, 86, 87, 88, 89, 90, 91, 94, 95, 96, 99, 500499999] s (kq5_1 n) else (fun _ _ => none) j s
noncomputable def F5_4 (n : Nat × Nat) : (St → Option R5) → St → Option R5 := fun K s => run (E5 n) (cA (cA (cB (cA (cB (cB (cB c5))))))) (Ann.fst (Ann.fst (Ann.snd (Ann.unq (Ann.fst (Ann.snd (Ann.snd (Ann.snd an5)))))))) (fun s => normC [5, 6, 7, 24, 25, 50, 51, 54, 55, 56, 59, 60, 61, 62, 65, 66, 67, 68, 69, 81, 82, 83, 84, 85, 86, 87, 88, 89, 90, 91, 94, 95, 96, 99, 500499999] s K) (xb5_3 n) rt5 s
noncomputable def L5_1 (n : Nat × Nat) (m : Nat) (c5 : Int) (s6 : Int) (v24 : Int) (v25 : Int) (b7_1 : Int) (b7_2 : Int) (v500499999 : List (Int × Int)) : Option R5 := loopN (F5_4 n) m { tm := [uu, uu, uu, uu, uu, .c (.int .i64 c5), .c (.int .i64 s6), .ptr 7 0, uu, uu, uu, uu, uu, uu, uu, uu, uu, uu, uu, uu, uu, uu, uu, uu, .c (.int .i64 v24), .c (.int .i64 v25), uu, uu, uu, uu, uu, uu, uu, uu, uu, uu, uu, uu, uu, uu, uu, uu, uu, uu, uu, uu, uu, uu, uu, uu, uu, uu, uu, uu, uu, uu, uu, uu, uu, uu, uu, uu, uu, uu, uu, uu, uu, uu, uu, uu, uu, uu, uu, uu, uu, uu, uu, uu, uu, uu, uu, uu, uu, uu, uu, uu, uu, uu, uu, uu, uu, uu, uu, uu, uu, uu, uu, uu, uu, uu, uu], hp := (upd (upd emp 500499999 (.arr (.pair (.int .i64) (.int .i64)) v500499999 false)) 7 (.box [.osl, .int .i64 b7_1, .int .i64 b7_2])) }
theorem L5_1_eq (n : Nat × Nat) (m1 : Nat) (c5 : Int) (s6 : Int) (v24 : Int) (v25 : Int) (b7_1 : Int) (b7_2 : Int) (v500499999 : List (Int × Int)) : L5_1 n (m1 + 1) c5 s6 v24 v25 b7_1 b7_2 v500499999 =
 (bif decide (v25 < v24) then (bif decide (v500499999.length + [(1, 1)].length ≤ lim) then L5_1 n m1 c5 s6 v24 (wr .i64 (v25 + 1)) b7_1 b7_2 (v500499999 ++ [(1, 1)])
 else none)
 else (S21 n [1, c5] s6).bind fun r1' =>
 (S23 n (v500499999, b7_1, b7_2)).bind fun r2' =>
 ((bif ((r1'.2 != 0) == false) then some (r2'.2 != 0)
 else some true)).bind fun b3' =>
 ((bif (b3' == false) then some ((r1'.1.length : Int) != 2)
 else some true)).bind fun b4' =>
 ((bif (b4' == false) then (bif inB 0 r1'.1.length then (idx r1'.1 0).bind fun x5' =>
 some (decide (x5' < 0))
 else none)
 else some true)).bind fun b6' =>
 ((bif (b6' == false) then (bif inB 0 r1'.1.length then (idx r1'.1 0).bind fun x7' =>
 some (decide (x7' ≥ c5))
 else none)
 else some true)).bind fun b8' =>
 (bif b8' then some false
 else (S24 n (v500499999, b7_1, b7_2) (r2'.1.length : Int)).bind fun r9' =>
 ((bif ((r9'.2 == 0) == true) then (bif inB 1 r1'.1.length then (idx r1'.1 1).bind fun x10' =>
 (bif inB 0 r1'.1.length then (idx r1'.1 0).bind fun x11' =>
 some ((r2'.1.length : Int) == (wr .i64 (x10' + (if x11' < 1 then x11' else 1))))
 else none)
 else none)
 else some false)).bind fun b12' =>
 ((bif (b12' == true) then some (decide (r9'.1 ≤ c5))
 else some false)).bind fun b13' =>
 ((bif (b13' == true) then (S25 n).bind fun r14' =>
 some r14'
 else some false)).bind fun b15' =>
 some b15')) := by kernel_rfl
noncomputable def S5 (n : Nat × Nat) (greatest0 : Int) (sum1 : Int) : Option R5 := run (E5 n) c5 an5 rt5 (fun _ _ => none) rt5 { tm := [.c (.int .u8 greatest0), .c (.int .u8 sum1), uu, uu, uu, uu, uu, uu, uu, uu, uu, uu, uu, uu, uu, uu, uu, uu, uu, uu, uu, uu, uu, uu, uu, uu, uu, uu, uu, uu, uu, uu, uu, uu, uu, uu, uu, uu, uu, uu, uu, uu, uu, uu, uu, uu, uu, uu, uu, uu, uu, uu, uu, uu, uu, uu, uu, uu, uu, uu, uu, uu, uu, uu, uu, uu, uu, uu, uu, uu, uu, uu, uu, uu, uu, uu, uu, uu, uu, uu, uu, uu, uu, uu, uu, uu, uu, uu, uu, uu, uu, uu, uu, uu, uu, uu, uu, uu, uu, uu, uu], hp := emp }
theorem S5_eq (n : Nat × Nat) (greatest0 : Int) (sum1 : Int) : S5 n greatest0 sum1 =
 (bif 12 == 0 then none
 else (bif 12 == 0 then none
 else L5_1 n n.1 (wr .i64 (2 + (Int.tmod (wr .i64 greatest0) 12))) (wr .i64 (1 + (Int.tmod (wr .i64 sum1) 12))) (wr .i64 (1 + (Int.tmod (wr .i64 sum1) 12))) 0 (wr .i64 (2 + (Int.tmod (wr .i64 greatest0) 12))) 0 [])) := by kernel_rfl
theorem S5_run (n : Nat × Nat) (xs : pksDen pk5) : S5 n xs.1 xs.2.1 = runG (E5 n) noScope c5 an5 (rtG rk5) (fun _ _ => none) (rtG rk5) (st0 pk5 xs Tryd.f5.ntmps) := by kernel_rfl
noncomputable def P5 (n : Nat × Nat) := phiOf pk5 rk5 (fun xs => S5 n xs.1 xs.2.1)
theorem env5 (n : Nat × Nat) : EnvOK Tryd.prog (E5 n) := envOK0 (consPhi_ok (FC21 n) call21 (consPhi_ok (FC23 n) call23 (consPhi_ok (FC24 n) call24 (consPhi_ok (FC25 n) call25 noPhi_ok)))) rfl rfl
theorem par5 (n : Nat × Nat) : EnvPar (E5 n) := envPar0 (consPhi_par phiOf_Par1 (consPhi_par phiOf_Par1 (consPhi_par phiOf_Par1 (consPhi_par phiOf_Par1 noPhi_par)))) rfl
theorem FC5 (n : Nat × Nat) : FCs Tryd.prog 5 (P5 n) := phiOf_FCs fun xs r h vs hv => FC.of_runG tabOK eqsOK (env5 n) (par5 n) mixed (fun _ p _ => noScope_ok p.1 p.2) Tryd.func5 (c := c5) (an := an5) (pks := pk5) (rks := rk5) (by kernel_rfl) (by kernel_rfl) hv ((S5_run n xs).symm.trans h)
/-D 84 -/
noncomputable def DF84_1 (n : Nat × Nat) (f1 : List Int → List Int → Int → Int → Option R84) (coins0 : List Int) (v13 : List Int) (v14 : Int) (v15 : Int) : Option R84 :=
 (bif decide (v15 < v14) then (idx v13 v15).bind fun x1' =>
 ((bif (decide (x1' < 1) == false) then some (decide (x1' > 40))
 else some true)).bind fun b2' =>
 (bif b2' then some 1
 else ((bif (decide (v15 > 0) == true) then (idx coins0 (wr .i64 (v15 - 1))).bind fun x3' =>
 some (decide (x1' ≤ x3'))
 else some false)).bind fun b4' =>
 (bif b4' then some 7
 else f1 coins0 v13 v14 (wr .i64 (v15 + 1))))
 else (idx coins0 0).bind fun x5' =>
 (bif decide (x5' > 1) then some 5
 else some 0))
noncomputable def DL84_1 (n : Nat × Nat) (m : Nat) : List Int → List Int → Int → Int → Option R84 := Nat.rec (motive := fun _ => List Int → List Int → Int → Int → Option R84) (fun _ _ _ _ => none) (fun _ ih => DF84_1 n ih) m
theorem DL84_1_succ (n : Nat × Nat) (m : Nat) : DL84_1 n (m + 1) = DF84_1 n (DL84_1 n m) := rfl
theorem DL84_1_eq (n : Nat × Nat) (hn : n.2 = 1) : ∀ m, L84_1 n m = DL84_1 n m
  | 0 => by funext coins0 v13 v14 v15; kernel_rfl
  | m + 1 => by
    have ih := DL84_1_eq n hn m
    funext coins0 v13 v14 v15; refine (L84_1_eq n m coins0 v13 v14 v15).trans ?_
    rw [DL84_1_succ]
    unfold DF84_1
    (try simp only [ih]) <;> first | with_reducible rfl | rfl
noncomputable def D84 (n : Nat × Nat) (coins0 : List Int) : Option R84 :=
 (bif ((coins0.length : Int) == 0) then some 4
 else (bif decide ((coins0.length : Int) > 6) then some 3
 else DL84_1 n n.1 coins0 coins0 (coins0.length : Int) 0))
theorem S84_D (n : Nat × Nat) (hn : n.2 = 1) : S84 n = D84 n := by
  funext coins0; refine (S84_eq n coins0).trans ?_
  unfold D84
  (try simp only [DL84_1_eq n hn]) <;> first | with_reducible rfl | rfl
/-D 52 -/
noncomputable def D52 (n : Nat × Nat) (coins0 : List Int) (sum1 : Int) : Option R52 :=
 (D84 n coins0).bind fun r1' =>
 ((bif ((r1' == 0) == true) then ((bif (decide (sum1 < 0) == false) then some (decide (sum1 > 200))
 else some true)).bind fun b2' =>
 some b2'
 else some false)).bind fun b3' =>
 (bif b3' then some 1
 else some r1')
theorem S52_D (n : Nat × Nat) (hn : n.2 = 1) : S52 n = D52 n := by
  funext coins0 sum1; refine (S52_eq n coins0 sum1).trans ?_
  unfold D52
  (try simp only [S84_D n hn]) <;> first | with_reducible rfl | rfl
/-D 53 -/
noncomputable def D53 (n : Nat × Nat) (coins0 : List Int) (sum1 : Int) : Option R53 := HF53 coins0 sum1
theorem S53_D (n : Nat × Nat) (hn : n.2 = 1) : S53 n = D53 n := by unfold S53 D53; rfl
/-D 21 -/
noncomputable def D21 (n : Nat × Nat) (coins0 : List Int) (sum1 : Int) : Option R21 :=
 (D52 n coins0 sum1).bind fun r1' =>
 (bif (r1' != 0) then some ([], r1')
 else (D53 n coins0 sum1).bind fun r2' =>
 some (r2'.1, 0))
theorem S21_D (n : Nat × Nat) (hn : n.2 = 1) : S21 n = D21 n := by
  funext coins0 sum1; refine (S21_eq n coins0 sum1).trans ?_
  unfold D21
  (try simp only [S52_D n hn, S53_D n hn]) <;> first | with_reducible rfl | rfl
/-D 54 -/
noncomputable def DF54_1 (n : Nat × Nat) (f1 : (List (Int × Int)) → Int → Int → (List (Int × Int)) → Int → Int → Option R54) (v16 : List (Int × Int)) (v17 : Int) (v18 : Int) (b1_0 : List (Int × Int)) (b1_1 : Int) (b1_2 : Int) : Option R54 :=
 (bif decide (v18 < v17) then (idx v16 v18).bind fun x1' =>
 ((bif (decide ((if x1'.2 < x1'.1 then x1'.2 else x1'.1) < 1) == false) then some (decide ((if x1'.2 > x1'.1 then x1'.2 else x1'.1) > 30))
 else some true)).bind fun b2' =>
 (bif b2' then some 1
 else (bif decide (x1'.1 > x1'.2) then some 7
 else f1 v16 v17 (wr .i64 (v18 + 1)) b1_0 b1_1 b1_2))
 else ((bif (decide (b1_1 < 1) == false) then some (decide (b1_1 > 100))
 else some true)).bind fun b3' =>
 ((bif (b3' == false) then some (decide (b1_2 < 0))
 else some true)).bind fun b4' =>
 ((bif (b4' == false) then some (decide (b1_2 > b1_1))
 else some true)).bind fun b5' =>
 (bif b5' then some 1
 else some 0))
noncomputable def DL54_1 (n : Nat × Nat) (m : Nat) : (List (Int × Int)) → Int → Int → (List (Int × Int)) → Int → Int → Option R54 := Nat.rec (motive := fun _ => (List (Int × Int)) → Int → Int → (List (Int × Int)) → Int → Int → Option R54) (fun _ _ _ _ _ _ => none) (fun _ ih => DF54_1 n ih) m
theorem DL54_1_succ (n : Nat × Nat) (m : Nat) : DL54_1 n (m + 1) = DF54_1 n (DL54_1 n m) := rfl
theorem DL54_1_eq (n : Nat × Nat) (hn : n.2 = 1) : ∀ m, L54_1 n m = DL54_1 n m
  | 0 => by funext v16 v17 v18 b1_0 b1_1 b1_2; kernel_rfl
  | m + 1 => by
    have ih := DL54_1_eq n hn m
    funext v16 v17 v18 b1_0 b1_1 b1_2; refine (L54_1_eq n m v16 v17 v18 b1_0 b1_1 b1_2).trans ?_
    rw [DL54_1_succ]
    unfold DF54_1
    (try simp only [ih]) <;> first | with_reducible rfl | rfl
noncomputable def D54 (n : Nat × Nat) (b0 : (List (Int × Int)) × Int × Int) : Option R54 :=
 (bif ((b0.1.length : Int) == 0) then some 4
 else (bif decide ((b0.1.length : Int) > 12) then some 3
 else DL54_1 n n.1 b0.1 (b0.1.length : Int) 0 b0.1 b0.2.1 b0.2.2))
theorem S54_D (n : Nat × Nat) (hn : n.2 = 1) : S54 n = D54 n := by
  funext b0; refine (S54_eq n b0).trans ?_
  unfold D54
  (try simp only [DL54_1_eq n hn]) <;> first | with_reducible rfl | rfl
/-D 56 -/
noncomputable def D56 (n : Nat × Nat) (a0 : Int × Int) : Option R56 :=
 some a0.2
theorem S56_D (n : Nat × Nat) (hn : n.2 = 1) : S56 n = D56 n := by
  funext a0; refine (S56_eq n a0).trans ?_
  unfold D56
  first | with_reducible rfl | rfl
/-D 55c56 -/
noncomputable def DF55c56_1 (n : Nat × Nat) (f1 : (List (Int × Int)) → Int → Int → List Int → Option R55c56) (v10 : List (Int × Int)) (v11 : Int) (v12 : Int) (out5 : List Int) : Option R55c56 :=
 (bif decide (v12 < v11) then (idx v10 v12).bind fun x1' =>
 (bif inB (wr .i64 ((out5.length : Int) - 1)) out5.length then (idx out5 (wr .i64 ((out5.length : Int) - 1))).bind fun x2' =>
 (D56 n x1').bind fun r3' =>
 (bif decide (out5.length + [wr .i64 (x2' + r3')].length ≤ lim) then f1 v10 v11 (wr .i64 (v12 + 1)) (out5 ++ [wr .i64 (x2' + r3')])
 else none)
 else none)
 else some out5)
noncomputable def DL55c56_1 (n : Nat × Nat) (m : Nat) : (List (Int × Int)) → Int → Int → List Int → Option R55c56 := Nat.rec (motive := fun _ => (List (Int × Int)) → Int → Int → List Int → Option R55c56) (fun _ _ _ _ => none) (fun _ ih => DF55c56_1 n ih) m
theorem DL55c56_1_succ (n : Nat × Nat) (m : Nat) : DL55c56_1 n (m + 1) = DF55c56_1 n (DL55c56_1 n m) := rfl
theorem DL55c56_1_eq (n : Nat × Nat) (hn : n.2 = 1) : ∀ m, L55c56_1 n m = DL55c56_1 n m
  | 0 => by funext v10 v11 v12 out5; kernel_rfl
  | m + 1 => by
    have ih := DL55c56_1_eq n hn m
    funext v10 v11 v12 out5; refine (L55c56_1_eq n m v10 v11 v12 out5).trans ?_
    rw [DL55c56_1_succ]
    unfold DF55c56_1
    (try simp only [ih, S56_D n hn]) <;> first | with_reducible rfl | rfl
noncomputable def D55c56 (n : Nat × Nat) (b0 : (List (Int × Int)) × Int × Int) : Option R55c56 :=
    DL55c56_1 n n.1 b0.1 (b0.1.length : Int) 0 [0]
theorem S55c56_D (n : Nat × Nat) (hn : n.2 = 1) : S55c56 n = D55c56 n := by
  funext b0; refine (S55c56_eq n b0).trans ?_
  unfold D55c56
  (try simp only [DL55c56_1_eq n hn, S56_D n hn]) <;> first | with_reducible rfl | rfl
end Go.Proofs.YtkfkbebinhkdlaaDoor
