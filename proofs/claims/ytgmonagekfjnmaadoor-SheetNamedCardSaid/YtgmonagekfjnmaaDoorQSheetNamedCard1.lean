/- Texts of this claim, joined: G100 to Sq0. -/
import Derived.KernelRfl
import Derived.Test.YtgmonagekfjnmaaDoorProg
import Derived.WalkKit
import Derived.Test.YtgmonagekfjnmaaDoorP6
set_option linter.unusedVariables false
set_option linter.unusedSimpArgs false
set_option maxRecDepth 100000
namespace Go.Proofs.YtgmonagekfjnmaaDoor
open Go.Vi
abbrev R100 := Bool
noncomputable def c100 : Code := bodyOf Tryd.f100
noncomputable def an100 : Ann := (.s .l (.s (.s .l (.j [] (.j [0, 3] (.s (.s .l (.j [0, 3] .l .l)) (.s (.j [0, 3] (.s .l (.j [0, 3] .l .l)) .l) .l)) .l) .l)) .l))
def pk100 : List PK := [.c (.int .i64)]
def rk100 : List RK := [.c .bool 2]
noncomputable def rt100 (st : St) : Option R100 := rtG rk100 st
noncomputable def E100 (n : Nat × Nat) : Env := { T := tab, phi := noPhi, eff := fun _ => false, fuel := n.1, hold := n.2 }
noncomputable def kq100_1 (n : Nat × Nat) : St → Option R100 := run (E100 n) (cB (cB c100)) (Ann.snd (Ann.snd an100)) rt100 (fun _ _ => none) rt100
noncomputable def xb100_3 (n : Nat × Nat) : Nat → St → Option R100 := fun j s => bif Nat.beq j 0 then normC [] s (kq100_1 n) else (fun _ _ => none) j s
noncomputable def F100_4 (n : Nat × Nat) : (St → Option R100) → St → Option R100 := fun K s => run (E100 n) (cA (cA (cB (cA (cB c100))))) (Ann.fst (Ann.fst (Ann.snd (Ann.fst (Ann.snd an100))))) (fun s => normC [0, 3] s K) (xb100_3 n) rt100 s
noncomputable def L100_1 (n : Nat × Nat) (m : Nat) (v0 : Int) (d3 : Int) : Option R100 := loopN (F100_4 n) m { tm := [.c (.int .i64 v0), uu, uu, .c (.int .i64 d3), uu, uu, uu, uu, uu, uu, uu, uu, uu], hp := emp }
theorem L100_1_eq (n : Nat × Nat) (m1 : Nat) (v0 : Int) (d3 : Int) : L100_1 n (m1 + 1) v0 d3 =
 (bif decide (d3 < v0) then (bif d3 == 0 then none
 else (bif ((Int.tmod v0 d3) == 0) then some false
 else L100_1 n m1 v0 (wr .i64 (d3 + 1))))
 else some true) := by kernel_rfl
noncomputable def S100 (n : Nat × Nat) (v0 : Int) : Option R100 := run (E100 n) c100 an100 rt100 (fun _ _ => none) rt100 { tm := [.c (.int .i64 v0), uu, uu, uu, uu, uu, uu, uu, uu, uu, uu, uu, uu], hp := emp }
theorem S100_eq (n : Nat × Nat) (v0 : Int) : S100 n v0 =
    L100_1 n n.1 v0 2 := by kernel_rfl
theorem S100_run (n : Nat × Nat) (xs : pksDen pk100) : S100 n xs.1 = runG (E100 n) noScope c100 an100 (rtG rk100) (fun _ _ => none) (rtG rk100) (st0 pk100 xs Tryd.f100.ntmps) := by kernel_rfl
noncomputable def P100 (n : Nat × Nat) := phiOf pk100 rk100 (fun xs => S100 n xs.1)
theorem call100 : CallOK Tryd.prog 100 := callOK_of Tryd.func100 (by kernel_rfl) (by kernel_rfl)
theorem env100 (n : Nat × Nat) : EnvOK Tryd.prog (E100 n) := envOK0 noPhi_ok rfl rfl
theorem par100 (n : Nat × Nat) : EnvPar (E100 n) := envPar0 noPhi_par rfl
theorem FC100 (n : Nat × Nat) : FCs Tryd.prog 100 (P100 n) := phiOf_FCs fun xs r h vs hv => FC.of_runG tabOK eqsOK (env100 n) (par100 n) mixed (fun _ p _ => noScope_ok p.1 p.2) Tryd.func100 (c := c100) (an := an100) (pks := pk100) (rks := rk100) (by kernel_rfl) (by kernel_rfl) hv ((S100_run n xs).symm.trans h)
abbrev R89 := List Int
noncomputable def c89 : Code := bodyOf Tryd.f89
noncomputable def an89 : Ann := (.s .l (.s .l (.s (.s .l (.j [5] (.j [1, 5, 6, 37, 38] (.s (.s .l (.j [1, 5, 6, 37, 38] .l .l)) (.s (.j [1, 5, 6, 37, 38] (.s .l (.s (.j [1, 5, 6, 7, 37, 38] (.j [1, 5, 6, 7, 37, 38] (.s (.s .l (.j [1, 5, 6, 7, 37, 38] .l .l)) (.j [1, 5, 6, 7, 37, 38] .l .l)) .l) .l) (.s (.s .l (.j [1, 5, 6, 7, 37, 38] (.s .l (.j [1, 5, 6, 7, 37, 38] (.j [1, 5, 6, 7, 8, 37, 38] (.s (.s .l (.j [1, 5, 6, 7, 8, 37, 38] .l .l)) (.j [] (.j [1, 5, 6, 7, 8, 37, 38] (.s .l (.j [1, 5, 6, 7, 8, 37, 38] .l .l)) .l) .l)) .l) .l)) .l)) .l))) .l) .l)) .l) .l)) .l)))
def pk89 : List PK := [.c (.int .i64), .c (.int .i64)]
def rk89 : List RK := [.own (.int .i64) 4]
noncomputable def rt89 (st : St) : Option R89 := rtG rk89 st
noncomputable def E89 (n : Nat × Nat) : Env := { T := tab, phi := (consPhi 100 (fun _ => true) (P100 n) noPhi), eff := fun _ => false, fuel := n.1, hold := n.2 }
noncomputable def kq89_1 (n : Nat × Nat) : St → Option R89 := run (E89 n) (cB (cB (cB c89))) (Ann.snd (Ann.snd (Ann.snd an89))) rt89 (fun _ _ => none) rt89
noncomputable def xb89_3 (n : Nat × Nat) : Nat → St → Option R89 := fun j s => bif Nat.beq j 0 then normC [5] s (kq89_1 n) else (fun _ _ => none) j s
noncomputable def F89_4 (n : Nat × Nat) : (St → Option R89) → St → Option R89 := fun K s => run (E89 n) (cA (cA (cB (cA (cB (cB c89)))))) (Ann.fst (Ann.fst (Ann.snd (Ann.fst (Ann.snd (Ann.snd an89)))))) (fun s => normC [1, 5, 6, 37, 38] s K) (xb89_3 n) rt89 s
noncomputable def kq89_7 (n : Nat × Nat) (m1 : Nat) : St → Option R89 := run (E89 n) (cB (cB (cA (cA (cB (cA (cB (cB c89)))))))) (Ann.snd (Ann.snd (Ann.fst (Ann.fst (Ann.snd (Ann.fst (Ann.snd (Ann.snd an89)))))))) (fun s => normC [1, 5, 6, 37, 38] s (loopN (F89_4 n) m1)) (xb89_3 n) rt89
noncomputable def kc89_8 (n : Nat × Nat) (m1 : Nat) : St → Option R89 := fun s => normC [1, 5, 6, 37, 38] s (kq89_7 n m1)
noncomputable def xb89_9 (n : Nat × Nat) (m1 : Nat) : Nat → St → Option R89 := fun j s => bif Nat.beq j 1 then normC [1, 5, 6, 37, 38] s (kq89_7 n m1) else (xb89_3 n) j s
noncomputable def kq89_10 (n : Nat × Nat) (m1 : Nat) : St → Option R89 := run (E89 n) (cB (cB (cA (cA (cB (cA (cA (cB (cA (cB (cB c89))))))))))) (Ann.snd (Ann.snd (Ann.fst (Ann.fst (Ann.snd (Ann.fst (Ann.fst (Ann.snd (Ann.fst (Ann.snd (Ann.snd an89))))))))))) (kc89_8 n m1) (xb89_9 n m1) rt89
noncomputable def xb89_12 (n : Nat × Nat) (m1 : Nat) : Nat → St → Option R89 := fun j s => bif Nat.beq j 2 then normC [1, 5, 6, 7, 37, 38] s (kq89_10 n m1) else (xb89_9 n m1) j s
noncomputable def F89_13 (n : Nat × Nat) (m1 : Nat) : (St → Option R89) → St → Option R89 := fun K s => run (E89 n) (cA (cA (cA (cB (cA (cA (cB (cA (cA (cB (cA (cB (cB c89))))))))))))) (Ann.fst (Ann.fst (Ann.fst (Ann.snd (Ann.fst (Ann.fst (Ann.snd (Ann.fst (Ann.fst (Ann.snd (Ann.fst (Ann.snd (Ann.snd an89))))))))))))) (fun s => normC [1, 5, 6, 7, 37, 38] s K) (xb89_12 n m1) rt89 s
noncomputable def kq89_18 (n : Nat × Nat) (m1 : Nat) : St → Option R89 := run (E89 n) (cB (cB (cB (cA (cA (cB (cA (cA (cB (cA (cB (cB c89)))))))))))) (Ann.snd (Ann.snd (Ann.snd (Ann.fst (Ann.fst (Ann.snd (Ann.fst (Ann.fst (Ann.snd (Ann.fst (Ann.snd (Ann.snd an89)))))))))))) (kc89_8 n m1) (xb89_9 n m1) rt89
noncomputable def kc89_19 (n : Nat × Nat) (m1 : Nat) : St → Option R89 := fun s => normC [1, 5, 6, 7, 37, 38] s (kq89_18 n m1)
noncomputable def xb89_21 (n : Nat × Nat) (m1 : Nat) : Nat → St → Option R89 := fun j s => bif Nat.beq j 4 then normC [1, 5, 6, 7, 37, 38] s (kc89_19 n m1) else (xb89_9 n m1) j s
noncomputable def F89_22 (n : Nat × Nat) (m1 : Nat) : (St → Option R89) → St → Option R89 := fun K s => run (E89 n) (cA (cA (cB (cA (cB (cA (cB (cB (cA (cA (cB (cA (cA (cB (cA (cB (cB c89))))))))))))))))) (Ann.fst (Ann.fst (Ann.snd (Ann.fst (Ann.snd (Ann.fst (Ann.snd (Ann.snd (Ann.fst (Ann.fst (Ann.snd (Ann.fst (Ann.fst (Ann.snd (Ann.fst (Ann.snd (Ann.snd an89))))))))))))))))) (fun s => normC [1, 5, 6, 7, 8, 37, 38] s K) (xb89_21 n m1) rt89 s
noncomputable def kq89_25 (n : Nat × Nat) (m1 m2 : Nat) : St → Option R89 := run (E89 n) (cB (cB (cA (cA (cB (cA (cB (cA (cB (cB (cA (cA (cB (cA (cA (cB (cA (cB (cB c89))))))))))))))))))) (Ann.snd (Ann.snd (Ann.fst (Ann.fst (Ann.snd (Ann.fst (Ann.snd (Ann.fst (Ann.snd (Ann.snd (Ann.fst (Ann.fst (Ann.snd (Ann.fst (Ann.fst (Ann.snd (Ann.fst (Ann.snd (Ann.snd an89))))))))))))))))))) (fun s => normC [1, 5, 6, 7, 8, 37, 38] s (loopN (F89_22 n m1) m2)) (xb89_21 n m1) rt89
noncomputable def L89_1 (n : Nat × Nat) (m : Nat) (v1 : Int) (d6 : Int) (out5 : List Int) : Option R89 := loopN (F89_4 n) m { tm := [uu, .c (.int .i64 v1), uu, uu, uu, .own 5 none false, .c (.int .i64 d6), uu, uu, uu, uu, uu, uu, uu, uu, uu, uu, uu, uu, uu, uu, uu, uu, uu, uu, uu, uu, uu, uu, uu, uu, uu, uu, uu, uu, uu, uu, uu, uu, uu, uu, uu, uu, uu, uu, uu, uu, uu, uu], hp := (upd emp 5 (.arr (.int .i64) out5 false)) }
noncomputable def L89_2 (n : Nat × Nat) (m1 : Nat) (m : Nat) (v1 : Int) (d6 : Int) (p7 : Int) (out5 : List Int) : Option R89 := loopN (F89_13 n m1) m { tm := [uu, .c (.int .i64 v1), uu, uu, uu, .own 5 none false, .c (.int .i64 d6), .c (.int .i64 p7), uu, uu, uu, uu, uu, uu, uu, uu, uu, uu, uu, uu, uu, uu, uu, uu, uu, uu, uu, uu, uu, uu, uu, uu, uu, uu, uu, uu, uu, uu, uu, uu, uu, uu, uu, uu, uu, uu, uu, uu, uu], hp := (upd emp 5 (.arr (.int .i64) out5 false)) }
noncomputable def L89_3 (n : Nat × Nat) (m1 : Nat) (m : Nat) (v1 : Int) (d6 : Int) (p7 : Int) (q8 : Int) (out5 : List Int) : Option R89 := loopN (F89_22 n m1) m { tm := [uu, .c (.int .i64 v1), uu, uu, uu, .own 5 none false, .c (.int .i64 d6), .c (.int .i64 p7), .c (.int .i64 q8), uu, uu, uu, uu, uu, uu, uu, uu, uu, uu, uu, uu, uu, uu, uu, uu, uu, uu, uu, uu, uu, uu, uu, uu, uu, uu, uu, uu, uu, uu, uu, uu, uu, uu, uu, uu, uu, uu, uu, uu], hp := (upd emp 5 (.arr (.int .i64) out5 false)) }
noncomputable def L89_4 (n : Nat × Nat) (m1 m2 : Nat) (v1 : Int) (d6 : Int) (p7 : Int) (q8 : Int) (out5 : List Int) : Option R89 := loopN (fun _ => (kq89_25 n m1 m2)) n.2 { tm := [uu, .c (.int .i64 v1), uu, uu, uu, .own 5 none false, .c (.int .i64 d6), .c (.int .i64 p7), .c (.int .i64 q8), uu, uu, uu, uu, uu, uu, uu, uu, uu, uu, uu, uu, uu, uu, uu, uu, uu, uu, uu, uu, uu, uu, uu, uu, uu, uu, uu, uu, uu, uu, uu, uu, uu, uu, uu, uu, uu, uu, uu, uu], hp := (upd emp 5 (.arr (.int .i64) out5 false)) }
theorem L89_1_eq (n : Nat × Nat) (m1 : Nat) (v1 : Int) (d6 : Int) (out5 : List Int) : L89_1 n (m1 + 1) v1 d6 out5 =
 (bif decide (d6 > 1) then L89_2 n m1 n.1 v1 d6 2 out5
 else some out5) := by kernel_rfl
theorem L89_2_eq (n : Nat × Nat) (m1 m2 : Nat) (v1 : Int) (d6 : Int) (p7 : Int) (out5 : List Int) : L89_2 n m1 (m2 + 1) v1 d6 p7 out5 =
 (bif p7 == 0 then none
 else (bif ((Int.tmod d6 p7) != 0) then L89_2 n m1 m2 v1 d6 (wr .i64 (p7 + 1)) out5
 else (bif 2 == 0 then none
 else (bif ((Int.tmod v1 2) == 1) then L89_3 n m1 n.1 v1 d6 p7 p7 out5
 else (bif p7 == 0 then none
 else (bif decide (out5.length + [wr .i64 (Int.tdiv d6 p7)].length ≤ lim) then (bif 2 == 0 then none
 else L89_1 n m1 (wr .i64 (Int.tdiv v1 2)) (wr .i64 (Int.tdiv d6 p7)) (out5 ++ [wr .i64 (Int.tdiv d6 p7)]))
 else none)))))) := by kernel_rfl
theorem L89_3_eq (n : Nat × Nat) (m1 m2 : Nat) (v1 : Int) (d6 : Int) (p7 : Int) (q8 : Int) (out5 : List Int) : L89_3 n m1 (m2 + 1) v1 d6 p7 q8 out5 =
 (bif decide (q8 ≤ d6) then (bif q8 == 0 then none
 else ((bif (((Int.tmod d6 q8) == 0) == true) then (S100 n q8).bind fun r1' =>
 some r1'
 else some false)).bind fun b2' =>
 (bif b2' then L89_4 n m1 m2 v1 d6 q8 q8 out5
 else L89_4 n m1 m2 v1 d6 p7 q8 out5))
 else (bif p7 == 0 then none
 else (bif decide (out5.length + [wr .i64 (Int.tdiv d6 p7)].length ≤ lim) then (bif 2 == 0 then none
 else L89_1 n m1 (wr .i64 (Int.tdiv v1 2)) (wr .i64 (Int.tdiv d6 p7)) (out5 ++ [wr .i64 (Int.tdiv d6 p7)]))
 else none))) := by kernel_rfl
theorem L89_4_raw (n : Nat × Nat) (m1 m2 : Nat) (v1 : Int) (d6 : Int) (p7 : Int) (q8 : Int) (out5 : List Int) : (kq89_25 n m1 m2) { tm := [uu, .c (.int .i64 v1), uu, uu, uu, .own 5 none false, .c (.int .i64 d6), .c (.int .i64 p7), .c (.int .i64 q8), uu, uu, uu, uu, uu, uu, uu, uu, uu, uu, uu, uu, uu, uu, uu, uu, uu, uu, uu, uu, uu, uu, uu, uu, uu, uu, uu, uu, uu, uu, uu, uu, uu, uu, uu, uu, uu, uu, uu, uu], hp := (upd emp 5 (.arr (.int .i64) out5 false)) } =
    L89_3 n m1 m2 v1 d6 p7 (wr .i64 (q8 + 1)) out5 := by kernel_rfl
noncomputable def S89 (n : Nat × Nat) (size0 : Int) (v1 : Int) : Option R89 := run (E89 n) c89 an89 rt89 (fun _ _ => none) rt89 { tm := [.c (.int .i64 size0), .c (.int .i64 v1), uu, uu, uu, uu, uu, uu, uu, uu, uu, uu, uu, uu, uu, uu, uu, uu, uu, uu, uu, uu, uu, uu, uu, uu, uu, uu, uu, uu, uu, uu, uu, uu, uu, uu, uu, uu, uu, uu, uu, uu, uu, uu, uu, uu, uu, uu, uu], hp := emp }
theorem S89_eq (n : Nat × Nat) (size0 : Int) (v1 : Int) : S89 n size0 v1 =
    L89_1 n n.1 v1 size0 [size0] := by kernel_rfl
theorem S89_run (n : Nat × Nat) (xs : pksDen pk89) : S89 n xs.1 xs.2.1 = runG (E89 n) noScope c89 an89 (rtG rk89) (fun _ _ => none) (rtG rk89) (st0 pk89 xs Tryd.f89.ntmps) := by kernel_rfl
noncomputable def P89 (n : Nat × Nat) := phiOf pk89 rk89 (fun xs => S89 n xs.1 xs.2.1)
theorem call89 : CallOK Tryd.prog 89 := callOK_of Tryd.func89 (by kernel_rfl) (by kernel_rfl)
theorem env89 (n : Nat × Nat) : EnvOK Tryd.prog (E89 n) := envOK0 (consPhi_ok (FC100 n) call100 noPhi_ok) rfl rfl
theorem par89 (n : Nat × Nat) : EnvPar (E89 n) := envPar0 (consPhi_par phiOf_Par1 noPhi_par) rfl
theorem FC89 (n : Nat × Nat) : FCs Tryd.prog 89 (P89 n) := phiOf_FCs fun xs r h vs hv => FC.of_runG tabOK eqsOK (env89 n) (par89 n) mixed (fun _ p _ => noScope_ok p.1 p.2) Tryd.func89 (c := c89) (an := an89) (pks := pk89) (rks := rk89) (by kernel_rfl) (by kernel_rfl) hv ((S89_run n xs).symm.trans h)
/- (headword/headwordlaw09.Strip).made -/
abbrev R48 := Int × List Int
noncomputable def c48 : Code := bodyOf Tryd.f48
noncomputable def an48 : Ann := (.s .l (.s .l (.s .l (.s (.s .l (.j [1, 2, 6, 7] .l (.s .l (.j [1, 2, 6, 7] (.j [1, 2, 6, 7, 27, 28] (.s .l (.s (.j [1, 2, 6, 7, 27, 28] .l .l) (.s (.j [1, 2, 6, 7, 27, 28] .l .l) .l))) .l) .l)))) (.s .l (.s (.s .l (.j [6, 9] (.j [6, 7, 9, 44, 45, 46] (.s .l (.s (.j [6, 7, 9, 44, 45, 46] .l .l) (.s (.j [6, 7, 9, 44, 45, 46] .l .l) .l))) .l) .l)) .l))))))
def pk48 : List PK := [.c (.pair (.int .u8) (.pair (.int .u8) (.pair (.int .u8) (.pair (.int .u8) (.pair (.int .u8) (.pair (.int .u8) (.pair (.int .u8) (.pair (.int .u8) (.pair (.int .u8) (.pair (.int .u8) (.int .u8))))))))))), .c (.int .i64)]
def rk48 : List RK := [.c (.int .i64) 4, .sl (.int .i64) 5]
noncomputable def rt48 (st : St) : Option R48 := rtG rk48 st
noncomputable def E48 (n : Nat × Nat) : Env := { T := tab, phi := (consPhi 89 (fun _ => true) (P89 n) noPhi), eff := fun _ => false, fuel := n.1, hold := n.2 }
noncomputable def kq48_1 (n : Nat × Nat) : St → Option R48 := run (E48 n) (cB (cB (cB (cB c48)))) (Ann.snd (Ann.snd (Ann.snd (Ann.snd an48)))) rt48 (fun _ _ => none) rt48
noncomputable def kc48_2 (n : Nat × Nat) : St → Option R48 := fun s => normC [1, 2, 6, 7] s (kq48_1 n)
noncomputable def kq48_3 (n : Nat × Nat) : St → Option R48 := run (E48 n) (cB (cB (cB (cB (cB (cB c48)))))) (Ann.snd (Ann.snd (Ann.snd (Ann.snd (Ann.snd (Ann.snd an48)))))) rt48 (fun _ _ => none) rt48
noncomputable def xb48_5 (n : Nat × Nat) : Nat → St → Option R48 := fun j s => bif Nat.beq j 2 then normC [6, 9] s (kq48_3 n) else (fun _ _ => none) j s
noncomputable def F48_6 (n : Nat × Nat) : (St → Option R48) → St → Option R48 := fun K s => run (E48 n) (cA (cA (cB (cA (cB (cB (cB (cB (cB c48))))))))) (Ann.fst (Ann.fst (Ann.snd (Ann.fst (Ann.snd (Ann.snd (Ann.snd (Ann.snd (Ann.snd an48))))))))) (fun s => normC [6, 7, 9, 44, 45, 46] s K) (xb48_5 n) rt48 s
noncomputable def xb48_8 (n : Nat × Nat) : Nat → St → Option R48 := fun j s => bif Nat.beq j 0 then normC [1, 2, 6, 7] s (kc48_2 n) else (fun _ _ => none) j s
noncomputable def F48_9 (n : Nat × Nat) : (St → Option R48) → St → Option R48 := fun K s => run (E48 n) (cA (cA (cB (cB (cB (cA (cB (cB (cB c48))))))))) (Ann.fst (Ann.fst (Ann.snd (Ann.snd (Ann.snd (Ann.fst (Ann.snd (Ann.snd (Ann.snd an48))))))))) (fun s => normC [1, 2, 6, 7, 27, 28] s K) (xb48_8 n) rt48 s
noncomputable def L48_1 (n : Nat × Nat) (m : Nat) (size6 : Int) (v44 : List Int) (v45 : Int) (v46 : Int) (lengths7 : List Int) (out9 : List Int) : Option R48 := loopN (F48_6 n) m { tm := [uu, uu, uu, uu, uu, uu, .c (.int .i64 size6), .own 7 none false, uu, .own 9 none false, uu, uu, uu, uu, uu, uu, uu, uu, uu, uu, uu, uu, uu, uu, uu, uu, uu, uu, uu, uu, uu, uu, uu, uu, uu, uu, uu, uu, uu, uu, uu, uu, uu, uu, .c (.sl (.int .u8) v44 false), .c (.int .i64 v45), .c (.int .i64 v46), uu, uu, uu, uu, uu, uu, uu, uu, uu, uu, uu, uu, uu, uu, uu, uu, uu], hp := (upd (upd emp 9 (.arr (.int .i64) out9 false)) 7 (.arr (.int .i64) lengths7 false)) }
noncomputable def L48_2 (n : Nat × Nat) (m : Nat) (most1 : Int) (size6 : Int) (v27 : Int) (v28 : Int) (s2_0 : Int) (s2_1 : Int) (s2_2 : Int) (s2_3 : Int) (s2_4 : Int) (s2_5 : Int) (s2_6 : Int) (s2_7 : Int) (s2_8 : Int) (s2_9 : Int) (s2_10 : Int) (lengths7 : List Int) : Option R48 := loopN (F48_9 n) m { tm := [uu, .c (.int .i64 most1), .ptr 2 0, uu, uu, uu, .c (.int .i64 size6), .own 7 none false, uu, uu, uu, uu, uu, uu, uu, uu, uu, uu, uu, uu, uu, uu, uu, uu, uu, uu, uu, .c (.int .i64 v27), .c (.int .i64 v28), uu, uu, uu, uu, uu, uu, uu, uu, uu, uu, uu, uu, uu, uu, uu, uu, uu, uu, uu, uu, uu, uu, uu, uu, uu, uu, uu, uu, uu, uu, uu, uu, uu, uu, uu], hp := (upd (upd emp 7 (.arr (.int .i64) lengths7 false)) 2 (.box [.int .u8 s2_0, .int .u8 s2_1, .int .u8 s2_2, .int .u8 s2_3, .int .u8 s2_4, .int .u8 s2_5, .int .u8 s2_6, .int .u8 s2_7, .int .u8 s2_8, .int .u8 s2_9, .int .u8 s2_10])) }
theorem L48_1_eq (n : Nat × Nat) (m1 : Nat) (size6 : Int) (v44 : List Int) (v45 : Int) (v46 : Int) (lengths7 : List Int) (out9 : List Int) : L48_1 n (m1 + 1) size6 v44 v45 v46 lengths7 out9 =
 (bif decide (v46 < v45) then (idx v44 v46).bind fun x2' =>
 (bif (lengths7.length : Int) == 0 then none
 else (bif inB (Int.tmod (wr .i64 x2') (lengths7.length : Int)) lengths7.length then (idx lengths7 (Int.tmod (wr .i64 x2') (lengths7.length : Int))).bind fun x3' =>
 (bif decide (out9.length + [x3'].length ≤ lim) then L48_1 n m1 size6 v44 v45 (wr .i64 (v46 + 1)) lengths7 (out9 ++ [x3'])
 else none)
 else none))
 else some (size6, out9)) := by kernel_rfl
theorem L48_2_eq (n : Nat × Nat) (m1 : Nat) (most1 : Int) (size6 : Int) (v27 : Int) (v28 : Int) (s2_0 : Int) (s2_1 : Int) (s2_2 : Int) (s2_3 : Int) (s2_4 : Int) (s2_5 : Int) (s2_6 : Int) (s2_7 : Int) (s2_8 : Int) (s2_9 : Int) (s2_10 : Int) (lengths7 : List Int) : L48_2 n (m1 + 1) most1 size6 v27 v28 s2_0 s2_1 s2_2 s2_3 s2_4 s2_5 s2_6 s2_7 s2_8 s2_9 s2_10 lengths7 =
 (bif decide (v28 < v27) then (bif decide (lengths7.length + [wr .i64 (v28 + 1)].length ≤ lim) then L48_2 n m1 most1 size6 v27 (wr .i64 (v28 + 1)) s2_0 s2_1 s2_2 s2_3 s2_4 s2_5 s2_6 s2_7 s2_8 s2_9 s2_10 (lengths7 ++ [wr .i64 (v28 + 1)])
 else none)
 else (bif (wr .i64 (most1 + 1)) == 0 then none
 else (bif bounds none (some (Int.tmod (wr .i64 s2_1) (wr .i64 (most1 + 1)))) none 8 then L48_1 n n.1 size6 ([s2_3, s2_4, s2_5, s2_6, s2_7, s2_8, s2_9, s2_10].take (Int.toNat (Int.tmod (wr .i64 s2_1) (wr .i64 (most1 + 1))))) (([s2_3, s2_4, s2_5, s2_6, s2_7, s2_8, s2_9, s2_10].take (Int.toNat (Int.tmod (wr .i64 s2_1) (wr .i64 (most1 + 1))))).length : Int) 0 lengths7 []
 else none))) := by kernel_rfl
noncomputable def S48 (n : Nat × Nat) (s0 : Int × Int × Int × Int × Int × Int × Int × Int × Int × Int × Int) (most1 : Int) : Option R48 := run (E48 n) c48 an48 rt48 (fun _ _ => none) rt48 { tm := [.agg [.int .u8 s0.1, .int .u8 s0.2.1, .int .u8 s0.2.2.1, .int .u8 s0.2.2.2.1, .int .u8 s0.2.2.2.2.1, .int .u8 s0.2.2.2.2.2.1, .int .u8 s0.2.2.2.2.2.2.1, .int .u8 s0.2.2.2.2.2.2.2.1, .int .u8 s0.2.2.2.2.2.2.2.2.1, .int .u8 s0.2.2.2.2.2.2.2.2.2.1, .int .u8 s0.2.2.2.2.2.2.2.2.2.2], .c (.int .i64 most1), uu, uu, uu, uu, uu, uu, uu, uu, uu, uu, uu, uu, uu, uu, uu, uu, uu, uu, uu, uu, uu, uu, uu, uu, uu, uu, uu, uu, uu, uu, uu, uu, uu, uu, uu, uu, uu, uu, uu, uu, uu, uu, uu, uu, uu, uu, uu, uu, uu, uu, uu, uu, uu, uu, uu, uu, uu, uu, uu, uu, uu, uu], hp := emp }
theorem S48_eq (n : Nat × Nat) (s0 : Int × Int × Int × Int × Int × Int × Int × Int × Int × Int × Int) (most1 : Int) : S48 n s0 most1 =
 (bif 24 == 0 then none
 else (bif 2 == 0 then none
 else (bif ((Int.tmod s0.2.2.1 2) == 1) then (bif 2 == 0 then none
 else (S89 n (wr .i64 (1 + (Int.tmod (wr .i64 s0.1) 24))) (wr .i64 (Int.tdiv (wr .i64 s0.2.2.1) 2))).bind fun r1' =>
 (bif (wr .i64 (most1 + 1)) == 0 then none
 else (bif bounds none (some (Int.tmod (wr .i64 s0.2.1) (wr .i64 (most1 + 1)))) none 8 then L48_1 n n.1 (wr .i64 (1 + (Int.tmod (wr .i64 s0.1) 24))) ([s0.2.2.2.1, s0.2.2.2.2.1, s0.2.2.2.2.2.1, s0.2.2.2.2.2.2.1, s0.2.2.2.2.2.2.2.1, s0.2.2.2.2.2.2.2.2.1, s0.2.2.2.2.2.2.2.2.2.1, s0.2.2.2.2.2.2.2.2.2.2].take (Int.toNat (Int.tmod (wr .i64 s0.2.1) (wr .i64 (most1 + 1))))) (([s0.2.2.2.1, s0.2.2.2.2.1, s0.2.2.2.2.2.1, s0.2.2.2.2.2.2.1, s0.2.2.2.2.2.2.2.1, s0.2.2.2.2.2.2.2.2.1, s0.2.2.2.2.2.2.2.2.2.1, s0.2.2.2.2.2.2.2.2.2.2].take (Int.toNat (Int.tmod (wr .i64 s0.2.1) (wr .i64 (most1 + 1))))).length : Int) 0 r1' []
 else none)))
 else L48_2 n n.1 most1 (wr .i64 (1 + (Int.tmod (wr .i64 s0.1) 24))) (wr .i64 (1 + (Int.tmod (wr .i64 s0.1) 24))) 0 s0.1 s0.2.1 s0.2.2.1 s0.2.2.2.1 s0.2.2.2.2.1 s0.2.2.2.2.2.1 s0.2.2.2.2.2.2.1 s0.2.2.2.2.2.2.2.1 s0.2.2.2.2.2.2.2.2.1 s0.2.2.2.2.2.2.2.2.2.1 s0.2.2.2.2.2.2.2.2.2.2 []))) := by kernel_rfl
theorem S48_run (n : Nat × Nat) (xs : pksDen pk48) : S48 n xs.1 xs.2.1 = runG (E48 n) noScope c48 an48 (rtG rk48) (fun _ _ => none) (rtG rk48) (st0 pk48 xs Tryd.f48.ntmps) := by kernel_rfl
noncomputable def P48 (n : Nat × Nat) := phiOf pk48 rk48 (fun xs => S48 n xs.1 xs.2.1)
theorem call48 : CallOK Tryd.prog 48 := callOK_of Tryd.func48 (by kernel_rfl) (by kernel_rfl)
theorem env48 (n : Nat × Nat) : EnvOK Tryd.prog (E48 n) := envOK0 (consPhi_ok (FC89 n) call89 noPhi_ok) rfl rfl
theorem par48 (n : Nat × Nat) : EnvPar (E48 n) := envPar0 (consPhi_par phiOf_Par1 noPhi_par) rfl
theorem FC48 (n : Nat × Nat) : FCs Tryd.prog 48 (P48 n) := phiOf_FCs fun xs r h vs hv => FC.of_runG tabOK eqsOK (env48 n) (par48 n) mixed (fun _ p _ => noScope_ok p.1 p.2) Tryd.func48 (c := c48) (an := an48) (pks := pk48) (rks := rk48) (by kernel_rfl) (by kernel_rfl) hv ((S48_run n xs).symm.trans h)
abbrev R11 := Bool
noncomputable def c11 : Code := bodyOf Tryd.f11
noncomputable def an11 : Ann := (.s .l (.s .l (.s .l (.s (.s .l (.j [5, 6, 7, 86, 87, 90, 91, 94, 95, 98, 99, 100, 103, 104, 105, 142, 143, 146, 147, 148, 154, 155, 158, 159, 160, 163] (.j [3, 5, 6, 7, 33, 34, 86, 87, 90, 91, 94, 95, 98, 99, 100, 103, 104, 105, 142, 143, 146, 147, 148, 154, 155, 158, 159, 160, 163] (.s .l (.s (.j [3, 5, 6, 7, 33, 34, 86, 87, 90, 91, 94, 95, 98, 99, 100, 103, 104, 105, 142, 143, 146, 147, 148, 154, 155, 158, 159, 160, 163] .l .l) (.s (.j [3, 5, 6, 7, 33, 34, 86, 87, 90, 91, 94, 95, 98, 99, 100, 103, 104, 105, 142, 143, 146, 147, 148, 154, 155, 158, 159, 160, 163] .l .l) .l))) .l) .l)) (.s .l (.s .l (.s .l (.s .l (.s (.s .l (.j [5, 6, 7, 142, 143, 146, 147, 148, 154, 155, 158, 159, 160, 163] .l .l)) (.s .l (.s .l (.s (.s .l (.j [11, 13, 18, 19, 154, 155, 158, 159, 160, 163] (.j [5, 6, 7, 11, 13, 18, 19, 121, 122, 142, 143, 146, 147, 148, 154, 155, 158, 159, 160, 163] (.s .l (.s (.j [5, 6, 7, 11, 13, 18, 19, 121, 122, 142, 143, 146, 147, 148, 154, 155, 158, 159, 160, 163] .l .l) (.s (.j [5, 6, 7, 11, 13, 18, 19, 121, 122, 142, 143, 146, 147, 148, 154, 155, 158, 159, 160, 163] (.s .l (.s .l (.s .l (.s .l (.j [5, 6, 7, 11, 13, 18, 19, 121, 122, 142, 143, 146, 147, 148, 154, 155, 158, 159, 160, 163] .l .l))))) .l) .l))) .l) .l)) .l))))))))))))
def pk11 : List PK := [.c (.pair (.int .u8) (.pair (.int .u8) (.pair (.int .u8) (.pair (.int .u8) (.pair (.int .u8) (.pair (.int .u8) (.pair (.int .u8) (.pair (.int .u8) (.pair (.int .u8) (.pair (.int .u8) (.int .u8))))))))))), .c (.pair (.int .u8) (.pair (.int .u8) (.pair (.int .u8) (.pair (.int .u8) (.pair (.int .u8) (.pair (.int .u8) (.pair (.int .u8) (.int .u8))))))))]
def rk11 : List RK := [.c .bool 4]
noncomputable def rt11 (st : St) : Option R11 := rtG rk11 st
noncomputable def E11 (n : Nat × Nat) : Env := { T := tab, phi := (consPhi 17 (fun _ => true) (P17 n) (consPhi 34 (fun _ => true) (P34 n) (consPhi 38 (fun _ => true) (P38 n) (consPhi 40 (fun _ => true) (P40 n) (consPhi 42 (fun _ => true) (P42 n) (consPhi 48 (fun _ => true) (P48 n) (consPhi 56 (fun _ => true) (P56 n) noPhi))))))), eff := fun g => Nat.beq g 48, fuel := n.1, hold := n.2 }
noncomputable def kq11_1 (n : Nat × Nat) : St → Option R11 := run (E11 n) (cB (cB (cB (cB c11)))) (Ann.snd (Ann.snd (Ann.snd (Ann.snd an11)))) rt11 (fun _ _ => none) rt11
noncomputable def xb11_3 (n : Nat × Nat) : Nat → St → Option R11 := fun j s => bif Nat.beq j 0 then normC [5, 6, 7, 86, 87, 90, 91, 94, 95, 98, 99, 100, 103, 104, 105, 142, 143, 146, 147, 148, 154, 155, 158, 159, 160, 163] s (kq11_1 n) else (fun _ _ => none) j s
noncomputable def F11_4 (n : Nat × Nat) : (St → Option R11) → St → Option R11 := fun K s => run (E11 n) (cA (cA (cB (cA (cB (cB (cB c11))))))) (Ann.fst (Ann.fst (Ann.snd (Ann.fst (Ann.snd (Ann.snd (Ann.snd an11))))))) (fun s => normC [3, 5, 6, 7, 33, 34, 86, 87, 90, 91, 94, 95, 98, 99, 100, 103, 104, 105, 142, 143, 146, 147, 148, 154, 155, 158, 159, 160, 163] s K) (xb11_3 n) rt11 s
noncomputable def kq11_12 (n : Nat × Nat) : St → Option R11 := run (E11 n) (cB (cB (cB (cB (cB (cB (cB (cB (cB (cB (cB (cB c11)))))))))))) (Ann.snd (Ann.snd (Ann.snd (Ann.snd (Ann.snd (Ann.snd (Ann.snd (Ann.snd (Ann.snd (Ann.snd (Ann.snd (Ann.snd an11)))))))))))) rt11 (fun _ _ => none) rt11
noncomputable def xb11_14 (n : Nat × Nat) : Nat → St → Option R11 := fun j s => bif Nat.beq j 2 then normC [11, 13, 18, 19, 154, 155, 158, 159, 160, 163] s (kq11_12 n) else (fun _ _ => none) j s
noncomputable def F11_15 (n : Nat × Nat) : (St → Option R11) → St → Option R11 := fun K s => run (E11 n) (cA (cA (cB (cA (cB (cB (cB (cB (cB (cB (cB (cB (cB (cB (cB c11))))))))))))))) (Ann.fst (Ann.fst (Ann.snd (Ann.fst (Ann.snd (Ann.snd (Ann.snd (Ann.snd (Ann.snd (Ann.snd (Ann.snd (Ann.snd (Ann.snd (Ann.snd (Ann.snd an11))))))))))))))) (fun s => normC [5, 6, 7, 11, 13, 18, 19, 121, 122, 142, 143, 146, 147, 148, 154, 155, 158, 159, 160, 163] s K) (xb11_14 n) rt11 s
noncomputable def L11_1 (n : Nat × Nat) (m : Nat) (size5 : Int) (pieces6 : List Int) (v33 : Int) (v34 : Int) (v3_0 : Int) (v3_1 : Int) (v3_2 : Int) (v3_3 : Int) (v3_4 : Int) (v3_5 : Int) (v3_6 : Int) (v3_7 : Int) (moved7 : List Int) : Option R11 := loopN (F11_4 n) m { tm := [uu, uu, uu, .ptr 3 0, uu, .c (.int .i64 size5), .c (.sl (.int .i64) pieces6 false), .own 7 none false, uu, uu, uu, uu, uu, uu, uu, uu, uu, uu, uu, uu, uu, uu, uu, uu, uu, uu, uu, uu, uu, uu, uu, uu, uu, .c (.int .i64 v33), .c (.int .i64 v34), uu, uu, uu, uu, uu, uu, uu, uu, uu, uu, uu, uu, uu, uu, uu, uu, uu, uu, uu, uu, uu, uu, uu, uu, uu, uu, uu, uu, uu, uu, uu, uu, uu, uu, uu, uu, uu, uu, uu, uu, uu, uu, uu, uu, uu, uu, uu, uu, uu, uu, uu, uu, uu, uu, uu, uu, uu, uu, uu, uu, uu, uu, uu, uu, uu, uu, uu, uu, uu, uu, uu, uu, uu, uu, uu, uu, uu, uu, uu, uu, uu, uu, uu, uu, uu, uu, uu, uu, uu, uu, uu, uu, uu, uu, uu, uu, uu, uu, uu, uu, uu, uu, uu, uu, uu, uu, uu, uu, uu, uu, uu, uu, uu, uu, uu, uu, uu, uu, uu, uu, uu, uu, uu, uu, uu, uu, uu, uu, uu, uu], hp := (upd (upd emp 7 (.arr (.int .i64) moved7 false)) 3 (.box [.int .u8 v3_0, .int .u8 v3_1, .int .u8 v3_2, .int .u8 v3_3, .int .u8 v3_4, .int .u8 v3_5, .int .u8 v3_6, .int .u8 v3_7])) }
noncomputable def L11_2 (n : Nat × Nat) (m : Nat) (size5 : Int) (pieces6 : List Int) (e11 : Int) (f13 : Int) (x18 : Bool) (y19 : Bool) (v121 : Int) (v122 : Int) (moved7 : List Int) : Option R11 := loopN (F11_15 n) m { tm := [uu, uu, uu, uu, uu, .c (.int .i64 size5), .c (.sl (.int .i64) pieces6 false), .own 7 none false, uu, uu, uu, .c (.int .i64 e11), uu, .c (.int .i64 f13), uu, uu, uu, uu, .c (.bool x18), .c (.bool y19), uu, uu, uu, uu, uu, uu, uu, uu, uu, uu, uu, uu, uu, uu, uu, uu, uu, uu, uu, uu, uu, uu, uu, uu, uu, uu, uu, uu, uu, uu, uu, uu, uu, uu, uu, uu, uu, uu, uu, uu, uu, uu, uu, uu, uu, uu, uu, uu, uu, uu, uu, uu, uu, uu, uu, uu, uu, uu, uu, uu, uu, uu, uu, uu, uu, uu, uu, uu, uu, uu, uu, uu, uu, uu, uu, uu, uu, uu, uu, uu, uu, uu, uu, uu, uu, uu, uu, uu, uu, uu, uu, uu, uu, uu, uu, uu, uu, uu, uu, uu, uu, .c (.int .i64 v121), .c (.int .i64 v122), uu, uu, uu, uu, uu, uu, uu, uu, uu, uu, uu, uu, uu, uu, uu, uu, uu, uu, uu, uu, uu, uu, uu, uu, uu, uu, uu, uu, uu, uu, uu, uu, uu, uu, uu, uu, uu, uu, uu, uu, uu, uu], hp := (upd emp 7 (.arr (.int .i64) moved7 false)) }
theorem L11_1_eq (n : Nat × Nat) (m1 : Nat) (size5 : Int) (pieces6 : List Int) (v33 : Int) (v34 : Int) (v3_0 : Int) (v3_1 : Int) (v3_2 : Int) (v3_3 : Int) (v3_4 : Int) (v3_5 : Int) (v3_6 : Int) (v3_7 : Int) (moved7 : List Int) : L11_1 n (m1 + 1) size5 pieces6 v33 v34 v3_0 v3_1 v3_2 v3_3 v3_4 v3_5 v3_6 v3_7 moved7 =
 (bif decide (v34 < v33) then (bif inB v34 8 then (idx [v3_0, v3_1, v3_2, v3_3, v3_4, v3_5, v3_6, v3_7] v34).bind fun x3' =>
 (bif (wr .i64 (v34 + 1)) == 0 then none
 else (bif inB (Int.tmod (wr .i64 x3') (wr .i64 (v34 + 1))) moved7.length then (idx moved7 (Int.tmod (wr .i64 x3') (wr .i64 (v34 + 1)))).bind fun x4' =>
 (bif inB v34 moved7.length then (idx moved7 v34).bind fun x5' =>
 (bif inB v34 moved7.length then (idx moved7 v34).bind fun x6' =>
 (bif inB (Int.tmod (wr .i64 x3') (wr .i64 (v34 + 1))) (moved7.set (Int.toNat v34) x4').length then (idx (moved7.set (Int.toNat v34) x4') (Int.tmod (wr .i64 x3') (wr .i64 (v34 + 1)))).bind fun x7' =>
                  L11_1 n m1 size5 pieces6 v33 (wr .i64 (v34 + 1)) v3_0 v3_1 v3_2 v3_3 v3_4 v3_5 v3_6 v3_7 ((moved7.set (Int.toNat v34) x4').set (Int.toNat (Int.tmod (wr .i64 x3') (wr .i64 (v34 + 1)))) x5')
 else none)
 else none)
 else none)
 else none))
 else none)
 else (S34 n size5 pieces6).bind fun r8' =>
 (S34 n size5 moved7).bind fun r9' =>
 (S38 n size5 pieces6).bind fun r10' =>
 (S38 n size5 moved7).bind fun r11' =>
 ((bif ((r8'.2 != 0) == false) then some (r9'.2 != 0)
 else some true)).bind fun b12' =>
 ((bif (b12' == false) then some (r10'.2 != 0)
 else some true)).bind fun b13' =>
 ((bif (b13' == false) then some (r11'.2 != 0)
 else some true)).bind fun b14' =>
 ((bif (b14' == false) then some (r8'.1 != r9'.1)
 else some true)).bind fun b15' =>
 ((bif (b15' == false) then some (r10'.1 != r11'.1)
 else some true)).bind fun b16' =>
 (bif b16' then some false
 else (S40 n size5 pieces6).bind fun r17' =>
 (S40 n size5 moved7).bind fun r18' =>
 (bif 2 == 0 then none
 else L11_2 n n.1 size5 pieces6 r17'.2 r18'.2 r17'.1 r18'.1 (wr .i64 ((wr .i64 (Int.tdiv size5 2)) + 1)) 0 moved7))) := by kernel_rfl
theorem L11_2_eq (n : Nat × Nat) (m1 : Nat) (size5 : Int) (pieces6 : List Int) (e11 : Int) (f13 : Int) (x18 : Bool) (y19 : Bool) (v121 : Int) (v122 : Int) (moved7 : List Int) : L11_2 n (m1 + 1) size5 pieces6 e11 f13 x18 y19 v121 v122 moved7 =
 (bif decide (v122 < v121) then (S42 n size5 pieces6 v122).bind fun r19' =>
 (S42 n size5 moved7 v122).bind fun r20' =>
 ((bif ((r19'.2 != 0) == false) then some (r20'.2 != 0)
 else some true)).bind fun b21' =>
 ((bif (b21' == false) then some (r19'.1 != r20'.1)
 else some true)).bind fun b22' =>
 (bif b22' then some false
 else L11_2 n m1 size5 pieces6 e11 f13 x18 y19 v121 (wr .i64 (v122 + 1)) moved7)
 else ((bif ((e11 == 0) == true) then some (f13 == 0)
 else some false)).bind fun b23' =>
 ((bif (b23' == true) then some (x18 == y19)
 else some false)).bind fun b24' =>
 ((bif (b24' == true) then (S17 n).bind fun r25' =>
 some r25'
 else some false)).bind fun b26' =>
 some b26') := by kernel_rfl
noncomputable def S11 (n : Nat × Nat) (s0 : Int × Int × Int × Int × Int × Int × Int × Int × Int × Int × Int) (v1 : Int × Int × Int × Int × Int × Int × Int × Int) : Option R11 := run (E11 n) c11 an11 rt11 (fun _ _ => none) rt11 { tm := [.agg [.int .u8 s0.1, .int .u8 s0.2.1, .int .u8 s0.2.2.1, .int .u8 s0.2.2.2.1, .int .u8 s0.2.2.2.2.1, .int .u8 s0.2.2.2.2.2.1, .int .u8 s0.2.2.2.2.2.2.1, .int .u8 s0.2.2.2.2.2.2.2.1, .int .u8 s0.2.2.2.2.2.2.2.2.1, .int .u8 s0.2.2.2.2.2.2.2.2.2.1, .int .u8 s0.2.2.2.2.2.2.2.2.2.2], .agg [.int .u8 v1.1, .int .u8 v1.2.1, .int .u8 v1.2.2.1, .int .u8 v1.2.2.2.1, .int .u8 v1.2.2.2.2.1, .int .u8 v1.2.2.2.2.2.1, .int .u8 v1.2.2.2.2.2.2.1, .int .u8 v1.2.2.2.2.2.2.2], uu, uu, uu, uu, uu, uu, uu, uu, uu, uu, uu, uu, uu, uu, uu, uu, uu, uu, uu, uu, uu, uu, uu, uu, uu, uu, uu, uu, uu, uu, uu, uu, uu, uu, uu, uu, uu, uu, uu, uu, uu, uu, uu, uu, uu, uu, uu, uu, uu, uu, uu, uu, uu, uu, uu, uu, uu, uu, uu, uu, uu, uu, uu, uu, uu, uu, uu, uu, uu, uu, uu, uu, uu, uu, uu, uu, uu, uu, uu, uu, uu, uu, uu, uu, uu, uu, uu, uu, uu, uu, uu, uu, uu, uu, uu, uu, uu, uu, uu, uu, uu, uu, uu, uu, uu, uu, uu, uu, uu, uu, uu, uu, uu, uu, uu, uu, uu, uu, uu, uu, uu, uu, uu, uu, uu, uu, uu, uu, uu, uu, uu, uu, uu, uu, uu, uu, uu, uu, uu, uu, uu, uu, uu, uu, uu, uu, uu, uu, uu, uu, uu, uu, uu, uu, uu, uu, uu, uu, uu, uu, uu, uu, uu], hp := emp }
theorem S11_eq (n : Nat × Nat) (s0 : Int × Int × Int × Int × Int × Int × Int × Int × Int × Int × Int) (v1 : Int × Int × Int × Int × Int × Int × Int × Int) : S11 n s0 v1 =
 (S48 n s0 7).bind fun r1' =>
 (S56 n r1'.2).bind fun r2' =>
    L11_1 n n.1 r1'.1 r1'.2 (r2'.length : Int) 0 v1.1 v1.2.1 v1.2.2.1 v1.2.2.2.1 v1.2.2.2.2.1 v1.2.2.2.2.2.1 v1.2.2.2.2.2.2.1 v1.2.2.2.2.2.2.2 r2' := by kernel_rfl
theorem S11_run (n : Nat × Nat) (xs : pksDen pk11) : S11 n xs.1 xs.2.1 = runG (E11 n) noScope c11 an11 (rtG rk11) (fun _ _ => none) (rtG rk11) (st0 pk11 xs Tryd.f11.ntmps) := by kernel_rfl
noncomputable def P11 (n : Nat × Nat) := phiOf pk11 rk11 (fun xs => S11 n xs.1 xs.2.1)
theorem env11 (n : Nat × Nat) : EnvOK Tryd.prog (E11 n) := envOK0 (consPhi_ok (FC17 n) call17 (consPhi_ok (FC34 n) call34 (consPhi_ok (FC38 n) call38 (consPhi_ok (FC40 n) call40 (consPhi_ok (FC42 n) call42 (consPhi_ok (FC48 n) call48 (consPhi_ok (FC56 n) call56 noPhi_ok))))))) rfl rfl
theorem par11 (n : Nat × Nat) : EnvPar (E11 n) := envPar0 (consPhi_par phiOf_Par1 (consPhi_par phiOf_Par1 (consPhi_par phiOf_Par1 (consPhi_par phiOf_Par1 (consPhi_par phiOf_Par1 (consPhi_par phiOf_Par1 (consPhi_par phiOf_Par1 noPhi_par))))))) rfl
theorem FC11 (n : Nat × Nat) : FCs Tryd.prog 11 (P11 n) := phiOf_FCs fun xs r h vs hv => FC.of_runG tabOK eqsOK (env11 n) (par11 n) mixed (fun _ p _ => noScope_ok p.1 p.2) Tryd.func11 (c := c11) (an := an11) (pks := pk11) (rks := rk11) (by kernel_rfl) (by kernel_rfl) hv ((S11_run n xs).symm.trans h)
/-D 100 -/
noncomputable def DF100_1 (n : Nat × Nat) (f1 : Int → Int → Option R100) (v0 : Int) (d3 : Int) : Option R100 :=
 (bif decide (d3 < v0) then (bif d3 == 0 then none
 else (bif ((Int.tmod v0 d3) == 0) then some false
 else f1 v0 (wr .i64 (d3 + 1))))
 else some true)
noncomputable def DL100_1 (n : Nat × Nat) (m : Nat) : Int → Int → Option R100 := Nat.rec (motive := fun _ => Int → Int → Option R100) (fun _ _ => none) (fun _ ih => DF100_1 n ih) m
theorem DL100_1_succ (n : Nat × Nat) (m : Nat) : DL100_1 n (m + 1) = DF100_1 n (DL100_1 n m) := rfl
theorem DL100_1_eq (n : Nat × Nat) (hn : n.2 = 1) : ∀ m, L100_1 n m = DL100_1 n m
  | 0 => by funext v0 d3; kernel_rfl
  | m + 1 => by
    have ih := DL100_1_eq n hn m
    funext v0 d3; refine (L100_1_eq n m v0 d3).trans ?_
    rw [DL100_1_succ]
    unfold DF100_1
    (try simp only [ih]) <;> first | with_reducible rfl | rfl
noncomputable def D100 (n : Nat × Nat) (v0 : Int) : Option R100 :=
    DL100_1 n n.1 v0 2
theorem S100_D (n : Nat × Nat) (hn : n.2 = 1) : S100 n = D100 n := by
  funext v0; refine (S100_eq n v0).trans ?_
  unfold D100
  (try simp only [DL100_1_eq n hn]) <;> first | with_reducible rfl | rfl
/-D 89 -/
noncomputable def DL89_4 (n : Nat × Nat) (f1 : Int → Int → List Int → Option R89) (f2 : Int → Int → Int → Int → List Int → Option R89) (v1 : Int) (d6 : Int) (p7 : Int) (q8 : Int) (out5 : List Int) : Option R89 :=
    f2 v1 d6 p7 (wr .i64 (q8 + 1)) out5
theorem DL89_4_eq (n : Nat × Nat) (hn : n.2 = 1) (m1 m2 : Nat) : L89_4 n m1 m2 = DL89_4 n (L89_1 n m1) (L89_3 n m1 m2) := by
  funext v1 d6 p7 q8 out5; refine ((held_eq hn _).trans (L89_4_raw n m1 m2 v1 d6 p7 q8 out5)).trans ?_
  unfold DL89_4
  (try simp only [S100_D n hn]) <;> first | with_reducible rfl | rfl
noncomputable def DF89_3 (n : Nat × Nat) (f1 : Int → Int → List Int → Option R89) (f2 : Int → Int → Int → Int → List Int → Option R89) (v1 : Int) (d6 : Int) (p7 : Int) (q8 : Int) (out5 : List Int) : Option R89 :=
 (bif decide (q8 ≤ d6) then (bif q8 == 0 then none
 else ((bif (((Int.tmod d6 q8) == 0) == true) then (D100 n q8).bind fun r1' =>
 some r1'
 else some false)).bind fun b2' =>
 (bif b2' then DL89_4 n f1 f2 v1 d6 q8 q8 out5
 else DL89_4 n f1 f2 v1 d6 p7 q8 out5))
 else (bif p7 == 0 then none
 else (bif decide (out5.length + [wr .i64 (Int.tdiv d6 p7)].length ≤ lim) then (bif 2 == 0 then none
 else f1 (wr .i64 (Int.tdiv v1 2)) (wr .i64 (Int.tdiv d6 p7)) (out5 ++ [wr .i64 (Int.tdiv d6 p7)]))
 else none)))
noncomputable def DL89_3 (n : Nat × Nat) (f1 : Int → Int → List Int → Option R89) (m : Nat) : Int → Int → Int → Int → List Int → Option R89 := Nat.rec (motive := fun _ => Int → Int → Int → Int → List Int → Option R89) (fun _ _ _ _ _ => none) (fun _ ih => DF89_3 n f1 ih) m
theorem DL89_3_succ (n : Nat × Nat) (f1 : Int → Int → List Int → Option R89) (m : Nat) : DL89_3 n f1 (m + 1) = DF89_3 n f1 (DL89_3 n f1 m) := rfl
theorem DL89_3_eq (n : Nat × Nat) (hn : n.2 = 1) (m1 : Nat) : ∀ m, L89_3 n m1 m = DL89_3 n (L89_1 n m1) m
  | 0 => by funext v1 d6 p7 q8 out5; kernel_rfl
  | m + 1 => by
    have ih := DL89_3_eq n hn m1 m
    funext v1 d6 p7 q8 out5; refine (L89_3_eq n m1 m v1 d6 p7 q8 out5).trans ?_
    rw [DL89_3_succ]
    unfold DF89_3
    (try simp only [ih, DL89_4_eq n hn, S100_D n hn]) <;> first | with_reducible rfl | rfl
noncomputable def DF89_2 (n : Nat × Nat) (f1 : Int → Int → List Int → Option R89) (f2 : Int → Int → Int → List Int → Option R89) (v1 : Int) (d6 : Int) (p7 : Int) (out5 : List Int) : Option R89 :=
 (bif p7 == 0 then none
 else (bif ((Int.tmod d6 p7) != 0) then f2 v1 d6 (wr .i64 (p7 + 1)) out5
 else (bif 2 == 0 then none
 else (bif ((Int.tmod v1 2) == 1) then DL89_3 n f1 n.1 v1 d6 p7 p7 out5
 else (bif p7 == 0 then none
 else (bif decide (out5.length + [wr .i64 (Int.tdiv d6 p7)].length ≤ lim) then (bif 2 == 0 then none
 else f1 (wr .i64 (Int.tdiv v1 2)) (wr .i64 (Int.tdiv d6 p7)) (out5 ++ [wr .i64 (Int.tdiv d6 p7)]))
 else none))))))
noncomputable def DL89_2 (n : Nat × Nat) (f1 : Int → Int → List Int → Option R89) (m : Nat) : Int → Int → Int → List Int → Option R89 := Nat.rec (motive := fun _ => Int → Int → Int → List Int → Option R89) (fun _ _ _ _ => none) (fun _ ih => DF89_2 n f1 ih) m
theorem DL89_2_succ (n : Nat × Nat) (f1 : Int → Int → List Int → Option R89) (m : Nat) : DL89_2 n f1 (m + 1) = DF89_2 n f1 (DL89_2 n f1 m) := rfl
theorem DL89_2_eq (n : Nat × Nat) (hn : n.2 = 1) (m1 : Nat) : ∀ m, L89_2 n m1 m = DL89_2 n (L89_1 n m1) m
  | 0 => by funext v1 d6 p7 out5; kernel_rfl
  | m + 1 => by
    have ih := DL89_2_eq n hn m1 m
    funext v1 d6 p7 out5; refine (L89_2_eq n m1 m v1 d6 p7 out5).trans ?_
    rw [DL89_2_succ]
    unfold DF89_2
    (try simp only [ih, DL89_4_eq n hn, DL89_3_eq n hn, S100_D n hn]) <;> first | with_reducible rfl | rfl
noncomputable def DF89_1 (n : Nat × Nat) (f1 : Int → Int → List Int → Option R89) (v1 : Int) (d6 : Int) (out5 : List Int) : Option R89 :=
 (bif decide (d6 > 1) then DL89_2 n f1 n.1 v1 d6 2 out5
 else some out5)
noncomputable def DL89_1 (n : Nat × Nat) (m : Nat) : Int → Int → List Int → Option R89 := Nat.rec (motive := fun _ => Int → Int → List Int → Option R89) (fun _ _ _ => none) (fun _ ih => DF89_1 n ih) m
theorem DL89_1_succ (n : Nat × Nat) (m : Nat) : DL89_1 n (m + 1) = DF89_1 n (DL89_1 n m) := rfl
theorem DL89_1_eq (n : Nat × Nat) (hn : n.2 = 1) : ∀ m, L89_1 n m = DL89_1 n m
  | 0 => by funext v1 d6 out5; kernel_rfl
  | m + 1 => by
    have ih := DL89_1_eq n hn m
    funext v1 d6 out5; refine (L89_1_eq n m v1 d6 out5).trans ?_
    rw [DL89_1_succ]
    unfold DF89_1
    (try simp only [ih, DL89_4_eq n hn, DL89_3_eq n hn, DL89_2_eq n hn, S100_D n hn]) <;> first | with_reducible rfl | rfl
noncomputable def D89 (n : Nat × Nat) (size0 : Int) (v1 : Int) : Option R89 :=
    DL89_1 n n.1 v1 size0 [size0]
theorem S89_D (n : Nat × Nat) (hn : n.2 = 1) : S89 n = D89 n := by
  funext size0 v1; refine (S89_eq n size0 v1).trans ?_
  unfold D89
  (try simp only [DL89_4_eq n hn, DL89_3_eq n hn, DL89_2_eq n hn, DL89_1_eq n hn, S100_D n hn]) <;> first | with_reducible rfl | rfl
/-D 48 -/
noncomputable def DF48_1 (n : Nat × Nat) (f1 : Int → List Int → Int → Int → List Int → List Int → Option R48) (size6 : Int) (v44 : List Int) (v45 : Int) (v46 : Int) (lengths7 : List Int) (out9 : List Int) : Option R48 :=
 (bif decide (v46 < v45) then (idx v44 v46).bind fun x2' =>
 (bif (lengths7.length : Int) == 0 then none
 else (bif inB (Int.tmod (wr .i64 x2') (lengths7.length : Int)) lengths7.length then (idx lengths7 (Int.tmod (wr .i64 x2') (lengths7.length : Int))).bind fun x3' =>
 (bif decide (out9.length + [x3'].length ≤ lim) then f1 size6 v44 v45 (wr .i64 (v46 + 1)) lengths7 (out9 ++ [x3'])
 else none)
 else none))
 else some (size6, out9))
noncomputable def DL48_1 (n : Nat × Nat) (m : Nat) : Int → List Int → Int → Int → List Int → List Int → Option R48 := Nat.rec (motive := fun _ => Int → List Int → Int → Int → List Int → List Int → Option R48) (fun _ _ _ _ _ _ => none) (fun _ ih => DF48_1 n ih) m
theorem DL48_1_succ (n : Nat × Nat) (m : Nat) : DL48_1 n (m + 1) = DF48_1 n (DL48_1 n m) := rfl
theorem DL48_1_eq (n : Nat × Nat) (hn : n.2 = 1) : ∀ m, L48_1 n m = DL48_1 n m
  | 0 => by funext size6 v44 v45 v46 lengths7 out9; kernel_rfl
  | m + 1 => by
    have ih := DL48_1_eq n hn m
    funext size6 v44 v45 v46 lengths7 out9; refine (L48_1_eq n m size6 v44 v45 v46 lengths7 out9).trans ?_
    rw [DL48_1_succ]
    unfold DF48_1
    (try simp only [ih, S89_D n hn]) <;> first | with_reducible rfl | rfl
noncomputable def DF48_2 (n : Nat × Nat) (f1 : Int → Int → Int → Int → Int → Int → Int → Int → Int → Int → Int → Int → Int → Int → Int → List Int → Option R48) (most1 : Int) (size6 : Int) (v27 : Int) (v28 : Int) (s2_0 : Int) (s2_1 : Int) (s2_2 : Int) (s2_3 : Int) (s2_4 : Int) (s2_5 : Int) (s2_6 : Int) (s2_7 : Int) (s2_8 : Int) (s2_9 : Int) (s2_10 : Int) (lengths7 : List Int) : Option R48 :=
 (bif decide (v28 < v27) then (bif decide (lengths7.length + [wr .i64 (v28 + 1)].length ≤ lim) then f1 most1 size6 v27 (wr .i64 (v28 + 1)) s2_0 s2_1 s2_2 s2_3 s2_4 s2_5 s2_6 s2_7 s2_8 s2_9 s2_10 (lengths7 ++ [wr .i64 (v28 + 1)])
 else none)
 else (bif (wr .i64 (most1 + 1)) == 0 then none
 else (bif bounds none (some (Int.tmod (wr .i64 s2_1) (wr .i64 (most1 + 1)))) none 8 then DL48_1 n n.1 size6 ([s2_3, s2_4, s2_5, s2_6, s2_7, s2_8, s2_9, s2_10].take (Int.toNat (Int.tmod (wr .i64 s2_1) (wr .i64 (most1 + 1))))) (([s2_3, s2_4, s2_5, s2_6, s2_7, s2_8, s2_9, s2_10].take (Int.toNat (Int.tmod (wr .i64 s2_1) (wr .i64 (most1 + 1))))).length : Int) 0 lengths7 []
 else none)))
noncomputable def DL48_2 (n : Nat × Nat) (m : Nat) : Int → Int → Int → Int → Int → Int → Int → Int → Int → Int → Int → Int → Int → Int → Int → List Int → Option R48 := Nat.rec (motive := fun _ => Int → Int → Int → Int → Int → Int → Int → Int → Int → Int → Int → Int → Int → Int → Int → List Int → Option R48) (fun _ _ _ _ _ _ _ _ _ _ _ _ _ _ _ _ => none) (fun _ ih => DF48_2 n ih) m
theorem DL48_2_succ (n : Nat × Nat) (m : Nat) : DL48_2 n (m + 1) = DF48_2 n (DL48_2 n m) := rfl
theorem DL48_2_eq (n : Nat × Nat) (hn : n.2 = 1) : ∀ m, L48_2 n m = DL48_2 n m
  | 0 => by funext most1 size6 v27 v28 s2_0 s2_1 s2_2 s2_3 s2_4 s2_5 s2_6 s2_7 s2_8 s2_9 s2_10 lengths7; kernel_rfl
  | m + 1 => by
    have ih := DL48_2_eq n hn m
    funext most1 size6 v27 v28 s2_0 s2_1 s2_2 s2_3 s2_4 s2_5 s2_6 s2_7 s2_8 s2_9 s2_10 lengths7; refine (L48_2_eq n m most1 size6 v27 v28 s2_0 s2_1 s2_2 s2_3 s2_4 s2_5 s2_6 s2_7 s2_8 s2_9 s2_10 lengths7).trans ?_
    rw [DL48_2_succ]
    unfold DF48_2
    (try simp only [ih, DL48_1_eq n hn, S89_D n hn]) <;> first | with_reducible rfl | rfl
noncomputable def D48 (n : Nat × Nat) (s0 : Int × Int × Int × Int × Int × Int × Int × Int × Int × Int × Int) (most1 : Int) : Option R48 :=
 (bif 24 == 0 then none
 else (bif 2 == 0 then none
 else (bif ((Int.tmod s0.2.2.1 2) == 1) then (bif 2 == 0 then none
 else (D89 n (wr .i64 (1 + (Int.tmod (wr .i64 s0.1) 24))) (wr .i64 (Int.tdiv (wr .i64 s0.2.2.1) 2))).bind fun r1' =>
 (bif (wr .i64 (most1 + 1)) == 0 then none
 else (bif bounds none (some (Int.tmod (wr .i64 s0.2.1) (wr .i64 (most1 + 1)))) none 8 then DL48_1 n n.1 (wr .i64 (1 + (Int.tmod (wr .i64 s0.1) 24))) ([s0.2.2.2.1, s0.2.2.2.2.1, s0.2.2.2.2.2.1, s0.2.2.2.2.2.2.1, s0.2.2.2.2.2.2.2.1, s0.2.2.2.2.2.2.2.2.1, s0.2.2.2.2.2.2.2.2.2.1, s0.2.2.2.2.2.2.2.2.2.2].take (Int.toNat (Int.tmod (wr .i64 s0.2.1) (wr .i64 (most1 + 1))))) (([s0.2.2.2.1, s0.2.2.2.2.1, s0.2.2.2.2.2.1, s0.2.2.2.2.2.2.1, s0.2.2.2.2.2.2.2.1, s0.2.2.2.2.2.2.2.2.1, s0.2.2.2.2.2.2.2.2.2.1, s0.2.2.2.2.2.2.2.2.2.2].take (Int.toNat (Int.tmod (wr .i64 s0.2.1) (wr .i64 (most1 + 1))))).length : Int) 0 r1' []
 else none)))
 else DL48_2 n n.1 most1 (wr .i64 (1 + (Int.tmod (wr .i64 s0.1) 24))) (wr .i64 (1 + (Int.tmod (wr .i64 s0.1) 24))) 0 s0.1 s0.2.1 s0.2.2.1 s0.2.2.2.1 s0.2.2.2.2.1 s0.2.2.2.2.2.1 s0.2.2.2.2.2.2.1 s0.2.2.2.2.2.2.2.1 s0.2.2.2.2.2.2.2.2.1 s0.2.2.2.2.2.2.2.2.2.1 s0.2.2.2.2.2.2.2.2.2.2 [])))
theorem S48_D (n : Nat × Nat) (hn : n.2 = 1) : S48 n = D48 n := by
  funext s0 most1; refine (S48_eq n s0 most1).trans ?_
  unfold D48
  (try simp only [DL48_1_eq n hn, DL48_2_eq n hn, S89_D n hn]) <;> first | with_reducible rfl | rfl
/-D 11 -/
noncomputable def DF11_2 (n : Nat × Nat) (f1 : Int → List Int → Int → Int → Bool → Bool → Int → Int → List Int → Option R11) (size5 : Int) (pieces6 : List Int) (e11 : Int) (f13 : Int) (x18 : Bool) (y19 : Bool) (v121 : Int) (v122 : Int) (moved7 : List Int) : Option R11 :=
 (bif decide (v122 < v121) then (D42 n size5 pieces6 v122).bind fun r19' =>
 (D42 n size5 moved7 v122).bind fun r20' =>
 ((bif ((r19'.2 != 0) == false) then some (r20'.2 != 0)
 else some true)).bind fun b21' =>
 ((bif (b21' == false) then some (r19'.1 != r20'.1)
 else some true)).bind fun b22' =>
 (bif b22' then some false
 else f1 size5 pieces6 e11 f13 x18 y19 v121 (wr .i64 (v122 + 1)) moved7)
 else ((bif ((e11 == 0) == true) then some (f13 == 0)
 else some false)).bind fun b23' =>
 ((bif (b23' == true) then some (x18 == y19)
 else some false)).bind fun b24' =>
 ((bif (b24' == true) then (D17 n).bind fun r25' =>
 some r25'
 else some false)).bind fun b26' =>
 some b26')
noncomputable def DL11_2 (n : Nat × Nat) (m : Nat) : Int → List Int → Int → Int → Bool → Bool → Int → Int → List Int → Option R11 := Nat.rec (motive := fun _ => Int → List Int → Int → Int → Bool → Bool → Int → Int → List Int → Option R11) (fun _ _ _ _ _ _ _ _ _ => none) (fun _ ih => DF11_2 n ih) m
theorem DL11_2_succ (n : Nat × Nat) (m : Nat) : DL11_2 n (m + 1) = DF11_2 n (DL11_2 n m) := rfl
theorem DL11_2_eq (n : Nat × Nat) (hn : n.2 = 1) : ∀ m, L11_2 n m = DL11_2 n m
  | 0 => by funext size5 pieces6 e11 f13 x18 y19 v121 v122 moved7; kernel_rfl
  | m + 1 => by
    have ih := DL11_2_eq n hn m
    funext size5 pieces6 e11 f13 x18 y19 v121 v122 moved7; refine (L11_2_eq n m size5 pieces6 e11 f13 x18 y19 v121 v122 moved7).trans ?_
    rw [DL11_2_succ]
    unfold DF11_2
    (try simp only [ih, S17_D n hn, S34_D n hn, S38_D n hn, S40_D n hn, S42_D n hn, S48_D n hn, S56_D n hn]) <;> first | with_reducible rfl | rfl
noncomputable def DF11_1 (n : Nat × Nat) (f1 : Int → List Int → Int → Int → Int → Int → Int → Int → Int → Int → Int → Int → List Int → Option R11) (size5 : Int) (pieces6 : List Int) (v33 : Int) (v34 : Int) (v3_0 : Int) (v3_1 : Int) (v3_2 : Int) (v3_3 : Int) (v3_4 : Int) (v3_5 : Int) (v3_6 : Int) (v3_7 : Int) (moved7 : List Int) : Option R11 :=
 (bif decide (v34 < v33) then (bif inB v34 8 then (idx [v3_0, v3_1, v3_2, v3_3, v3_4, v3_5, v3_6, v3_7] v34).bind fun x3' =>
 (bif (wr .i64 (v34 + 1)) == 0 then none
 else (bif inB (Int.tmod (wr .i64 x3') (wr .i64 (v34 + 1))) moved7.length then (idx moved7 (Int.tmod (wr .i64 x3') (wr .i64 (v34 + 1)))).bind fun x4' =>
 (bif inB v34 moved7.length then (idx moved7 v34).bind fun x5' =>
 (bif inB v34 moved7.length then (idx moved7 v34).bind fun x6' =>
 (bif inB (Int.tmod (wr .i64 x3') (wr .i64 (v34 + 1))) (moved7.set (Int.toNat v34) x4').length then (idx (moved7.set (Int.toNat v34) x4') (Int.tmod (wr .i64 x3') (wr .i64 (v34 + 1)))).bind fun x7' =>
                  f1 size5 pieces6 v33 (wr .i64 (v34 + 1)) v3_0 v3_1 v3_2 v3_3 v3_4 v3_5 v3_6 v3_7 ((moved7.set (Int.toNat v34) x4').set (Int.toNat (Int.tmod (wr .i64 x3') (wr .i64 (v34 + 1)))) x5')
 else none)
 else none)
 else none)
 else none))
 else none)
 else (D34 n size5 pieces6).bind fun r8' =>
 (D34 n size5 moved7).bind fun r9' =>
 (D38 n size5 pieces6).bind fun r10' =>
 (D38 n size5 moved7).bind fun r11' =>
 ((bif ((r8'.2 != 0) == false) then some (r9'.2 != 0)
 else some true)).bind fun b12' =>
 ((bif (b12' == false) then some (r10'.2 != 0)
 else some true)).bind fun b13' =>
 ((bif (b13' == false) then some (r11'.2 != 0)
 else some true)).bind fun b14' =>
 ((bif (b14' == false) then some (r8'.1 != r9'.1)
 else some true)).bind fun b15' =>
 ((bif (b15' == false) then some (r10'.1 != r11'.1)
 else some true)).bind fun b16' =>
 (bif b16' then some false
 else (D40 n size5 pieces6).bind fun r17' =>
 (D40 n size5 moved7).bind fun r18' =>
 (bif 2 == 0 then none
 else DL11_2 n n.1 size5 pieces6 r17'.2 r18'.2 r17'.1 r18'.1 (wr .i64 ((wr .i64 (Int.tdiv size5 2)) + 1)) 0 moved7)))
noncomputable def DL11_1 (n : Nat × Nat) (m : Nat) : Int → List Int → Int → Int → Int → Int → Int → Int → Int → Int → Int → Int → List Int → Option R11 := Nat.rec (motive := fun _ => Int → List Int → Int → Int → Int → Int → Int → Int → Int → Int → Int → Int → List Int → Option R11) (fun _ _ _ _ _ _ _ _ _ _ _ _ _ => none) (fun _ ih => DF11_1 n ih) m
theorem DL11_1_succ (n : Nat × Nat) (m : Nat) : DL11_1 n (m + 1) = DF11_1 n (DL11_1 n m) := rfl
theorem DL11_1_eq (n : Nat × Nat) (hn : n.2 = 1) : ∀ m, L11_1 n m = DL11_1 n m
  | 0 => by funext size5 pieces6 v33 v34 v3_0 v3_1 v3_2 v3_3 v3_4 v3_5 v3_6 v3_7 moved7; kernel_rfl
  | m + 1 => by
    have ih := DL11_1_eq n hn m
    funext size5 pieces6 v33 v34 v3_0 v3_1 v3_2 v3_3 v3_4 v3_5 v3_6 v3_7 moved7; refine (L11_1_eq n m size5 pieces6 v33 v34 v3_0 v3_1 v3_2 v3_3 v3_4 v3_5 v3_6 v3_7 moved7).trans ?_
    rw [DL11_1_succ]
    unfold DF11_1
    (try simp only [ih, DL11_2_eq n hn, S17_D n hn, S34_D n hn, S38_D n hn, S40_D n hn, S42_D n hn, S48_D n hn, S56_D n hn]) <;> first | with_reducible rfl | rfl
noncomputable def D11 (n : Nat × Nat) (s0 : Int × Int × Int × Int × Int × Int × Int × Int × Int × Int × Int) (v1 : Int × Int × Int × Int × Int × Int × Int × Int) : Option R11 :=
 (D48 n s0 7).bind fun r1' =>
 (D56 n r1'.2).bind fun r2' =>
    DL11_1 n n.1 r1'.1 r1'.2 (r2'.length : Int) 0 v1.1 v1.2.1 v1.2.2.1 v1.2.2.2.1 v1.2.2.2.2.1 v1.2.2.2.2.2.1 v1.2.2.2.2.2.2.1 v1.2.2.2.2.2.2.2 r2'
theorem S11_D (n : Nat × Nat) (hn : n.2 = 1) : S11 n = D11 n := by
  funext s0 v1; refine (S11_eq n s0 v1).trans ?_
  unfold D11
  (try simp only [DL11_2_eq n hn, DL11_1_eq n hn, S17_D n hn, S34_D n hn, S38_D n hn, S40_D n hn, S42_D n hn, S48_D n hn, S56_D n hn]) <;> first | with_reducible rfl | rfl
/-D 13 -/
end Go.Proofs.YtgmonagekfjnmaaDoor
set_option linter.unusedVariables false
set_option linter.unusedSimpArgs false
namespace Go.Proofs.YtgmonagekfjnmaaDoor
open Go.Vi
abbrev N : Nat × Nat := (1000000, 1)
theorem works_eq : D17 N = some true := by kernel_rfl
end Go.Proofs.YtgmonagekfjnmaaDoor
set_option linter.unusedVariables false
set_option linter.unusedSimpArgs false
set_option maxRecDepth 100000
namespace Go.Proofs.YtgmonagekfjnmaaDoor
open Go.Vi
noncomputable def c3 : Code := bodyOf Tryd.f3
/-D 16 -/
/-D 72 -/
/-D 27 -/
/-D 67 -/
/-D 68 -/
/-D 29 -/
/-D 19 -/
/-D 21 -/
/-D 73 -/
/-D 74 -/
/-D 23 -/
/-D 3 -/
end Go.Proofs.YtgmonagekfjnmaaDoor
set_option linter.unusedVariables false
set_option linter.unusedSimpArgs false
namespace Go.Proofs.YtgmonagekfjnmaaDoor
open Go.Vi
theorem hN1 : 1000 ≤ N.1 := by decide
theorem wr_ok {x : Int} (h1 : -9223372036854775808 ≤ x) (h2 : x ≤ 9223372036854775807) : wr .i64 x = x := by
  have : wr .i64 x = (x + 9223372036854775808) % 18446744073709551616 - 9223372036854775808 := by
    simp only [wr, IntKind.wrap, IntKind.signed, IntKind.bits]
    simp
    split <;> omega
  rw [this]
  omega
theorem wr_succ {k : Nat} (h : k < 1000000) : wr .i64 ((k : Int) + 1) = ((k + 1 : Nat) : Int) := by
  rw [wr_ok (by omega) (by omega)]; omega
theorem idx_nat {α : Type} {l : List α} {k : Nat} (h : k < l.length) : idx l (k : Int) = some l[k] := by
  unfold idx
  rw [if_pos (by omega), Int.toNat_natCast, List.getElem?_eq_getElem h]
theorem idx_int {α : Type} {l : List α} {k : Nat} {i : Int} (hi : i = k) (h : k < l.length) : idx l i = some l[k] := by
  subst hi
  exact idx_nat h
theorem drop_cons {α : Type} {l : List α} {k : Nat} (h : k < l.length) : l.drop k = l[k] :: l.drop (k + 1) := List.drop_eq_getElem_cons h
theorem inB_nat {k n : Nat} (h : k < n) : inB (k : Int) n = true := by
  unfold inB
  simp [h]
theorem lim_dec {α : Type} {a : Nat} {x : α} (h : a < 1000000) : decide (a + [x].length ≤ lim) = true := decide_eq_true (by simp [lim]; omega)
theorem dlt_t {a b : Nat} (h : a < b) : decide ((a : Int) < (b : Int)) = true := decide_eq_true (by omega)
theorem dlt_f {a b : Nat} (h : ¬ a < b) : decide ((a : Int) < (b : Int)) = false := decide_eq_false (by omega)
theorem take_snoc {α : Type} {l : List α} {k : Nat} (h : k < l.length) : l.take (k + 1) = l.take k ++ [l[k]] := (List.take_append_getElem h).symm
/-- The first place at which something holds, or -1. -/
def fnd (q : Int → Bool) : Nat → List Int → Int
  | _, [] => -1
  | k, x :: l => if q x then (k : Int) else fnd q (k + 1) l
theorem fnd_bnd (q : Int → Bool) : ∀ (l : List Int) (k : Nat), fnd q k l = -1 ∧ (∀ x ∈ l, q x = false) ∨ (k ≤ fnd q k l ∧ fnd q k l < k + l.length ∧ ∃ x ∈ l, q x = true)
  | [], k => by simp [fnd]
  | x :: l, k => by
    unfold fnd
    by_cases h : q x = true
    · rw [if_pos h]
      exact .inr ⟨by omega, by simp; omega, x, by simp, h⟩
    · rw [if_neg h]
      rcases fnd_bnd q l (k + 1) with ⟨h1, h2⟩ | ⟨h1, h2, y, hy, hq⟩
      · exact .inl ⟨h1, fun y hy => (List.mem_cons.1 hy).elim (fun e => by rw [e]; simpa using h) (fun hy => h2 y hy)⟩
      · exact .inr ⟨by omega, by simp; omega, y, by simp [hy], hq⟩
theorem fnd_ge (q : Int → Bool) (l : List Int) (k : Nat) : (0 ≤ fnd q k l) ↔ ∃ x ∈ l, q x = true := by
  rcases fnd_bnd q l k with ⟨h1, h2⟩ | ⟨h1, h2, h3⟩
  · constructor
    · intro h; omega
    · rintro ⟨x, hx, hq⟩; rw [h2 x hx] at hq; cases hq
  · exact ⟨fun _ => h3, fun _ => by omega⟩
/-- A job's error. -/
def BadP (sz p : Int) : Prop := p < 1 ∨ sz < p
instance (sz p : Int) : Decidable (BadP sz p) := inferInstanceAs (Decidable (_ ∨ _))
def chk (sz : Int) (ps : List Int) : Int := if sz < 1 ∨ 24 < sz then 1 else if 8 < ps.length then 3 else if ∃ p ∈ ps, BadP sz p then 1 else 0
structure Job (sz : Int) (ps : List Int) : Prop where
  lo : 1 ≤ sz
  hi : sz ≤ 24
  len : ps.length ≤ 8
  ok : ∀ p ∈ ps, 1 ≤ p ∧ p ≤ sz
theorem chk_job {sz : Int} {ps : List Int} : chk sz ps = 0 ↔ Job sz ps := by
  unfold chk
  constructor
  · intro h
    split at h
    · omega
    · split at h
      · omega
      · split at h
        · omega
        · rename_i h1 h2 h3
          refine ⟨by omega, by omega, by omega, fun p hp => ?_⟩
          have : ¬ BadP sz p := fun hb => h3 ⟨p, hp, hb⟩
          unfold BadP at this
          omega
  · intro h
    have := h.lo
    have := h.hi
    have := h.len
    rw [if_neg (by omega), if_neg (by omega), if_neg]
    rintro ⟨p, hp, hb⟩
    have := h.ok p hp
    unfold BadP at hb
    omega
theorem bad_eq (n : Nat × Nat) (p sz : Int) : D76 n p sz = some (decide (BadP sz p)) := by
  unfold D76 BadP
  by_cases h : p < 1
  · rw [decide_eq_true h]; simp [h]
  · rw [decide_eq_false h]; simp [h]
theorem idxf_loop (n : Nat × Nat) (l : List Int) (sz : Int) (hs : l.length < 100000) : ∀ (m k : Nat), k ≤ l.length → l.length - k < m → DL79c76_1 n m l sz (l.length : Int) (k : Int) = some (fnd (fun p => decide (BadP sz p)) k (l.drop k))
  | 0, k, _, h => by omega
  | m + 1, k, hk, h => by
    rw [DL79c76_1_succ]
    unfold DF79c76_1
    by_cases hlt : k < l.length
    · have ih := idxf_loop n l sz hs m (k + 1) (by omega) (by omega)
      rw [dlt_t hlt, cond_true, idx_nat hlt, Option.bind_some, bad_eq, Option.bind_some, wr_succ (by omega), ih, drop_cons hlt]
      generalize l.drop (k + 1) = t at *
      generalize l[k] = x at *
      unfold fnd
      by_cases e : BadP sz x
      · simp [e]
      · simp only [e, decide_false, cond_false, Bool.false_eq_true, if_false]
        cases t <;> rfl
    · rw [dlt_f hlt, cond_false, List.drop_of_length_le (by omega)]
      rfl
theorem anyb_eq {n : Nat × Nat} (l : List Int) (sz : Int) (hs : l.length < n.1) (hs2 : l.length < 100000) : D75c76 n l sz = some (decide (∃ p ∈ l, BadP sz p)) := by
  unfold D75c76 D79c76
  have := idxf_loop n l sz hs2 n.1 0 (by omega) (by omega)
  rw [show ((0 : Nat) : Int) = 0 from rfl, List.drop_zero] at this
  rw [this, Option.bind_some]
  congr 1
  apply decide_eq_decide.2
  have := fnd_ge (fun p => decide (BadP sz p)) l 0
  simp only [decide_eq_true_eq] at this
  exact this
theorem Check_eq {n : Nat × Nat} (hn : 1000 ≤ n.1) (sz : Int) (ps : List Int) : D26 n sz ps = some (chk sz ps) := by
  unfold D26 chk
  by_cases h1 : sz < 1
  · rw [decide_eq_true h1, if_pos (.inl h1)]; rfl
  · rw [decide_eq_false h1]
    by_cases h2 : 24 < sz
    · rw [if_pos (.inr h2), decide_eq_true (show sz > 24 from h2)]; rfl
    · rw [if_neg (by omega), decide_eq_false (show ¬ sz > 24 from h2)]
      simp only [beq_self_eq_true, cond_true, Option.bind_some, cond_false]
      by_cases h3 : 8 < ps.length
      · rw [if_pos h3, decide_eq_true (show (ps.length : Int) > 8 by omega), cond_true]
      · rw [if_neg h3, decide_eq_false (show ¬ (ps.length : Int) > 8 by omega), cond_false, anyb_eq ps sz (by omega) (by omega), Option.bind_some]
        by_cases h4 : ∃ p ∈ ps, BadP sz p
        · rw [if_pos h4, decide_eq_true h4, cond_true]
        · rw [if_neg h4, decide_eq_false h4, cond_false]
/-- How many sheets a plan has. -/
def mny (l : List Int) : Int := l.foldl (fun a s => max a (s + 1)) 0
/-- How much of a sheet is used. -/
def usd : List Int → List Int → Int → Int
  | p :: ps, x :: l, s => (if x = s then p else 0) + usd ps l s
  | _, _, _ => 0
theorem fold_mny : ∀ (l : List Int) (a : Int), a ≤ l.foldl (fun a s => max a (s + 1)) a ∧ (∀ x ∈ l, x < l.foldl (fun a s => max a (s + 1)) a)
  | [], a => by simp
  | x :: l, a => by
    rw [List.foldl_cons]
    obtain ⟨h1, h2⟩ := fold_mny l (max a (x + 1))
    refine ⟨by omega, fun y hy => ?_⟩
    rcases List.mem_cons.1 hy with rfl | hy
    · omega
    · exact h2 y hy
theorem mny_nn (l : List Int) : 0 ≤ mny l := (fold_mny l 0).1
theorem mny_lt {l : List Int} {x : Int} (h : x ∈ l) : x < mny l := (fold_mny l 0).2 x h
theorem mny_snoc (l : List Int) (x : Int) : mny (l ++ [x]) = max (mny l) (x + 1) := by simp [mny, List.foldl_append]
theorem mny_nil : mny [] = 0 := rfl
theorem usd_snoc (s x p : Int) : ∀ {ps l : List Int}, ps.length = l.length → usd (ps ++ [p]) (l ++ [x]) s = usd ps l s + if x = s then p else 0
  | [], [], _ => by simp [usd]
  | q :: ps, y :: l, h => by
    simp only [List.cons_append, usd]
    rw [usd_snoc s x p (by simpa using h)]
    omega
  | [], _ :: _, h => by simp at h
  | _ :: _, [], h => by simp at h
theorem usd_none {s : Int} : ∀ {ps l : List Int}, s ∉ l → usd ps l s = 0
  | [], [], _ => rfl
  | [], _ :: _, _ => rfl
  | _ :: _, [], _ => rfl
  | q :: ps, y :: l, h => by
    simp only [List.mem_cons, not_or] at h
    simp only [usd, if_neg (fun e => h.1 (Eq.symm e)), usd_none h.2]
    omega
theorem usd_nn {s : Int} : ∀ {ps l : List Int}, (∀ p ∈ ps, 0 ≤ p) → 0 ≤ usd ps l s
  | [], _, _ => by simp [usd]
  | _ :: _, [], _ => by simp [usd]
  | q :: ps, y :: l, h => by
    have h1 := h q (by simp)
    have h2 := usd_nn (s := s) (ps := ps) (l := l) (fun p hp => h p (by simp [hp]))
    simp only [usd]
    split <;> omega
/-- The error of sheets' order. -/
def oer : Int → List Int → Int
  | _, [] => 0
  | m, x :: l => if x < 0 then 2 else if m < x then 7 else oer (max m (x + 1)) l
/-- What is left of each sheet. -/
def lf (sz : Int) (ps l : List Int) : List Int := (List.range (mny l).toNat).map fun s : Nat => sz - usd ps l (s : Int)
theorem lf_len (sz : Int) (ps l : List Int) : ((lf sz ps l).length : Int) = mny l := by
  have := mny_nn l
  simp [lf]
  omega
theorem lf_get {sz : Int} {ps l : List Int} {s : Nat} (h : s < (lf sz ps l).length) : (lf sz ps l)[s] = sz - usd ps l (s : Int) := by simp [lf]
theorem lf_step (sz p x : Int) {ps l : List Int} (hl : ps.length = l.length) (h0 : 0 ≤ x) (h1 : x ≤ mny l) :
    lf sz (ps ++ [p]) (l ++ [x]) = (if x = mny l then lf sz ps l ++ [sz] else lf sz ps l).set x.toNat (sz - usd ps l x - p) := by
  have hm := mny_nn l
  have hll := lf_len sz ps l
  apply List.ext_getElem
  · have := lf_len sz (ps ++ [p]) (l ++ [x])
    rw [mny_snoc] at this
    rw [List.length_set]
    split
    · simp only [List.length_append, List.length_cons, List.length_nil]; omega
    · omega
  · intro s h2 h3
    rw [lf_get h2, usd_snoc _ _ _ hl, List.getElem_set]
    by_cases e : x.toNat = s
    · rw [if_pos e, if_pos (show x = (s : Int) by omega), show (s : Int) = x by omega]
      omega
    · rw [if_neg e, if_neg (show ¬ x = (s : Int) by omega)]
      rw [List.length_set] at h3
      split at h3
      · rename_i hx
        simp only [List.length_append, List.length_cons, List.length_nil] at h3
        have h4 : s < (lf sz ps l).length := by omega
        simp only [if_pos hx]
        rw [List.getElem_append_left h4, lf_get h4]
        omega
      · rename_i hx
        simp only [if_neg hx]
        rw [lf_get h3]
        omega
theorem bounds_hi {k n : Nat} (h : k ≤ n) : bounds none (some (k : Int)) none n = true := by
  unfold bounds
  simp
  omega
/-- A plan that is one. -/
structure Pln (sz : Int) (ps l : List Int) : Prop where
  job : Job sz ps
  len : l.length = ps.length
  ord : oer 0 l = 0
  fit : ∀ x ∈ l, usd ps l x ≤ sz
theorem oer_bnd : ∀ (l : List Int) (m : Int), 0 ≤ m → oer m l = 0 → (∀ x ∈ l, 0 ≤ x ∧ x < m + l.length) ∧ l.foldl (fun a s => max a (s + 1)) m ≤ m + l.length
  | [], m, _, _ => by simp
  | x :: l, m, hm, h => by
    unfold oer at h
    split at h
    · omega
    · split at h
      · omega
      · obtain ⟨h1, h2⟩ := oer_bnd l _ (by omega) h
        rw [List.foldl_cons, List.length_cons]
        refine ⟨fun y hy => ?_, by omega⟩
        rcases List.mem_cons.1 hy with rfl | hy
        · omega
        · have := h1 y hy
          omega
theorem Pln.rng {sz : Int} {ps l : List Int} (h : Pln sz ps l) : ∀ x ∈ l, 0 ≤ x ∧ x ≤ 100000 := fun x hx => by
  have := (oer_bnd l 0 (by omega) h.ord).1 x hx
  have := h.job.len
  have := h.len
  omega
theorem Pln.mny {sz : Int} {ps l : List Int} (h : Pln sz ps l) : mny l ≤ 8 := by
  have h1 := (oer_bnd l 0 (by omega) h.ord).2
  have := h.job.len
  have := h.len
  unfold Proofs.YtgmonagekfjnmaaDoor.mny
  omega
/-- The groups' numbers, put where their pieces are: an error, or none, and what there is. -/
def pin (g : Int) : List Int → List Int → Int × List Int
  | [], out => (0, out)
  | x :: r, out => if x < 0 ∨ (out.length : Int) ≤ x then (2, out) else if 0 ≤ out.getD x.toNat 0 then (6, out) else pin g r (out.set x.toNat g)
/-- Numbers by their first places. -/
def tid : List Int → List Int → List Int
  | _, [] => []
  | met, x :: l => if x ∈ met then fnd (fun y => x == y) 0 met :: tid met l else (met.length : Int) :: tid (met ++ [x]) l
theorem tid_len : ∀ (l met : List Int), (tid met l).length = l.length
  | [], _ => rfl
  | x :: l, met => by
    unfold tid
    split <;> simp [tid_len l]
theorem fnd_mem (v : Int) (l : List Int) : (0 ≤ fnd (fun y => v == y) 0 l) ↔ v ∈ l := by
  rw [fnd_ge]
  simp
theorem rep_eq : ∀ k ≤ 8, D69 N [-1] ((k : Nat) : Int) = some (List.replicate k (-1))
  | 0, _ => by kernel_rfl
  | 1, _ => by kernel_rfl
  | 2, _ => by kernel_rfl
  | 3, _ => by kernel_rfl
  | 4, _ => by kernel_rfl
  | 5, _ => by kernel_rfl
  | 6, _ => by kernel_rfl
  | 7, _ => by kernel_rfl
  | 8, _ => by kernel_rfl
  | k + 9, h => by omega
end Go.Proofs.YtgmonagekfjnmaaDoor
/-
  Sheets: the search, for any function that is handed plans.
-/
set_option linter.unusedVariables false
set_option linter.unusedSimpArgs false
namespace Go.Proofs.YtgmonagekfjnmaaDoor
open Go.Vi
/-! All plans with at most so many sheets that begin with some numbers, in ascending order. -/
def rm (sz : Int) (L : List Int) (s : Nat) : Int := L.getD s sz
def up (sz : Int) (L : List Int) (s : Nat) (p : Int) : List Int := (if s = L.length then L ++ [sz] else L).set s (rm sz L s - p)
def pl (sz : Int) (mo : Nat) : List Int → List Int → List Int → List (List Int)
  | [], b, _ => [b]
  | p :: r, b, L => (List.range' 0 (min (L.length + 1) mo)).flatMap fun s => if p ≤ rm sz L s then pl sz mo r (b ++ [(s : Int)]) (up sz L s p) else []
/-- A function handed all plans, as long as it returns true. -/
def fv {V : Type} (c : List Int → V → Bool × V) : List (List Int) → V → Bool × V
  | [], v => (true, v)
  | q :: r, v => if (c q v).1 then fv c r (c q v).2 else (false, (c q v).2)
theorem fv_app {V : Type} (c : List Int → V → Bool × V) (b : List (List Int)) : ∀ (a : List (List Int)) (v : V), fv c (a ++ b) v = if (fv c a v).1 then fv c b (fv c a v).2 else (false, (fv c a v).2)
  | [], v => by simp [fv]
  | q :: r, v => by
    have e1 : ∀ l, fv c (q :: l) v = if (c q v).1 then fv c l (c q v).2 else (false, (c q v).2) := fun _ => rfl
    rw [List.cons_append, e1, e1]
    by_cases h : (c q v).1 = true
    · rw [if_pos h, if_pos h, fv_app c b r]
    · rw [if_neg h, if_neg h]; rfl
/-! The search's three places. -/
section
variable {V : Type}
abbrev SR (V : Type) := Unit × V × Unit
abbrev FN (V : Type) := Int → List Int → Int → Int → V → List Int → List Int → Option (SR V)
def lpF (b x f2 : FN V) : FN V := fun size0 pieces1 most2 i10 v plan8 left9 =>
    (bif inB i10 plan8.length then (idx plan8 i10).bind fun x21' =>
      (bif inB i10 plan8.length then (idx plan8 i10).bind fun x22' =>
        (bif inB i10 (plan8.set (Int.toNat i10) (wr .i64 (x21' + 1))).length then (idx (plan8.set (Int.toNat i10) (wr .i64 (x21' + 1))) i10).bind fun x23' =>
          ((bif (decide (x23' ≥ most2) == false) then ((bif (decide (x23' > 0) == true) then (bif inB (wr .i64 (x23' - 1)) left9.length then (idx left9 (wr .i64 (x23' - 1))).bind fun x24' =>
                    some (x24' == size0)
                  else none)
                else some false)).bind fun b25' =>
              some b25'
            else some true)).bind fun b26' =>
          (bif b26' then (bif inB i10 (plan8.set (Int.toNat i10) (wr .i64 (x21' + 1))).length then (idx (plan8.set (Int.toNat i10) (wr .i64 (x21' + 1))) i10).bind fun x27' =>
              b size0 pieces1 most2 i10 v ((plan8.set (Int.toNat i10) (wr .i64 (x21' + 1))).set (Int.toNat i10) (-1)) left9
            else none)
          else (bif inB x23' left9.length then (idx left9 x23').bind fun x28' =>
              (idx pieces1 i10).bind fun x29' =>
              (bif decide (x28' ≥ x29') then (bif inB x23' left9.length then (idx left9 x23').bind fun x30' =>
                  (idx pieces1 i10).bind fun x31' =>
                  (bif inB x23' left9.length then (idx left9 x23').bind fun x32' =>
                    x size0 pieces1 most2 (wr .i64 (i10 + 1)) v (plan8.set (Int.toNat i10) (wr .i64 (x21' + 1))) (left9.set (Int.toNat x23') (wr .i64 (x30' - x31')))
                  else none)
                else none)
              else f2 size0 pieces1 most2 i10 v (plan8.set (Int.toNat i10) (wr .i64 (x21' + 1))) left9)
            else none))
        else none)
      else none)
    else none)
def LP (b x : FN V) : Nat → FN V
  | 0 => fun _ _ _ _ _ _ _ => none
  | q + 1 => lpF b x (LP b x q)
def bkF (x : FN V) : FN V := fun size0 pieces1 most2 i10 v plan8 left9 =>
    (bif decide (wr .i64 (i10 - 1) < 0) then some ((), v, ())
    else (bif inB (wr .i64 (i10 - 1)) plan8.length then (idx plan8 (wr .i64 (i10 - 1))).bind fun x4' =>
        (bif inB x4' left9.length then (idx left9 x4').bind fun x5' =>
          (idx pieces1 (wr .i64 (i10 - 1))).bind fun x6' =>
          (bif inB x4' left9.length then (idx left9 x4').bind fun x7' =>
            x size0 pieces1 most2 (wr .i64 (i10 - 1)) v plan8 (left9.set (Int.toNat x4') (wr .i64 (x5' + x6')))
          else none)
        else none)
      else none))
def nxF (C : List Int → V → Option (Bool × List Int × V × Unit)) (q0 : Nat) (b x : FN V) : FN V := fun size0 pieces1 most2 i10 v plan8 left9 =>
    (bif (i10 == (pieces1.length : Int)) then (C plan8 v).bind fun r20' =>
      (bif Nat.beq r20'.2.1.length plan8.length then (bif (!r20'.1) then some ((), r20'.2.2.1, ())
        else b size0 pieces1 most2 i10 r20'.2.2.1 r20'.2.1 left9)
      else none)
    else LP b x q0 size0 pieces1 most2 i10 v plan8 left9)
def GB (C : List Int → V → Option (Bool × List Int × V × Unit)) (q0 : Nat) : Nat → FN V × FN V
  | 0 => ((fun _ _ _ _ _ _ _ => none), (fun _ _ _ _ _ _ _ => none))
  | m + 1 => (bkF (GB C q0 m).2, nxF C q0 (GB C q0 m).1 (GB C q0 m).2)
def srch (C : List Int → V → Option (Bool × List Int × V × Unit)) (q0 : Nat) (size0 : Int) (pieces1 : List Int) (most2 : Int) (cp : V) (r1' r2' : List Int) : Option (SR V) :=
    (bif (0 == (pieces1.length : Int)) then (C r1' cp).bind fun r3' =>
      (bif Nat.beq r3'.2.1.length r1'.length then (bif (!r3'.1) then some ((), r3'.2.2.1, ())
        else (GB C q0 q0).1 size0 pieces1 most2 0 r3'.2.2.1 r3'.2.1 r2')
      else none)
    else LP (GB C q0 q0).1 (GB C q0 q0).2 q0 size0 pieces1 most2 0 cp r1' r2')
theorem idx_app {α : Type} (b : List α) (t : α) (R : List α) : idx (b ++ t :: R) (b.length : Int) = some t := by
  rw [idx_nat (by simp)]
  simp
theorem set_app {α : Type} (b : List α) (t y : α) (R : List α) : (b ++ t :: R).set (Int.toNat (b.length : Int)) y = b ++ y :: R := by
  rw [Int.toNat_natCast]
  simp [List.set_append]
def fil (sz : Int) (mo : Nat) (L : List Int) : List Int := L ++ List.replicate (mo - L.length) sz
theorem fil_len {sz : Int} {mo : Nat} {L : List Int} (h : L.length ≤ mo) : (fil sz mo L).length = mo := by simp [fil]; omega
theorem fil_get {sz : Int} {mo : Nat} {L : List Int} {s : Nat} (hs : s < (fil sz mo L).length) : (fil sz mo L)[s] = rm sz L s := by
  unfold fil rm at *
  by_cases h : s < L.length
  · rw [List.getElem_append_left h, List.getD_eq_getElem?_getD, List.getElem?_eq_getElem h, Option.getD_some]
  · rw [List.getElem_append_right (by omega), List.getElem_replicate, List.getD_eq_getElem?_getD, List.getElem?_eq_none (by omega), Option.getD_none]
theorem fil_up {sz : Int} {mo : Nat} {L : List Int} {s : Nat} (p : Int) (h1 : s ≤ L.length) (h2 : s < mo) : (fil sz mo L).set s (rm sz L s - p) = fil sz mo (up sz L s p) := by
  unfold up
  generalize rm sz L s - p = y
  unfold fil
  by_cases h : s = L.length
  · rw [if_pos h]
    subst h
    obtain ⟨k, hk⟩ : ∃ k, mo - L.length = k + 1 := ⟨mo - L.length - 1, by omega⟩
    rw [hk, List.replicate_succ, List.set_append, if_neg (by omega), Nat.sub_self, List.set_cons_zero, List.set_append, if_neg (by omega), Nat.sub_self, List.set_cons_zero]
    simp only [List.length_append, List.length_cons, List.length_nil, List.append_assoc, List.singleton_append]
    rw [show mo - (L.length + (0 + 1)) = k by omega]
  · rw [if_neg h, List.set_append, if_pos (by omega), List.length_set]
theorem fil_back {sz : Int} {mo : Nat} {L : List Int} {s : Nat} (p : Int) (h1 : s ≤ L.length) (h2 : s < mo) (h3 : L.length ≤ mo) : (fil sz mo (up sz L s p)).set s (rm sz L s) = fil sz mo L := by
  rw [← fil_up p h1 h2, List.set_set]
  have hs : s < (fil sz mo L).length := by rw [fil_len h3]; exact h2
  rw [← fil_get hs]
  simp
theorem up_len {sz : Int} {L : List Int} {s : Nat} (p : Int) (h1 : s ≤ L.length) : (up sz L s p).length = max L.length (s + 1) := by
  unfold up
  rw [List.length_set]
  split
  · simp; omega
  · omega
theorem rm_get {sz : Int} {L : List Int} {s : Nat} (hs : s < L.length) : rm sz L s = L[s] := by unfold rm; rw [List.getD_eq_getElem?_getD, List.getElem?_eq_getElem hs, Option.getD_some]
theorem up_get {sz : Int} {L : List Int} {s i : Nat} (p : Int) (hi : i < (up sz L s p).length) : (up sz L s p)[i] = if s = i then rm sz L s - p else rm sz L i := by
  unfold up at hi ⊢
  rw [List.getElem_set]
  split
  · rfl
  · rename_i hne
    rw [List.length_set] at hi
    split
    · rename_i he
      simp only [if_pos he, List.length_append, List.length_cons, List.length_nil] at hi
      rw [List.getElem_append_left (by omega)]
      exact (rm_get _).symm
    · rename_i he
      simp only [if_neg he] at hi
      exact (rm_get _).symm
theorem rm_up {sz : Int} {L : List Int} {s : Nat} (p : Int) (h1 : s ≤ L.length) : rm sz (up sz L s p) s = rm sz L s - p := by
  have h := up_len (sz := sz) p h1
  have hs : s < (up sz L s p).length := by omega
  rw [rm_get hs, up_get p hs, if_pos rfl]
theorem up_mem {sz : Int} {L : List Int} {s : Nat} {p : Int} (h1 : s ≤ L.length) : ∀ x ∈ up sz L s p, x = rm sz L s - p ∨ x ∈ L := fun x hx => by
  obtain ⟨i, hi, e⟩ := List.getElem_of_mem hx
  have hl := up_len (sz := sz) p h1
  rw [up_get p hi] at e
  split at e
  · exact .inl e.symm
  · rename_i hne
    right
    rw [rm_get (by omega)] at e
    rw [← e]
    exact List.getElem_mem _
theorem rm_rng {sz : Int} {L : List Int} (hL : ∀ x ∈ L, 0 ≤ x ∧ x < sz) (h : 0 ≤ sz) (s : Nat) : 0 ≤ rm sz L s ∧ rm sz L s ≤ sz := by
  unfold rm
  by_cases hs : s < L.length
  · rw [List.getD_eq_getElem?_getD, List.getElem?_eq_getElem hs, Option.getD_some]
    have := hL _ (List.getElem_mem hs)
    omega
  · rw [List.getD_eq_getElem?_getD, List.getElem?_eq_none (by omega), Option.getD_none]
    omega
theorem up_rng {sz : Int} {L : List Int} {s : Nat} {p : Int} (hL : ∀ x ∈ L, 0 ≤ x ∧ x < sz) (h : 0 ≤ sz) (h1 : s ≤ L.length) (hp : 1 ≤ p) (hf : p ≤ rm sz L s) : ∀ x ∈ up sz L s p, 0 ≤ x ∧ x < sz := fun x hx => by
  have := rm_rng hL h s
  rcases up_mem h1 x hx with e | e
  · omega
  · exact hL x e
/-! The loop over the sheets for one piece. -/
structure SI (sz : Int) (mo : Nat) (ps : List Int) (b L : List Int) : Prop where
  job : Job sz ps
  le : b.length ≤ ps.length
  lm : L.length ≤ mo
  lb : L.length ≤ b.length
  rng : ∀ x ∈ L, 0 ≤ x ∧ x < sz
  mo : mo ≤ 1000
theorem SI.child {sz : Int} {mo : Nat} {ps b L : List Int} (h : SI sz mo ps b L) (hb : b.length < ps.length) {s : Nat} (h1 : s ≤ L.length) (h2 : s < mo) (hf : ps[b.length] ≤ rm sz L s) : SI sz mo ps (b ++ [(s : Int)]) (up sz L s ps[b.length]) := by
  have hl := up_len (sz := sz) ps[b.length] h1
  have := h.lm
  have := h.lb
  have := h.job.lo
  have hp := h.job.ok _ (List.getElem_mem hb)
  exact ⟨h.job, by simp; omega, by omega, by simp; omega, up_rng h.rng (by omega) h1 hp.1 hf, h.mo⟩
variable {b1 x1 f2 : FN V} {sz : Int} {mo : Nat} {ps b L : List Int}
theorem lp_end (h : SI sz mo ps b L) (hb : b.length < ps.length) (v : V) (R : List Int) :
    lpF b1 x1 f2 sz ps mo (b.length : Int) v (b ++ (((min (L.length + 1) mo : Nat) : Int) - 1) :: R) (fil sz mo L) = b1 sz ps mo (b.length : Int) v (b ++ (-1) :: R) (fil sz mo L) := by
  have := h.mo
  have := h.lm
  have h8 := h.job.len
  have hlb := h.lb
  have hfl := fil_len (sz := sz) h.lm
  generalize hM : min (L.length + 1) mo = M
  unfold lpF
  rw [inB_nat (by simp), cond_true, idx_app, Option.bind_some, cond_true, Option.bind_some, wr_ok (by omega) (by omega), show (M : Int) - 1 + 1 = M by omega, set_app, inB_nat (by simp), cond_true, idx_app, Option.bind_some, cond_true, Option.bind_some, set_app]
  by_cases e : mo ≤ M
  · rw [decide_eq_true (show (M : Int) ≥ mo by omega)]
    simp only [show (true == false) = false from rfl, cond_false, Option.bind_some, cond_true]
  · have hM1 : M = L.length + 1 := by omega
    rw [decide_eq_false (show ¬ (M : Int) ≥ mo by omega), decide_eq_true (show (M : Int) > 0 by omega), wr_ok (by omega) (by omega), show (M : Int) - 1 = (L.length : Int) by omega, inB_nat (by omega), idx_nat (by omega), fil_get (by omega)]
    have : rm sz L L.length = sz := by unfold rm; rw [List.getD_eq_getElem?_getD, List.getElem?_eq_none (by omega), Option.getD_none]
    rw [this]
    simp only [beq_self_eq_true, cond_true, Option.bind_some]
/-- One sheet, which is used or the next one: whether the piece has room. -/
theorem lp_one (h : SI sz mo ps b L) (hb : b.length < ps.length) (v : V) (R : List Int) {s : Nat} (h1 : s ≤ L.length) (h2 : s < mo) :
    lpF b1 x1 f2 sz ps mo (b.length : Int) v (b ++ ((s : Int) - 1) :: R) (fil sz mo L) =
      if ps[b.length] ≤ rm sz L s then x1 sz ps mo ((b.length + 1 : Nat) : Int) v (b ++ (s : Int) :: R) (fil sz mo (up sz L s ps[b.length])) else f2 sz ps mo (b.length : Int) v (b ++ (s : Int) :: R) (fil sz mo L) := by
  have := h.mo
  have := h.lm
  have h8 := h.job.len
  have hlb := h.lb
  have hlo := h.job.lo
  have hhi := h.job.hi
  have hfl := fil_len (sz := sz) h.lm
  have hp := h.job.ok _ (List.getElem_mem hb)
  have hr := rm_rng h.rng (by omega) s
  unfold lpF
  rw [inB_nat (by simp), cond_true, idx_app, Option.bind_some, cond_true, Option.bind_some, wr_ok (by omega) (by omega), show (s : Int) - 1 + 1 = s by omega, set_app, inB_nat (by simp), cond_true, idx_app, Option.bind_some, cond_true, Option.bind_some, set_app]
  rw [decide_eq_false (show ¬ (s : Int) ≥ mo by omega)]
  have hc : ((bif (decide ((s : Int) > 0) == true) then (bif inB (wr .i64 ((s : Int) - 1)) (fil sz mo L).length then (idx (fil sz mo L) (wr .i64 ((s : Int) - 1))).bind fun x24' => some (x24' == sz) else none) else some false)) = some false := by
    by_cases e : s = 0
    · subst e; rfl
    · rw [decide_eq_true (show (s : Int) > 0 by omega), wr_ok (by omega) (by omega), show (s : Int) - 1 = ((s - 1 : Nat) : Int) by omega, inB_nat (by omega), idx_nat (by omega), fil_get (by omega)]
      simp only [beq_self_eq_true, cond_true, Option.bind_some]
      have hs : s - 1 < L.length := by omega
      have e2 : rm sz L (s - 1) = L[s - 1] := by unfold rm; rw [List.getD_eq_getElem?_getD, List.getElem?_eq_getElem hs, Option.getD_some]
      have := h.rng _ (List.getElem_mem hs)
      rw [e2, beq_false_of_ne (by omega)]
  simp only [beq_self_eq_true, cond_true]
  rw [hc]
  simp only [Option.bind_some, cond_false]
  rw [inB_nat (by omega : s < (fil sz mo L).length), idx_nat (by omega : s < (fil sz mo L).length), fil_get (by omega), idx_nat hb]
  simp only [Option.bind_some, cond_true]
  by_cases e : ps[b.length] ≤ rm sz L s
  · rw [decide_eq_true (show rm sz L s ≥ ps[b.length] from e), if_pos e, cond_true, wr_ok (x := rm sz L s - ps[b.length]) (by omega) (by omega), Int.toNat_natCast, fil_up _ h1 h2, wr_succ (by omega)]
  · rw [decide_eq_false (show ¬ rm sz L s ≥ ps[b.length] from e), if_neg e, cond_false]
/-! All of it. -/
def fu : Nat → Nat → Nat
  | 0, _ => 1
  | r + 1, i => 1 + (i + 1) * (2 + fu r (i + 1))
/-- What a function does that is handed plans and hands them back. -/
def Pure (C : List Int → V → Option (Bool × List Int × V × Unit)) (c : List Int → V → Bool × V) : Prop := ∀ (q : List Int) (v : V), q.length ≤ 8 → C q v = some ((c q v).1, q, (c q v).2, ())
variable {C : List Int → V → Option (Bool × List Int × V × Unit)} {c : List Int → V → Bool × V} {q0 : Nat}
theorem srch_leaf (hC : Pure C c) (h : SI sz mo ps b L) (hb : b.length = ps.length) (v : V) (m : Nat) :
    (GB C q0 (m + 1)).2 sz ps mo (b.length : Int) v b (fil sz mo L) = if (fv c [b] v).1 then (GB C q0 m).1 sz ps mo (b.length : Int) (fv c [b] v).2 b (fil sz mo L) else some ((), (fv c [b] v).2, ()) := by
  show nxF C q0 _ _ sz ps mo (b.length : Int) v b (fil sz mo L) = _
  unfold nxF
  have := h.job.len
  rw [show ((b.length : Int) == (ps.length : Int)) = true by simp [hb], cond_true, hC b v (by omega), Option.bind_some, show Nat.beq b.length b.length = true by simp, cond_true]
  unfold fv
  by_cases e : (c b v).1 = true
  · simp only [e, Bool.not_true, cond_false, if_true, fv]
  · simp only [Bool.not_eq_true] at e
    simp only [e, Bool.not_false, cond_true, Bool.false_eq_true, if_false]
/-- Back from a piece's sheet. -/
theorem srch_back (h : SI sz mo ps b L) (hb : b.length < ps.length) (v : V) (R : List Int) {s : Nat} (h1 : s ≤ L.length) (h2 : s < mo) (hf : ps[b.length] ≤ rm sz L s) (m : Nat) :
    (GB C q0 (m + 1)).1 sz ps mo ((b.length + 1 : Nat) : Int) v (b ++ (s : Int) :: R) (fil sz mo (up sz L s ps[b.length])) = (GB C q0 m).2 sz ps mo (b.length : Int) v (b ++ (s : Int) :: R) (fil sz mo L) := by
  have h8 := h.job.len
  have hlo := h.job.lo
  have hhi := h.job.hi
  have hlm := h.lm
  have hp := h.job.ok _ (List.getElem_mem hb)
  have hr := rm_rng h.rng (by omega) s
  have hul := up_len (sz := sz) ps[b.length] h1
  have hfl := fil_len (sz := sz) (mo := mo) (L := up sz L s ps[b.length]) (by omega)
  show bkF _ sz ps mo _ v _ _ = _
  unfold bkF
  rw [wr_ok (by omega) (by omega), show ((b.length + 1 : Nat) : Int) - 1 = (b.length : Int) by omega, decide_eq_false (by omega), cond_false, inB_nat (by simp), cond_true, idx_app, Option.bind_some, inB_nat (by omega), cond_true, idx_nat (by omega : s < (fil sz mo (up sz L s ps[b.length])).length), Option.bind_some, idx_nat hb, Option.bind_some, cond_true, Option.bind_some, fil_get (by omega), rm_up _ h1, wr_ok (by omega) (by omega), Int.toNat_natCast, show rm sz L s - ps[b.length] + ps[b.length] = rm sz L s by omega, fil_back _ h1 h2 hlm]
theorem srch_node (hC : Pure C c) (hq : 1100 ≤ q0) : ∀ (r b L : List Int), SI sz mo ps b L → ps.drop b.length = r → ∀ v, ∃ K, K ≤ fu r.length b.length ∧ ∀ m,
    (GB C q0 (m + K)).2 sz ps mo (b.length : Int) v (b ++ List.replicate (ps.length - b.length) (-1)) (fil sz mo L) = if (fv c (pl sz mo r b L) v).1 then (GB C q0 m).1 sz ps mo (b.length : Int) (fv c (pl sz mo r b L) v).2 (b ++ List.replicate (ps.length - b.length) (-1)) (fil sz mo L) else some ((), (fv c (pl sz mo r b L) v).2, ()) := by
  intro r
  induction r with
  | nil =>
    intro b L h hr v
    have hle := h.le
    have hb : b.length = ps.length := by have := List.drop_eq_nil_iff.1 hr; omega
    refine ⟨1, Nat.le_refl _, fun m => ?_⟩
    rw [hb, Nat.sub_self, List.replicate_zero, List.append_nil, ← hb]
    exact srch_leaf hC h hb v m
  | cons p r ih =>
    intro b L h hr v
    have hb : b.length < ps.length := by
      rcases Nat.lt_or_ge b.length ps.length with h | h
      · exact h
      · rw [List.drop_eq_nil_of_le h] at hr; cases hr
    have hp : ps[b.length] = p ∧ ps.drop (b.length + 1) = r := by
      rw [drop_cons hb] at hr
      exact ⟨(List.cons.inj hr).1, (List.cons.inj hr).2⟩
    obtain ⟨hp1, hp2⟩ := hp
    have hmo := h.mo
    have hlm := h.lm
    have hlb := h.lb
    have h8 := h.job.len
    -- the loop from some sheet on
    have loop : ∀ (d s : Nat), s + d = min (L.length + 1) mo → ∀ (v : V) (q : Nat), d < q → ∃ K, K ≤ d * (2 + fu r.length (b.length + 1)) ∧ ∀ m,
        LP (GB C q0 (m + K)).1 (GB C q0 (m + K)).2 q sz ps mo (b.length : Int) v (b ++ ((s : Int) - 1) :: List.replicate (ps.length - (b.length + 1)) (-1)) (fil sz mo L) =
          if (fv c ((List.range' s d).flatMap fun s => if p ≤ rm sz L s then pl sz mo r (b ++ [(s : Int)]) (up sz L s p) else []) v).1 then (GB C q0 m).1 sz ps mo (b.length : Int) (fv c ((List.range' s d).flatMap fun s => if p ≤ rm sz L s then pl sz mo r (b ++ [(s : Int)]) (up sz L s p) else []) v).2 (b ++ (-1) :: List.replicate (ps.length - (b.length + 1)) (-1)) (fil sz mo L)
          else some ((), (fv c ((List.range' s d).flatMap fun s => if p ≤ rm sz L s then pl sz mo r (b ++ [(s : Int)]) (up sz L s p) else []) v).2, ()) := by
      intro d
      induction d with
      | zero =>
        intro s hs v q hq1
        obtain ⟨q, rfl⟩ : ∃ k, q = k + 1 := ⟨q - 1, by omega⟩
        refine ⟨0, Nat.zero_le _, fun m => ?_⟩
        have := lp_end (b1 := (GB C q0 m).1) (x1 := (GB C q0 m).2) (f2 := LP (GB C q0 m).1 (GB C q0 m).2 q) h hb v (List.replicate (ps.length - (b.length + 1)) (-1))
        rw [← hs, Nat.add_zero] at this
        exact this
      | succ d ihd =>
        intro s hs v q hq1
        obtain ⟨q, rfl⟩ : ∃ k, q = k + 1 := ⟨q - 1, by omega⟩
        have h1 : s ≤ L.length := by omega
        have h2 : s < mo := by omega
        rw [List.range'_succ, List.flatMap_cons]
        have one := fun m => lp_one (b1 := (GB C q0 m).1) (x1 := (GB C q0 m).2) (f2 := LP (GB C q0 m).1 (GB C q0 m).2 q) h hb v (List.replicate (ps.length - (b.length + 1)) (-1)) h1 h2
        rw [hp1] at one
        by_cases hf : p ≤ rm sz L s
        · have hch := h.child hb h1 h2 (by rw [hp1]; exact hf)
          rw [hp1] at hch
          obtain ⟨Kc, hKc, hc⟩ := ih (b ++ [(s : Int)]) (up sz L s p) hch (by simp only [List.length_append, List.length_cons, List.length_nil]; exact hp2) v
          simp only [List.length_append, List.length_cons, List.length_nil, Nat.zero_add, List.append_assoc, List.singleton_append] at hc hKc
          rw [if_pos hf]
          simp only [if_pos hf] at one
          generalize hQ : pl sz mo r (b ++ [(s : Int)]) (up sz L s p) = Q at *
          by_cases hgo : (fv c Q v).1 = true
          · obtain ⟨K2, hK2, hl⟩ := ihd (s + 1) (by omega) (fv c Q v).2 q0 (by omega)
            refine ⟨K2 + 2 + Kc, ?_, fun m => ?_⟩
            · rw [Nat.add_mul, Nat.one_mul]; omega
            · refine (one _).trans ?_
              have := hc (m + (K2 + 2))
              rw [show m + (K2 + 2) + Kc = m + (K2 + 2 + Kc) by omega] at this
              rw [this, if_pos hgo, show m + (K2 + 2) = (m + K2 + 1) + 1 by omega]
              have hbk := srch_back (C := C) (q0 := q0) h hb (fv c Q v).2 (List.replicate (ps.length - (b.length + 1)) (-1)) h1 h2 (by rw [hp1]; exact hf) (m + K2 + 1)
              rw [hp1] at hbk
              rw [hbk]
              have hx : (GB C q0 (m + K2 + 1)).2 = nxF C q0 (GB C q0 (m + K2)).1 (GB C q0 (m + K2)).2 := rfl
              rw [hx]
              unfold nxF
              rw [beq_false_of_ne (show (b.length : Int) ≠ (ps.length : Int) by omega), cond_false]
              have := hl m
              rw [show ((s + 1 : Nat) : Int) - 1 = (s : Int) by omega] at this
              rw [this]
              simp only [fv_app]
              simp only [if_pos hgo]
          · refine ⟨Kc, ?_, fun m => ?_⟩
            · rw [Nat.add_mul, Nat.one_mul]; omega
            · refine (one _).trans ?_
              rw [hc m, if_neg hgo]
              simp only [fv_app]
              simp only [if_neg hgo]
              simp
        · rw [if_neg hf, List.nil_append]
          obtain ⟨K, hK, hl⟩ := ihd (s + 1) (by omega) v q (by omega)
          refine ⟨K, ?_, fun m => ?_⟩
          · rw [Nat.add_mul, Nat.one_mul]; omega
          · have := one (m + K)
            rw [if_neg hf] at this
            refine this.trans ?_
            rw [← hl m, show ((s + 1 : Nat) : Int) - 1 = (s : Int) by omega]
    obtain ⟨K, hK, hl⟩ := loop (min (L.length + 1) mo) 0 (by omega) v q0 (by omega)
    refine ⟨K + 1, ?_, fun m => ?_⟩
    · have : min (L.length + 1) mo * (2 + fu r.length (b.length + 1)) ≤ (b.length + 1) * (2 + fu r.length (b.length + 1)) := Nat.mul_le_mul_right _ (by omega)
      simp only [List.length_cons, fu]
      omega
    · have hx : (GB C q0 (m + (K + 1))).2 = nxF C q0 (GB C q0 (m + K)).1 (GB C q0 (m + K)).2 := rfl
      have hrep : List.replicate (ps.length - b.length) (-1 : Int) = (-1) :: List.replicate (ps.length - (b.length + 1)) (-1) := by
        rw [← List.replicate_succ]; congr 1; omega
      rw [hx, hrep]
      unfold nxF
      rw [beq_false_of_ne (show (b.length : Int) ≠ (ps.length : Int) by omega), cond_false]
      have := hl m
      rw [show ((0 : Nat) : Int) - 1 = -1 by omega] at this
      rw [this]
      rfl
/-- The search hands over all plans with at most so many sheets, in ascending order. -/
theorem srch_eq (hC : Pure C c) (hq : 1000000 ≤ q0) (hj : Job sz ps) (hm : mo ≤ 1000) (v : V) : srch C q0 sz ps mo v (List.replicate ps.length (-1)) (List.replicate mo sz) = some ((), (fv c (pl sz mo ps [] []) v).2, ()) := by
  have hsi : SI sz mo ps [] [] := ⟨hj, by simp, by simp, by simp, by simp, hm⟩
  have h8 := hj.len
  have back0 : ∀ (m : Nat) (v : V) (a l : List Int), (GB C q0 (m + 1)).1 sz ps mo 0 v a l = some ((), v, ()) := fun m v a l => rfl
  have hfu : fu ps.length 0 ≤ 900000 := by
    have : ∀ k ≤ 8, fu k 0 ≤ 900000 := by decide
    exact this _ h8
  obtain ⟨K, hK, h⟩ := srch_node (q0 := q0) hC (by omega) ps [] [] hsi rfl v
  rw [List.length_nil] at hK
  have key : ∀ m, K ≤ m → (GB C q0 (m + 1)).2 sz ps mo 0 v (List.replicate ps.length (-1)) (List.replicate mo sz) = some ((), (fv c (pl sz mo ps [] []) v).2, ()) := fun m hm => by
    have := h (m + 1 - K)
    rw [show m + 1 - K + K = m + 1 by omega] at this
    have e : fil sz mo [] = List.replicate mo sz := by simp [fil]
    rw [e] at this
    refine Eq.trans this ?_
    split
    · rw [show m + 1 - K = (m - K) + 1 by omega]
      rfl
    · rfl
  have hx : ∀ m, (GB C q0 (m + 1)).2 = nxF C q0 (GB C q0 m).1 (GB C q0 m).2 := fun _ => rfl
  have k2 := key q0 (by omega)
  rw [hx] at k2
  unfold nxF at k2
  unfold srch
  exact k2
end
end Go.Proofs.YtgmonagekfjnmaaDoor
set_option linter.unusedVariables false
set_option linter.unusedSimpArgs false
set_option maxRecDepth 100000
namespace Go.Proofs.YtgmonagekfjnmaaDoor
open Go.Vi
noncomputable def c5 : Code := bodyOf Tryd.f5
/-D 99 -/
/-D 83 -/
/-D 35 -/
/-D 37 -/
/-D 39 -/
/-D 5 -/
end Go.Proofs.YtgmonagekfjnmaaDoor
set_option linter.unusedVariables false
set_option linter.unusedSimpArgs false
namespace Go.Proofs.YtgmonagekfjnmaaDoor
open Go.Vi
theorem rep2_eq (x : Int) : ∀ k ≤ 8, D69 N [x] ((k : Nat) : Int) = some (List.replicate k x)
  | 0, _ => by kernel_rfl
  | 1, _ => by kernel_rfl
  | 2, _ => by kernel_rfl
  | 3, _ => by kernel_rfl
  | 4, _ => by kernel_rfl
  | 5, _ => by kernel_rfl
  | 6, _ => by kernel_rfl
  | 7, _ => by kernel_rfl
  | 8, _ => by kernel_rfl
  | k + 9, h => by omega
theorem L84c86io0001_LP (n : Nat × Nat) (f1 : FN (Int) × FN (Int)) : ∀ q, DL84c86io0001_4 n f1 q = LP f1.1 f1.2 q
  | 0 => rfl
  | q + 1 => by
    rw [DL84c86io0001_4_succ, L84c86io0001_LP n f1 q]
    rfl
theorem G84c86io0001_GB (n : Nat × Nat) : ∀ m, DG84c86io0001_1 n m = GB (D86io11 n) n.1 m
  | 0 => rfl
  | m + 1 => by
    rw [DG84c86io0001_1_succ, G84c86io0001_GB n m]
    refine Prod.ext rfl ?_
    funext a b d e v p l
    show DF84c86io0001_3 n _ a b d e v p l = nxF (D86io11 n) n.1 _ _ a b d e v p l
    unfold DF84c86io0001_3 nxF
    rw [L84c86io0001_LP]
theorem M84c86io0001_LP (n : Nat × Nat) : ∀ q, DL84c86io0001_2 n q = LP (GB (D86io11 n) n.1 n.1).1 (GB (D86io11 n) n.1 n.1).2 q
  | 0 => rfl
  | q + 1 => by
    rw [DL84c86io0001_2_succ, M84c86io0001_LP n q, ← G84c86io0001_GB]
    rfl
theorem D84c86io0001_srch (n : Nat × Nat) (sz : Int) (ps : List Int) (most : Int) (v : Int) : D84c86io0001 n sz ps most v = (D69 n [-1] (ps.length : Int)).bind fun r1 => (D69 n [sz] most).bind fun r2 => srch (D86io11 n) n.1 sz ps most v r1 r2 := by
  unfold D84c86io0001 srch
  rw [M84c86io0001_LP, ← G84c86io0001_GB]
  rfl
theorem D84c86io0001_eq {c : List Int → Int → Bool × Int} (hC : Pure (D86io11 N) c) {sz : Int} {ps : List Int} (hj : Job sz ps) {mo : Nat} (hm : mo ≤ 8) (v : Int) : D84c86io0001 N sz ps mo v = some ((), (fv c (pl sz mo ps [] []) v).2, ()) := by
  rw [D84c86io0001_srch, rep_eq _ hj.len, Option.bind_some, rep2_eq _ _ hm, Option.bind_some]
  exact srch_eq hC (Nat.le_refl _) hj (by omega) v
theorem L84c98io0001_LP (n : Nat × Nat) (f1 : FN (Bool) × FN (Bool)) : ∀ q, DL84c98io0001_4 n f1 q = LP f1.1 f1.2 q
  | 0 => rfl
  | q + 1 => by
    rw [DL84c98io0001_4_succ, L84c98io0001_LP n f1 q]
    rfl
theorem G84c98io0001_GB (n : Nat × Nat) : ∀ m, DG84c98io0001_1 n m = GB (D98io11 n) n.1 m
  | 0 => rfl
  | m + 1 => by
    rw [DG84c98io0001_1_succ, G84c98io0001_GB n m]
    refine Prod.ext rfl ?_
    funext a b d e v p l
    show DF84c98io0001_3 n _ a b d e v p l = nxF (D98io11 n) n.1 _ _ a b d e v p l
    unfold DF84c98io0001_3 nxF
    rw [L84c98io0001_LP]
theorem M84c98io0001_LP (n : Nat × Nat) : ∀ q, DL84c98io0001_2 n q = LP (GB (D98io11 n) n.1 n.1).1 (GB (D98io11 n) n.1 n.1).2 q
  | 0 => rfl
  | q + 1 => by
    rw [DL84c98io0001_2_succ, M84c98io0001_LP n q, ← G84c98io0001_GB]
    rfl
theorem D84c98io0001_srch (n : Nat × Nat) (sz : Int) (ps : List Int) (most : Int) (v : Bool) : D84c98io0001 n sz ps most v = (D69 n [-1] (ps.length : Int)).bind fun r1 => (D69 n [sz] most).bind fun r2 => srch (D98io11 n) n.1 sz ps most v r1 r2 := by
  unfold D84c98io0001 srch
  rw [M84c98io0001_LP, ← G84c98io0001_GB]
  rfl
theorem D84c98io0001_eq {c : List Int → Bool → Bool × Bool} (hC : Pure (D98io11 N) c) {sz : Int} {ps : List Int} (hj : Job sz ps) {mo : Nat} (hm : mo ≤ 8) (v : Bool) : D84c98io0001 N sz ps mo v = some ((), (fv c (pl sz mo ps [] []) v).2, ()) := by
  rw [D84c98io0001_srch, rep_eq _ hj.len, Option.bind_some, rep2_eq _ _ hm, Option.bind_some]
  exact srch_eq hC (Nat.le_refl _) hj (by omega) v
theorem clone_eq (n : Nat × Nat) (l : List Int) (h : l.length ≤ 1000) : D56 n l = some l := by
  unfold D56 HF56
  rw [decide_eq_true (show l.length ≤ lim by simp [lim]; omega), cond_true]
theorem pure98 : Pure (D98io11 N) (fun _ _ => (false, true)) := fun q v h => rfl
theorem pure86 : Pure (D86io11 N) (fun _ v => (true, wr .i64 (v + 1))) := fun q v h => rfl
theorem fv98 : ∀ (l : List (List Int)), (fv (fun _ (_ : Bool) => (false, true)) l false).2 = !l.isEmpty
  | [] => rfl
  | _ :: _ => rfl
theorem fv86 : ∀ (l : List (List Int)) (k : Nat), k + l.length < 1000000 → (fv (fun _ (v : Int) => (true, wr .i64 (v + 1))) l (k : Int)).2 = ((k + l.length : Nat) : Int)
  | [], _, _ => rfl
  | q :: l, k, h => by
    rw [List.length_cons] at h
    have := fv86 l (k + 1) (by omega)
    unfold fv
    rw [if_pos rfl, wr_succ (by omega), this]
    simp only [List.length_cons]
    congr 1
    omega
/-! How many plans there are at most. -/
def cb : Nat → Nat → Nat
  | 0, _ => 1
  | r + 1, i => (i + 1) * cb r (i + 1)
theorem flat_len {α β : Type} (f : α → List β) (k : Nat) : ∀ (l : List α), (∀ a ∈ l, (f a).length ≤ k) → (l.flatMap f).length ≤ l.length * k
  | [], _ => by simp
  | a :: l, h => by
    have h1 := h a (by simp)
    have h2 := flat_len f k l (fun b hb => h b (by simp [hb]))
    rw [List.flatMap_cons, List.length_append, List.length_cons, Nat.succ_mul]
    omega
theorem pl_count (sz : Int) (mo : Nat) : ∀ (r b L : List Int), L.length ≤ b.length → (pl sz mo r b L).length ≤ cb r.length b.length
  | [], b, L, _ => by simp [pl, cb]
  | p :: r, b, L, h => by
    unfold pl
    refine Nat.le_trans (flat_len _ (cb r.length (b.length + 1)) _ (fun s hs => ?_)) ?_
    · have hs1 : s ≤ L.length := by have := List.mem_range'_1.1 hs; omega
      split
      · have := pl_count sz mo r (b ++ [(s : Int)]) (up sz L s p) (by rw [up_len p hs1]; simp; omega)
        simpa using this
      · simp
    · simp only [List.length_range', List.length_cons, cb]
      exact Nat.mul_le_mul_right _ (by omega)
theorem cb8 {k : Nat} (h : k ≤ 8) : cb k 0 ≤ 100000 := by
  have : ∀ k ≤ 8, cb k 0 ≤ 100000 := by decide
  exact this _ h
/-- What begins a plan. -/
structure Rs (sz : Int) (ps b L : List Int) : Prop where
  job : Job sz ps
  le : b.length ≤ ps.length
  nn : ∀ x ∈ b, 0 ≤ x
  my : mny b ≤ b.length
  left : L = lf sz (ps.take b.length) b
theorem Rs.len {sz : Int} {ps b L : List Int} (h : Rs sz ps b L) : (L.length : Int) = mny b := by rw [h.left]; exact lf_len _ _ _
theorem Rs.rm {sz : Int} {ps b L : List Int} (h : Rs sz ps b L) {s : Nat} (hs : s ≤ L.length) : rm sz L s = sz - usd (ps.take b.length) b s := by
  have hl := h.len
  by_cases e : s < L.length
  · rw [rm_get e]
    have := h.left
    subst this
    exact lf_get e
  · unfold Proofs.YtgmonagekfjnmaaDoor.rm
    rw [List.getD_eq_getElem?_getD, List.getElem?_eq_none (by omega), Option.getD_none, usd_none (fun hm => by have := mny_lt hm; omega)]
    omega
theorem Rs.child {sz : Int} {ps b L : List Int} (h : Rs sz ps b L) (hb : b.length < ps.length) {s : Nat} (hs : s ≤ L.length) : Rs sz ps (b ++ [(s : Int)]) (up sz L s ps[b.length]) := by
  have hl := h.len
  have hmy := h.my
  refine ⟨h.job, by simp; omega, fun x hx => ?_, ?_, ?_⟩
  · rcases List.mem_append.1 hx with hx | hx
    · exact h.nn x hx
    · rw [List.mem_singleton.1 hx]; omega
  · rw [mny_snoc, List.length_append]
    simp only [List.length_cons, List.length_nil]
    omega
  · have := lf_step sz ps[b.length] (s : Int) (ps := ps.take b.length) (l := b) (by simp; omega) (by omega) (by omega)
    rw [← take_snoc hb, ← h.left, ← h.rm hs] at this
    rw [List.length_append, List.length_singleton, this]
    unfold up
    rw [Int.toNat_natCast]
    by_cases e : s = L.length
    · rw [if_pos e, if_pos (by omega)]
    · rw [if_neg e, if_neg (by omega)]
theorem Rs.nil {sz : Int} {ps : List Int} (h : Job sz ps) : Rs sz ps [] [] := ⟨h, by simp, by simp, by simp [mny], rfl⟩
/-! The reference's plans. -/
/-! Plans by their number of sheets. -/
theorem pl_pre {sz : Int} {mo : Nat} : ∀ (r b L q : List Int), q ∈ pl sz mo r b L → ∃ t, t.length = r.length ∧ q = b ++ t
  | [], b, L, q, h => ⟨[], rfl, by simpa [pl] using h⟩
  | p :: r, b, L, q, h => by
    unfold pl at h
    obtain ⟨s, _, hq⟩ := List.mem_flatMap.1 h
    split at hq
    · obtain ⟨t, ht, e⟩ := pl_pre r _ _ q hq
      exact ⟨(s : Int) :: t, by simp [ht], by rw [e]; simp⟩
    · simp at hq
theorem pl_ne {sz : Int} {mo : Nat} : ∀ (r b L : List Int), (∀ p ∈ r, p ≤ sz) → L.length + r.length ≤ mo → pl sz mo r b L ≠ []
  | [], b, L, _, _ => by simp [pl]
  | p :: r, b, L, hp, hm => by
    rw [List.length_cons] at hm
    have hr : rm sz L L.length = sz := by unfold rm; rw [List.getD_eq_getElem?_getD, List.getElem?_eq_none (by omega), Option.getD_none]
    have ih := pl_ne (sz := sz) (mo := mo) r (b ++ [(L.length : Int)]) (up sz L L.length p) (fun q hq => hp q (by simp [hq])) (by rw [up_len p (Nat.le_refl _)]; omega)
    obtain ⟨q, hq⟩ := List.exists_mem_of_ne_nil _ ih
    refine List.ne_nil_of_mem (a := q) ?_
    unfold pl
    refine List.mem_flatMap.2 ⟨L.length, List.mem_range'_1.2 (by omega), ?_⟩
    rw [if_pos (by rw [hr]; exact hp p (by simp))]
    exact hq
/-- All plans with at most so many sheets. -/
def apl (sz : Int) (ps : List Int) (mo : Nat) : List (List Int) := pl sz mo ps [] []
def fwg (f : Nat → Bool) : Nat → Nat → Nat
  | 0, k => k
  | d + 1, k => if f k then k else fwg f d (k + 1)
theorem fwg_spec (f : Nat → Bool) : ∀ (d k : Nat), f (k + d) = true → f (fwg f d k) = true ∧ k ≤ fwg f d k ∧ fwg f d k ≤ k + d ∧ ∀ j, k ≤ j → j < fwg f d k → f j = false
  | 0, k, h => ⟨h, Nat.le_refl _, Nat.le_refl _, fun j h1 h2 => by unfold fwg at h2; omega⟩
  | d + 1, k, h => by
    unfold fwg
    by_cases e : f k = true
    · rw [if_pos e]
      exact ⟨e, Nat.le_refl _, by omega, fun j h1 h2 => by omega⟩
    · rw [if_neg e]
      obtain ⟨h1, h2, h3, h4⟩ := fwg_spec f d (k + 1) (by rw [show k + 1 + d = k + (d + 1) by omega]; exact h)
      refine ⟨h1, by omega, by omega, fun j hj1 hj2 => ?_⟩
      by_cases hj : j = k
      · rw [hj]; simpa using e
      · exact h4 j (by omega) hj2
/-- The fewest sheets. -/
def fw (sz : Int) (ps : List Int) : Nat := fwg (fun k => !(apl sz ps k).isEmpty) ps.length 0
theorem apl_len {sz : Int} {ps : List Int} (hj : Job sz ps) : apl sz ps ps.length ≠ [] := pl_ne ps [] [] (fun p hp => (hj.ok p hp).2) (by simp)
theorem fw_spec {sz : Int} {ps : List Int} (hj : Job sz ps) : apl sz ps (fw sz ps) ≠ [] ∧ fw sz ps ≤ ps.length ∧ ∀ j < fw sz ps, apl sz ps j = [] := by
  have h0 : (fun k => !(apl sz ps k).isEmpty) (0 + ps.length) = true := by
    rw [Nat.zero_add]
    have := apl_len hj
    show (!(apl sz ps ps.length).isEmpty) = true
    cases h : apl sz ps ps.length
    · exact absurd h this
    · rfl
  obtain ⟨h1, h2, h3, h4⟩ := fwg_spec (fun k => !(apl sz ps k).isEmpty) ps.length 0 h0
  refine ⟨fun e => ?_, by unfold fw; omega, fun j hj => ?_⟩
  · unfold fw at e
    simp only [e] at h1
    exact absurd h1 (by simp)
  · have := h4 j (by omega) hj
    cases h : apl sz ps j
    · rfl
    · simp [h] at this
theorem apl_count {sz : Int} {ps : List Int} (hj : Job sz ps) (mo : Nat) : (apl sz ps mo).length ≤ 100000 :=
  Nat.le_trans (pl_count sz mo ps [] [] (by simp)) (cb8 hj.len)
theorem apl_qlen {sz : Int} {ps : List Int} {mo : Nat} {q : List Int} (h : q ∈ apl sz ps mo) : q.length = ps.length := by
  obtain ⟨t, ht, e⟩ := pl_pre ps [] [] q h
  rw [e, List.nil_append, ht]
theorem least_loop {sz : Int} {ps : List Int} (hj : Job sz ps) : ∀ (m k : Nat), k ≤ fw sz ps → fw sz ps - k < m → DL82_1 N m sz ps (k : Int) = some ((fw sz ps : Nat) : Int)
  | 0, k, _, h => by omega
  | m + 1, k, hk, h => by
    obtain ⟨h1, h2, h3⟩ := fw_spec hj
    have h8 := hj.len
    rw [DL82_1_succ]
    unfold DF82_1
    rw [D84c98io0001_eq pure98 hj (by omega : k ≤ 8), Option.bind_some, fv98]
    by_cases e : k = fw sz ps
    · subst e
      have : (pl sz (fw sz ps) ps [] []).isEmpty = false := by
        cases hh : pl sz (fw sz ps) ps [] []
        · exact absurd hh h1
        · rfl
      simp only [this, Bool.not_false, show (true == false) = false from rfl, cond_false, Option.bind_some, cond_true]
    · have : pl sz k ps [] [] = [] := h3 k (by omega)
      simp only [this, List.isEmpty_nil, Bool.not_true, beq_self_eq_true, cond_true, Option.bind_some]
      rw [beq_false_of_ne (show (k : Int) ≠ (ps.length : Int) by omega), cond_false, wr_succ (by omega), least_loop hj m (k + 1) (by omega) (by omega)]
theorem least_eq {sz : Int} {ps : List Int} (hj : Job sz ps) : D82 N sz ps = some ((fw sz ps : Nat) : Int) := by
  unfold D82
  obtain ⟨h1, h2, h3⟩ := fw_spec hj
  exact least_loop hj N.1 0 (by omega) (by have : N.1 = 1000000 := rfl; have := hj.len; omega)
def fwS (sz : Int) (ps : List Int) : Int × Int := if chk sz ps ≠ 0 then (0, chk sz ps) else (fw sz ps, 0)
def cnS (sz : Int) (ps : List Int) : Int × Int := if chk sz ps ≠ 0 then (0, chk sz ps) else ((apl sz ps (fw sz ps)).length, 0)
theorem Fewest_eq (sz : Int) (ps : List Int) : D34 N sz ps = some (fwS sz ps) := by
  unfold D34 fwS
  rw [Check_eq hN1, Option.bind_some]
  by_cases h : chk sz ps = 0
  · have hj := chk_job.1 h
    rw [h, bne_self_eq_false, cond_false, if_neg (by simp), least_eq hj, Option.bind_some]
  · rw [show (chk sz ps != 0) = true by simpa using h, cond_true, if_pos h]
theorem Count_eq (sz : Int) (ps : List Int) : D38 N sz ps = some (cnS sz ps) := by
  unfold D38 cnS
  rw [Check_eq hN1, Option.bind_some]
  by_cases h : chk sz ps = 0
  · have hj := chk_job.1 h
    obtain ⟨h1, h2, h3⟩ := fw_spec hj
    have h8 := hj.len
    have hc := apl_count hj (fw sz ps)
    have hf := fv86 (pl sz (fw sz ps) ps [] []) 0 (by unfold apl at hc; omega)
    rw [h, bne_self_eq_false, cond_false, if_neg (by simp), least_eq hj, Option.bind_some, D84c86io0001_eq pure86 hj (by omega), Option.bind_some, show (0 : Int) = ((0 : Nat) : Int) from rfl, hf, Nat.zero_add]
    rfl
  · rw [show (chk sz ps != 0) = true by simpa using h, cond_true, if_pos h]
theorem usd_app (s : Int) : ∀ (a a' l l' : List Int), a.length = l.length → usd (a ++ a') (l ++ l') s = usd a l s + usd a' l' s
  | [], a', [], l', _ => by simp [usd]
  | p :: a, a', x :: l, l', h => by
    simp only [List.cons_append, usd]
    rw [usd_app s a a' l l' (by simpa using h)]
    omega
  | [], _, _ :: _, _, h => by simp at h
  | _ :: _, _, [], _, h => by simp at h
def okT (sz : Int) (mo : Nat) : List Int → List Int → List Int → Prop
  | _, [], t => t = []
  | L, p :: r, t => ∃ (s : Nat) (t' : List Int), t = (s : Int) :: t' ∧ s ≤ L.length ∧ s < mo ∧ p ≤ rm sz L s ∧ okT sz mo (up sz L s p) r t'
theorem mem_pl {sz : Int} {mo : Nat} : ∀ (r b L q : List Int), q ∈ pl sz mo r b L ↔ ∃ t, q = b ++ t ∧ okT sz mo L r t
  | [], b, L, q => by
    unfold pl okT
    simp
  | p :: r, b, L, q => by
    unfold pl okT
    rw [List.mem_flatMap]
    constructor
    · rintro ⟨s, hs, hq⟩
      have hs := List.mem_range'_1.1 hs
      split at hq
      · rename_i hf
        obtain ⟨t, ht, hk⟩ := (mem_pl r _ _ q).1 hq
        exact ⟨(s : Int) :: t, by rw [ht]; simp, s, t, rfl, by omega, by omega, hf, hk⟩
      · cases hq
    · rintro ⟨t, ht, s, t', rfl, h1, h2, hf, hk⟩
      refine ⟨s, List.mem_range'_1.2 (by omega), ?_⟩
      rw [if_pos hf]
      exact (mem_pl r _ _ q).2 ⟨t', by rw [ht]; simp, hk⟩
theorem okT_iff {sz : Int} {ps : List Int} {mo : Nat} (hj : Job sz ps) : ∀ (r b L t : List Int), Rs sz ps b L → ps.drop b.length = r → (∀ x, usd (ps.take b.length) b x ≤ sz) → mny b ≤ mo → t.length = r.length →
    (okT sz mo L r t ↔ oer (mny b) t = 0 ∧ (∀ x, usd ps (b ++ t) x ≤ sz) ∧ mny (b ++ t) ≤ mo)
  | [], b, L, t, h, hr, hu, hm, ht => by
    have : t = [] := List.length_eq_zero_iff.1 (by simpa using ht)
    subst this
    have hle := h.le
    have hb : b.length = ps.length := by have := List.drop_eq_nil_iff.1 hr; omega
    rw [hb, List.take_length] at hu
    unfold okT oer
    rw [List.append_nil]
    exact ⟨fun _ => ⟨rfl, hu, hm⟩, fun _ => rfl⟩
  | p :: r, b, L, [], h, hr, hu, hm, ht => by simp at ht
  | p :: r, b, L, x :: t, h, hr, hu, hm, ht => by
    have hb : b.length < ps.length := by
      rcases Nat.lt_or_ge b.length ps.length with h | h
      · exact h
      · rw [List.drop_eq_nil_of_le h] at hr; cases hr
    have hp : ps[b.length] = p ∧ ps.drop (b.length + 1) = r := by
      rw [drop_cons hb] at hr
      exact ⟨(List.cons.inj hr).1, (List.cons.inj hr).2⟩
    obtain ⟨hp1, hp2⟩ := hp
    have hlen := h.len
    have hpr := hj.ok _ (List.getElem_mem hb)
    rw [hp1] at hpr
    have hut : ∀ s : Int, usd (ps.take (b.length + 1)) (b ++ [x]) s = usd (ps.take b.length) b s + if x = s then p else 0 := fun s => by
      rw [take_snoc hb, usd_snoc _ _ _ (by simp; omega), hp1]
    have hps : ps = ps.take (b.length + 1) ++ r := by rw [← hp2, List.take_append_drop]
    have hut2 : ∀ s : Int, usd ps (b ++ x :: t) s = usd (ps.take (b.length + 1)) (b ++ [x]) s + usd r t s := fun s => by
      have := usd_app s (ps.take (b.length + 1)) r (b ++ [x]) t (by simp; omega)
      rw [← hps, List.append_assoc, List.singleton_append] at this
      exact this
    have hnn : ∀ s : Int, 0 ≤ usd r t s := fun s => usd_nn (fun q hq => by
      rw [← hp2] at hq
      have := hj.ok q (List.mem_of_mem_drop hq)
      omega)
    have main : ∀ s : Nat, x = (s : Int) → s ≤ L.length → p ≤ rm sz L s → s < mo → (okT sz mo (up sz L s p) r t ↔ oer (mny (b ++ [x])) t = 0 ∧ (∀ y, usd ps ((b ++ [x]) ++ t) y ≤ sz) ∧ mny ((b ++ [x]) ++ t) ≤ mo) := by
      intro s hs h1 hf h2
      subst hs
      have hc := h.child hb h1
      rw [hp1] at hc
      refine okT_iff hj r (b ++ [(s : Int)]) (up sz L s p) t hc (by simp only [List.length_append, List.length_cons, List.length_nil]; exact hp2) (fun y => ?_) (by rw [mny_snoc]; omega) (by simpa using ht)
      rw [List.length_append, List.length_singleton, hut y]
      by_cases e : (s : Int) = y
      · rw [if_pos e, ← e]
        have := h.rm h1
        omega
      · rw [if_neg e]
        have := hu y
        omega
    unfold okT oer
    constructor
    · rintro ⟨s, t', he, h1, h2, hf, hk⟩
      obtain ⟨hx, rfl⟩ := List.cons.inj he
      obtain ⟨m1, m2, m3⟩ := (main s hx h1 hf h2).1 hk
      rw [List.append_assoc, List.singleton_append] at m3
      simp only [List.append_assoc, List.singleton_append] at m2
      rw [if_neg (by omega), if_neg (by omega)]
      rw [mny_snoc] at m1
      exact ⟨m1, m2, m3⟩
    · rintro ⟨m1, m2, m3⟩
      split at m1
      · omega
      · split at m1
        · omega
        · rename_i hx0 hx1
          have hmx : x < mny (b ++ x :: t) := mny_lt (by simp)
          have h1 : x.toNat ≤ L.length := by omega
          have hf : p ≤ rm sz L x.toNat := by
            have e1 := m2 x
            rw [hut2 x, hut x, if_pos rfl] at e1
            have e2 := hnn x
            rw [h.rm h1, show ((x.toNat : Nat) : Int) = x by omega]
            omega
          refine ⟨x.toNat, t, by rw [show ((x.toNat : Nat) : Int) = x by omega], h1, by omega, hf, ?_⟩
          refine (main x.toNat (by omega) h1 hf (by omega)).2 ⟨?_, ?_, ?_⟩
          · rw [mny_snoc]; exact m1
          · simp only [List.append_assoc, List.singleton_append]; exact m2
          · rw [List.append_assoc, List.singleton_append]; exact m3
theorem apl_iff {sz : Int} {ps : List Int} {mo : Nat} (hj : Job sz ps) {q : List Int} : q ∈ apl sz ps mo ↔ Pln sz ps q ∧ mny q ≤ mo := by
  unfold apl
  have hlo := hj.lo
  rw [mem_pl]
  constructor
  · rintro ⟨t, ht, hk⟩
    rw [List.nil_append] at ht
    subst ht
    have hl : q.length = ps.length := apl_qlen (mo := mo) (sz := sz) (by unfold apl; exact (mem_pl ps [] [] q).2 ⟨q, by simp, hk⟩)
    obtain ⟨h1, h2, h3⟩ := (okT_iff hj ps [] [] q (Rs.nil hj) rfl (fun x => by simp [usd]; omega) (by rw [mny_nil]; omega) hl).1 hk
    exact ⟨⟨hj, hl, h1, fun x _ => h2 x⟩, h3⟩
  · rintro ⟨hp, hm⟩
    refine ⟨q, by simp, ?_⟩
    refine (okT_iff hj ps [] [] q (Rs.nil hj) rfl (fun x => by simp [usd]; omega) (by rw [mny_nil]; omega) hp.len).2 ⟨hp.ord, fun x => ?_, hm⟩
    rw [List.nil_append]
    by_cases hx : x ∈ q
    · exact hp.fit x hx
    · rw [usd_none hx]; omega
/-- The first plan with the fewest sheets. -/
def fst (sz : Int) (ps : List Int) : List Int := (apl sz ps (fw sz ps)).headD []
theorem fwS_eq {sz : Int} {ps : List Int} (hj : Job sz ps) : fwS sz ps = ((fw sz ps : Int), 0) := by unfold fwS; rw [if_neg (by simpa using chk_job.2 hj)]
theorem cnS_eq {sz : Int} {ps : List Int} (hj : Job sz ps) : cnS sz ps = (((apl sz ps (fw sz ps)).length : Int), 0) := by unfold cnS; rw [if_neg (by simpa using chk_job.2 hj)]
/-- A piece's length. -/
def pc (l : List Int) (i : Int) : Int := l.getD i.toNat 0
theorem idx_pc {l : List Int} {i : Int} (h0 : 0 ≤ i) (h1 : i < l.length) : idx l i = some (pc l i) := by
  rw [idx_int (k := i.toNat) (by omega) (by omega)]
  simp [pc, show i.toNat < l.length by omega]
theorem pc_mem {l : List Int} {i : Int} (h0 : 0 ≤ i) (h1 : i < l.length) : pc l i ∈ l := by
  unfold pc
  rw [List.getD_eq_getElem?_getD, List.getElem?_eq_getElem (by omega), Option.getD_some]
  exact List.getElem_mem _
/-- Numbers are put into a list that falls, and numbers one after the other. -/
def insR (c : Int → Int → Bool) (x : Int) : List Int → List Int
  | [] => [x]
  | y :: Q => bif c x y then y :: insR c x Q else x :: y :: Q
def srt (c : Int → Int → Bool) : List Int → List Int → List Int
  | Q, [] => Q
  | Q, x :: r => srt c (insR c x Q) r
theorem insR_perm (c : Int → Int → Bool) (x : Int) : ∀ Q, (insR c x Q).Perm (x :: Q)
  | [] => List.Perm.refl _
  | y :: Q => by
    unfold insR
    cases c x y
    · exact List.Perm.refl _
    · exact (List.Perm.cons y (insR_perm c x Q)).trans (List.Perm.swap x y Q)
theorem insR_len (c : Int → Int → Bool) (x : Int) (Q : List Int) : (insR c x Q).length = Q.length + 1 := (insR_perm c x Q).length_eq
theorem srt_perm (c : Int → Int → Bool) : ∀ r Q, (srt c Q r).Perm (r ++ Q)
  | [], Q => List.Perm.refl _
  | x :: r, Q => by
    unfold srt
    refine (srt_perm c r _).trans (((insR_perm c x Q).append_left r).trans ?_)
    exact List.perm_middle
theorem insR_sort {c : Int → Int → Bool} {R : Int → Int → Prop} (ht : ∀ i j k, R i j → R j k → R i k) {x : Int} : ∀ {Q : List Int}, (∀ y ∈ Q, (c x y = true → R x y) ∧ (c x y = false → R y x)) → Q.Pairwise (fun a b => R b a) → (insR c x Q).Pairwise (fun a b => R b a)
  | [], _, _ => by simp [insR]
  | y :: Q, h, hp => by
    rw [List.pairwise_cons] at hp
    unfold insR
    cases e : c x y
    · rw [cond_false]
      have hy := (h y (by simp)).2 e
      refine List.pairwise_cons.2 ⟨fun z hz => ?_, List.pairwise_cons.2 hp⟩
      rcases List.mem_cons.1 hz with e' | hz
      · subst e'; exact hy
      · exact ht _ _ _ (hp.1 z hz) hy
    · rw [cond_true]
      refine List.pairwise_cons.2 ⟨fun z hz => ?_, insR_sort ht (fun y hy => h y (by simp [hy])) hp.2⟩
      rcases List.mem_cons.1 ((insR_perm c x Q).mem_iff.1 hz) with e' | hz
      · subst e'; exact (h y (by simp)).1 e
      · exact hp.1 z hz
theorem srt_sort {c : Int → Int → Bool} {R : Int → Int → Prop} (ht : ∀ i j k, R i j → R j k → R i k) {P : Int → Prop} (hc : ∀ x y, P x → P y → y < x → (c x y = true → R x y) ∧ (c x y = false → R y x)) : ∀ {r Q : List Int}, (∀ x ∈ r, P x) → (∀ x ∈ Q, P x) → (∀ x ∈ r, ∀ y ∈ Q, y < x) → r.Pairwise (· < ·) → Q.Pairwise (fun a b => R b a) → (srt c Q r).Pairwise (fun a b => R b a)
  | [], Q, _, _, _, _, hQ => hQ
  | x :: r, Q, pr, pQ, hlt, hr, hQ => by
    unfold srt
    rw [List.pairwise_cons] at hr
    refine srt_sort ht hc (fun y hy => pr y (by simp [hy])) (fun y hy => ?_) (fun y hy z hz => ?_) hr.2 (insR_sort ht (fun y hy => hc x y (pr x (by simp)) (pQ y hy) (hlt x (by simp) y hy)) hQ)
    · rcases List.mem_cons.1 ((insR_perm c x Q).mem_iff.1 hy) with e | hy
      · subst e; exact pr y (by simp)
      · exact pQ y hy
    · rcases List.mem_cons.1 ((insR_perm c x Q).mem_iff.1 hz) with e | hz
      · subst e; exact hr.1 y hy
      · exact hlt y (by simp [hy]) z hz
theorem idx_at {α : Type} {A r : List α} {y : α} {k : Nat} (h : A.length = k) : idx (A ++ y :: r) (k : Int) = some y := by
  rw [idx_nat (by simp; omega)]
  simp [← h]
theorem set_at {α : Type} {A r : List α} {y z : α} {k : Nat} (h : A.length = k) : (A ++ y :: r).set k z = A ++ z :: r := by
  subst h
  induction A with
  | nil => rfl
  | cons a A ih => simp only [List.cons_append, List.length_cons, List.set_cons_succ, ih]
def cmf (l : List Int) (x y : Int) : Bool := decide (pc l y < pc l x)
theorem cmpf (n : Nat × Nat) {l : List Int} (hb : ∀ s ∈ l, 1 ≤ s ∧ s ≤ 24) {i j : Int} (hi : 0 ≤ i ∧ i < l.length) (hj : 0 ≤ j ∧ j < l.length) : ∃ r : Int, D97 n i j l = some r ∧ decide (r < 0) = cmf l i j := by
  unfold D97 cmf
  rw [idx_pc hi.1 hi.2, idx_pc hj.1 hj.2]
  have o1 := hb _ (pc_mem hi.1 hi.2)
  have o2 := hb _ (pc_mem hj.1 hj.2)
  refine ⟨pc l j - pc l i, ?_, ?_⟩
  · simp only [Option.bind_some]
    rw [wr_ok (by omega) (by omega)]
  · exact decide_eq_decide.2 (by omega)
theorem inf_loop (n : Nat × Nat) (l : List Int) (hb : ∀ s ∈ l, 1 ≤ s ∧ s ≤ 24) (f : Int → Int → Int → List Int → List Int → Option R105c97io1001) (b i : Int) (x : Int) (hx : 0 ≤ x ∧ x < l.length) : ∀ (m : Nat) (Q T : List Int), Q.length < m → Q.length < 1000 → (∀ y ∈ Q, 0 ≤ y ∧ y < l.length) →
    DL105c97io1001_2 n f m 0 b i (Q.length : Int) (Q.reverse ++ x :: T) l = f 0 b (wr .i64 (i + 1)) ((insR (cmf l) x Q).reverse ++ T) l
  | 0, Q, T, h, _, _ => by omega
  | m + 1, [], T, h, _, hQ => by
    rw [DL105c97io1001_2_succ]
    unfold DF105c97io1001_2
    simp [insR]
  | m + 1, y :: Q, T, h, h8, hQ => by
    rw [DL105c97io1001_2_succ]
    unfold DF105c97io1001_2
    rw [List.length_cons] at h h8
    have hy := hQ y (by simp)
    obtain ⟨r, hr, hd⟩ := cmpf n hb hx hy
    have ih := inf_loop n l hb f b i x hx m Q (y :: T) (by omega) (by omega) (fun z hz => hQ z (by simp [hz]))
    have e : (y :: Q).reverse ++ x :: T = Q.reverse ++ y :: x :: T := by simp
    have w : wr .i64 (((y :: Q).length : Int) - 1) = (Q.length : Int) := by rw [List.length_cons, wr_ok (by omega) (by omega)]; omega
    have a1 : ∀ T' : List Int, idx (Q.reverse ++ y :: x :: T') ((y :: Q).length : Int) = some x := fun T' => by
      have := idx_at (A := Q.reverse ++ [y]) (r := T') (y := x) (k := (y :: Q).length) (by simp)
      simpa using this
    have a2 : ∀ T' : List Int, idx (Q.reverse ++ y :: T') (Q.length : Int) = some y := fun T' => idx_at (by simp)
    have a3 : (Q.reverse ++ y :: x :: T).set (y :: Q).length y = Q.reverse ++ y :: y :: T := by
      have := set_at (A := Q.reverse ++ [y]) (r := T) (y := x) (z := y) (k := (y :: Q).length) (by simp)
      rw [List.append_assoc, List.append_assoc] at this
      exact this
    have a4 : (Q.reverse ++ y :: y :: T).set Q.length x = Q.reverse ++ x :: y :: T := set_at (by simp)
    rw [e]
    rw [decide_eq_true (show (((y :: Q).length : Nat) : Int) > 0 by rw [List.length_cons]; omega), w]
    simp only [beq_self_eq_true, cond_true]
    rw [inB_nat (show (y :: Q).length < (Q.reverse ++ y :: x :: T).length by simp <;> omega), inB_nat (show Q.length < (Q.reverse ++ y :: x :: T).length by simp <;> omega)]
    simp only [cond_true, a1, a2, Option.bind_some, hr, hd]
    unfold insR
    cases cmf l x y
    · simp only [cond_false]
      congr 1
      simp
    · simp only [cond_true]
      rw [Int.toNat_natCast, Int.toNat_natCast, a3, a2, inB_nat (show Q.length < (Q.reverse ++ y :: y :: T).length by simp <;> omega)]
      simp only [cond_true, Option.bind_some, a4, ih]
      congr 1
      simp
theorem sof_loop (n : Nat × Nat) (hn : 1000 ≤ n.1) (l : List Int) (hb : ∀ s ∈ l, 1 ≤ s ∧ s ≤ 24) : ∀ (m : Nat) (r Q : List Int), r.length < m → Q.length + r.length < 900 → (∀ y ∈ Q, 0 ≤ y ∧ y < l.length) → (∀ y ∈ r, 0 ≤ y ∧ y < l.length) →
    DL105c97io1001_1 n m 0 ((Q.length + r.length : Nat) : Int) (Q.length : Int) (Q.reverse ++ r) l = some ((), (srt (cmf l) Q r).reverse, l, ())
  | 0, r, Q, h, _, _, _ => by omega
  | m + 1, [], Q, h, _, _, _ => by
    rw [DL105c97io1001_1_succ]
    unfold DF105c97io1001_1
    rw [dlt_f (by simp), cond_false]
    simp [srt]
  | m + 1, x :: r, Q, h, h8, hQ, hr => by
    rw [DL105c97io1001_1_succ]
    unfold DF105c97io1001_1
    rw [List.length_cons] at h h8
    have ih := sof_loop n hn l hb m r (insR (cmf l) x Q) (by omega) (by rw [insR_len]; omega) (fun y hy => by
      rcases List.mem_cons.1 ((insR_perm _ x Q).mem_iff.1 hy) with e | hy
      · subst e; exact hr y (by simp)
      · exact hQ y hy) (fun y hy => hr y (by simp [hy]))
    rw [dlt_t (by simp), cond_true, inf_loop n l hb _ _ _ x (hr x (by simp)) n.1 Q r (by omega) (by omega) hQ, wr_succ (by omega)]
    rw [insR_len] at ih
    rw [show Q.length + 1 + r.length = Q.length + (x :: r).length by rw [List.length_cons]; omega] at ih
    rw [ih]
    rfl
theorem sortf_eq {n : Nat × Nat} (hn : 1000 ≤ n.1) {l : List Int} (hb : ∀ s ∈ l, 1 ≤ s ∧ s ≤ 24) {r : List Int} (h7 : r.length ≤ 8) (hr : ∀ y ∈ r, 0 ≤ y ∧ y < l.length) : D96c97io11 n r l = some ((), (srt (cmf l) [] r).reverse, l, ()) := by
  have hs5 : D105c97io1001 n r 0 (r.length : Int) l = some ((), (srt (cmf l) [] r).reverse, l, ()) := by
    unfold D105c97io1001
    match r, h7, hr with
    | [], _, _ =>
      have : n.1 = (n.1 - 1) + 1 := by omega
      rw [this, DL105c97io1001_1_succ]
      unfold DF105c97io1001_1
      rw [show wr .i64 ((0 : Int) + 1) = 1 by rw [wr_ok (by omega) (by omega)]; omega]
      rfl
    | x :: r, h7, hr =>
      have := sof_loop n hn l hb n.1 r [x] (by simp at h7; omega) (by simp at h7 ⊢; omega) (fun y hy => by rw [List.mem_singleton] at hy; subst hy; exact hr y (by simp)) (fun y hy => hr y (by simp [hy]))
      rw [show wr .i64 ((0 : Int) + 1) = 1 by rw [wr_ok (by omega) (by omega)]; omega]
      simpa [srt, insR, Nat.add_comm] using this
  have hl : (srt (cmf l) [] r).reverse.length = r.length := by
    rw [List.length_reverse, (srt_perm (cmf l) r []).length_eq]
    simp
  have hs4 : D104c97io101 n r (r.length : Int) l = some ((), (srt (cmf l) [] r).reverse, l, ()) := by
    unfold D104c97io101
    obtain ⟨k, hk⟩ : ∃ k, n.1 = k + 1 := ⟨n.1 - 1, by omega⟩
    rw [hk, DL104c97io101_1_succ]
    unfold DF104c97io101_1
    rw [decide_eq_false (show ¬ (20 : Int) ≤ (r.length : Int) by omega), cond_false, hs5]
    simp only [Option.bind_some]
    rw [show Nat.beq (srt (cmf l) [] r).reverse.length r.length = true by rw [hl]; exact Nat.beq_refl _, cond_true, hk, DL104c97io101_2_succ]
    unfold DF104c97io101_2
    rw [decide_eq_false (show ¬ (20 : Int) < (r.length : Int) by omega), cond_false]
  unfold D96c97io11
  rw [hs4]
  simp only [Option.bind_some]
  rw [show Nat.beq (srt (cmf l) [] r).reverse.length r.length = true by rw [hl]; exact Nat.beq_refl _, cond_true]
/-- The falling order. -/
def fal (ps : List Int) : List Int := (srt (cmf ps) [] ((List.range ps.length).map fun i : Nat => (i : Int))).reverse
theorem fal_loop (n : Nat × Nat) (hn : 1000 ≤ n.1) {ps : List Int} (hb : ∀ s ∈ ps, 1 ≤ s ∧ s ≤ 24) (h8 : ps.length ≤ 8) : ∀ (m k : Nat), k ≤ ps.length → ps.length - k < m →
    DL77_1 n m (ps.length : Int) (k : Int) ps (((List.range k).map fun i : Nat => (i : Int)) ++ List.replicate (ps.length - k) 0) = some (fal ps)
  | 0, k, _, h => by omega
  | m + 1, k, hk, h => by
    rw [DL77_1_succ]
    unfold DF77_1
    by_cases hlt : k < ps.length
    · have hrep : List.replicate (ps.length - k) (0 : Int) = 0 :: List.replicate (ps.length - (k + 1)) 0 := by
        rw [← List.replicate_succ]; congr 1; omega
      have hk2 : ((List.range k).map fun i : Nat => (i : Int)).length = k := by simp
      have e2 : (List.range (k + 1)).map (fun i : Nat => (i : Int)) = ((List.range k).map fun i : Nat => (i : Int)) ++ [(k : Int)] := by
        rw [List.range_succ, List.map_append]; rfl
      rw [dlt_t hlt, cond_true, hrep, inB_nat (by simp), cond_true, idx_at hk2, Option.bind_some, Int.toNat_natCast, set_at hk2, wr_succ (by omega)]
      have ih := fal_loop n hn hb h8 m (k + 1) (by omega) (by omega)
      rw [e2, List.append_assoc, List.singleton_append] at ih
      exact ih
    · have e : k = ps.length := by omega
      subst e
      have hr : ∀ y ∈ (List.range ps.length).map (fun i : Nat => (i : Int)), 0 ≤ y ∧ y < ps.length := fun y hy => by
        obtain ⟨i, hi, rfl⟩ := List.mem_map.1 hy
        have := List.mem_range.1 hi
        omega
      rw [dlt_f hlt, cond_false, Nat.sub_self, List.replicate_zero, List.append_nil, sortf_eq hn hb (by simp; omega) hr, Option.bind_some]
      have hl : (srt (cmf ps) [] ((List.range ps.length).map fun i : Nat => (i : Int))).reverse.length = ((List.range ps.length).map fun i : Nat => (i : Int)).length := by
        rw [List.length_reverse, (srt_perm (cmf ps) _ []).length_eq]
        simp
      rw [show Nat.beq (srt (cmf ps) [] ((List.range ps.length).map fun i : Nat => (i : Int))).reverse.length ((List.range ps.length).map fun i : Nat => (i : Int)).length = true by rw [hl]; exact Nat.beq_refl _, cond_true]
      rfl
theorem fall_eq {n : Nat × Nat} (hn : 1000 ≤ n.1) {ps : List Int} (hb : ∀ s ∈ ps, 1 ≤ s ∧ s ≤ 24) (h8 : ps.length ≤ 8) : D77 n ps = some (fal ps) := by
  unfold D77
  rw [decide_eq_true (show (0 : Int) ≤ (ps.length : Int) by omega), decide_eq_true (show (ps.length : Int) ≤ (ps.length : Int) by omega), decide_eq_true (show (ps.length : Int) ≤ lim by unfold lim; omega), Int.toNat_natCast, List.length_replicate]
  have := fal_loop n hn hb h8 n.1 0 (by omega) (by omega)
  exact this
theorem fal_perm (ps : List Int) : (fal ps).Perm ((List.range ps.length).map fun i : Nat => (i : Int)) := by
  unfold fal
  refine (List.reverse_perm _).trans ((srt_perm _ _ []).trans ?_)
  rw [List.append_nil]
/-- The order of the falling order. -/
def Fbf (ps : List Int) (i j : Int) : Prop := pc ps j < pc ps i ∨ pc ps i = pc ps j ∧ i < j
theorem fal_sort (ps : List Int) : (fal ps).Pairwise (Fbf ps) := by
  unfold fal
  rw [List.pairwise_reverse]
  refine srt_sort (R := Fbf ps) (fun i j k h1 h2 => by unfold Fbf at *; omega) (P := fun _ => True) (fun x y _ _ hlt => ?_) (fun _ _ => trivial) (fun _ _ => trivial) (fun _ _ y hy => by cases hy) ?_ List.Pairwise.nil
  · unfold cmf Fbf
    refine ⟨fun h => ?_, fun h => ?_⟩
    · have := of_decide_eq_true h; omega
    · have := of_decide_eq_false h; omega
  · rw [List.pairwise_map]
    exact (List.pairwise_lt_range).imp (fun h => by omega)
end Go.Proofs.YtgmonagekfjnmaaDoor
set_option linter.unusedVariables false
set_option linter.unusedSimpArgs false
set_option maxRecDepth 100000
namespace Go.Proofs.YtgmonagekfjnmaaDoor
open Go.Vi
/-D 41 -/
/-D 88 -/
/-D 43 -/
/-D 45 -/
/-D 47 -/
/-D 6 -/
end Go.Proofs.YtgmonagekfjnmaaDoor
set_option linter.unusedVariables false
set_option linter.unusedSimpArgs false
namespace Go.Proofs.YtgmonagekfjnmaaDoor
open Go.Vi
/-! Bounds. -/
def bal (sz k : Int) : List Int → Int
  | [] => 0
  | p :: r => (if sz - k < p ∨ sz < 2 * p then 1 else 0) + bal sz k r
def blf (sz k : Int) : List Int → Int
  | [] => 0
  | p :: r => (if sz - k < p then 0 else if sz < 2 * p then sz - p else 0) + blf sz k r
def bsm (sz k : Int) : List Int → Int
  | [] => 0
  | p :: r => (if sz - k < p ∨ sz < 2 * p then 0 else if k ≤ p then p else 0) + bsm sz k r
/-- A bound. -/
def bnd (sz : Int) (ps : List Int) (k : Int) : Int := bal sz k ps + (max (bsm sz k ps - blf sz k ps) 0 + sz - 1) / sz
theorem bound_loop (n : Nat × Nat) {sz k : Int} {ps : List Int} (hj : Job sz ps) (hk : 0 ≤ k ∧ k ≤ 24) : ∀ (m i : Nat) (a o : Int), i ≤ ps.length → ps.length - i < m → 0 ≤ a → a ≤ i → -24 * (i : Int) ≤ o → o ≤ 24 * i →
    DL87_1 n m sz k a o ps (ps.length : Int) (i : Int) = some (a + bal sz k (ps.drop i) + (max (o + bsm sz k (ps.drop i) - blf sz k (ps.drop i)) 0 + sz - 1) / sz)
  | 0, i, a, o, _, h, _, _, _, _ => by omega
  | m + 1, i, a, o, hi, h, ha, ha2, ho, ho2 => by
    have h8 := hj.len
    have hlo := hj.lo
    have hhi := hj.hi
    rw [DL87_1_succ]
    unfold DF87_1
    by_cases hlt : i < ps.length
    · have hp := hj.ok _ (List.getElem_mem hlt)
      rw [dlt_t hlt, cond_true, idx_nat hlt, Option.bind_some, drop_cons hlt]
      unfold DL87_2
      simp only [bal, blf, bsm]
      rw [wr_succ (by omega), wr_ok (x := sz - k) (by omega) (by omega), wr_ok (x := 2 * ps[i]) (by omega) (by omega), wr_ok (x := a + 1) (by omega) (by omega), wr_ok (x := sz - ps[i]) (by omega) (by omega), wr_ok (x := o - (sz - ps[i])) (by omega) (by omega), wr_ok (x := o + ps[i]) (by omega) (by omega)]
      have ih := fun a o h1 h2 h3 h4 => bound_loop n hj hk m (i + 1) a o (by omega) (by omega) h1 h2 h3 h4
      by_cases e1 : sz - k < ps[i]
      · rw [decide_eq_true (show ps[i] > sz - k from e1), cond_true, ih _ _ (by omega) (by omega) (by omega) (by omega), if_pos (.inl e1), if_pos e1, if_pos (.inl e1)]
        congr 2
        · omega
        · congr 2
          omega
      · rw [decide_eq_false (show ¬ ps[i] > sz - k from e1), cond_false, if_neg e1]
        by_cases e2 : sz < 2 * ps[i]
        · rw [decide_eq_true (show 2 * ps[i] > sz from e2), cond_true, ih _ _ (by omega) (by omega) (by omega) (by omega), if_pos (.inr e2), if_pos e2, if_pos (.inr e2)]
          congr 2
          · omega
          · congr 2
            omega
        · rw [decide_eq_false (show ¬ 2 * ps[i] > sz from e2), cond_false, if_neg (show ¬ (sz - k < ps[i] ∨ sz < 2 * ps[i]) by omega), if_neg e2, if_neg (show ¬ (sz - k < ps[i] ∨ sz < 2 * ps[i]) by omega)]
          by_cases e3 : k ≤ ps[i]
          · rw [decide_eq_true (show ps[i] ≥ k from e3), cond_true, ih _ _ (by omega) (by omega) (by omega) (by omega), if_pos e3]
            congr 2
            · omega
            · congr 2
              omega
          · rw [decide_eq_false (show ¬ ps[i] ≥ k from e3), cond_false, ih _ _ (by omega) (by omega) (by omega) (by omega), if_neg e3]
            congr 2
            · omega
            · congr 2
              omega
    · rw [dlt_f hlt, cond_false, List.drop_of_length_le (by omega)]
      simp only [bal, blf, bsm]
      have hmax : (if 0 > o then (0 : Int) else o) = max o 0 := by
        by_cases e : 0 > o
        · rw [if_pos e]; omega
        · rw [if_neg e]; omega
      rw [beq_false_of_ne (show sz ≠ 0 by omega), cond_false, hmax, wr_ok (x := max o 0 + sz) (by omega) (by omega), wr_ok (x := max o 0 + sz - 1) (by omega) (by omega), Int.tdiv_eq_ediv_of_nonneg (by omega)]
      have hd1 : 0 ≤ (max o 0 + sz - 1) / sz := Int.ediv_nonneg (by omega) (by omega)
      have hd2 : (max o 0 + sz - 1) / sz ≤ max o 0 + sz - 1 := Int.ediv_le_self _ (by omega)
      rw [wr_ok (x := (max o 0 + sz - 1) / sz) (by omega) (by omega), wr_ok (by omega) (by omega)]
      congr 2
      · omega
      · congr 2
        omega
theorem bound_eq {n : Nat × Nat} (hn : 1000 ≤ n.1) {sz k : Int} {ps : List Int} (hj : Job sz ps) (hk : 0 ≤ k ∧ k ≤ 24) : D87 n sz ps k = some (bnd sz ps k) := by
  unfold D87
  have := bound_loop n hj hk n.1 0 0 0 (by omega) (by have := hj.len; omega) (by omega) (by omega) (by omega) (by omega)
  rw [show ((0 : Nat) : Int) = 0 from rfl] at this
  rw [this, List.drop_zero]
  unfold bnd
  simp
theorem half_ok {sz : Int} (h : 1 ≤ sz ∧ sz ≤ 24) : wr .i64 (Int.tdiv sz 2) = sz / 2 ∧ 0 ≤ sz / 2 ∧ sz / 2 ≤ 12 := by
  rw [Int.tdiv_eq_ediv_of_nonneg (by omega)]
  exact ⟨wr_ok (by omega) (by omega), by omega, by omega⟩
def bdS (sz : Int) (ps : List Int) (k : Int) : Int × Int := if chk sz ps ≠ 0 then (0, chk sz ps) else if k < 0 ∨ sz / 2 < k then (0, 1) else (bnd sz ps k, 0)
theorem Bound_eq {n : Nat × Nat} (hn : 1000 ≤ n.1) (sz : Int) (ps : List Int) (k : Int) : D42 n sz ps k = some (bdS sz ps k) := by
  unfold D42 bdS
  rw [Check_eq hn, Option.bind_some]
  by_cases h : chk sz ps = 0
  · have hj := chk_job.1 h
    obtain ⟨e, h0, h12⟩ := half_ok ⟨hj.lo, hj.hi⟩
    rw [h, bne_self_eq_false, cond_false, if_neg (by simp), e]
    by_cases h1 : k < 0
    · rw [decide_eq_true h1, if_pos (.inl h1)]
      rfl
    · rw [decide_eq_false h1]
      simp only [beq_self_eq_true, cond_true, show ((2 : Nat) == 0) = false from rfl, cond_false, Option.bind_some]
      by_cases h2 : sz / 2 < k
      · rw [decide_eq_true (show k > sz / 2 from h2), if_pos (.inr h2), cond_true]
      · rw [decide_eq_false (show ¬ k > sz / 2 from h2), if_neg (by omega), cond_false, bound_eq hn hj ⟨by omega, by omega⟩, Option.bind_some]
  · rw [show (chk sz ps != 0) = true by simpa using h, cond_true, if_pos h]
def divT : List Int := [0, 2, 6, 10, 22, 34, 78, 130, 278, 522, 1062, 2050, 4190, 8194, 16518, 32810, 65814, 131074, 262734, 524290, 1049654, 2097290, 4196358, 8388610, 16781662]
def dbit (x p : Int) : Bool := (wr .u32 (BitVec.ofInt (IntKind.bits .u32) (Int.fdiv x (2 ^ (min (Int.toNat p) (IntKind.bits .u32)))) &&& BitVec.ofInt (IntKind.bits .u32) 1).toNat) == 0
theorem div_tab : ∀ s : Fin 25, ∀ p : Fin 25, 1 ≤ s.val → 1 ≤ p.val → dbit (divT.getD s.val 0) (p.val : Int) = !decide (s.val % p.val = 0) := by decide +kernel
theorem div_bit {s p : Int} (hs : 1 ≤ s ∧ s ≤ 24) (hp : 1 ≤ p ∧ p ≤ 24) : ∃ x, idx divT s = some x ∧ dbit x p = !decide (s % p = 0) := by
  have h := div_tab ⟨s.toNat, by omega⟩ ⟨p.toNat, by omega⟩ (by simp only []; omega) (by simp only []; omega)
  simp only [] at h
  have hl : s.toNat < divT.length := by
    have : divT.length = 25 := rfl
    omega
  refine ⟨divT[s.toNat], idx_int (by omega) hl, ?_⟩
  rw [List.getD_eq_getElem?_getD, List.getElem?_eq_getElem hl, Option.getD_some, show ((p.toNat : Nat) : Int) = p by omega] at h
  rw [h]
  congr 1
  apply decide_eq_decide.2
  have e1 : (s.toNat : Int) = s := by omega
  have e2 : (p.toNat : Int) = p := by omega
  constructor
  · intro hh
    rw [← e1, ← e2]
    exact_mod_cast hh
  · intro hh
    rw [← e1, ← e2] at hh
    exact_mod_cast hh
/-- Each one divides the one before it. -/
def Chn : Int → List Int → Prop
  | _, [] => True
  | s, p :: r => s % p = 0 ∧ Chn p r
instance Chn.dec : ∀ (s : Int) (l : List Int), Decidable (Chn s l)
  | _, [] => .isTrue trivial
  | s, p :: r => by
    unfold Chn
    have := Chn.dec p r
    exact inferInstance
theorem chain_loop (n : Nat × Nat) {ps : List Int} (hb : ∀ p ∈ ps, 1 ≤ p ∧ p ≤ 24) {o : List Int} (ho : ∀ i ∈ o, 0 ≤ i ∧ i < ps.length) (hl : o.length ≤ 8) : ∀ (m k : Nat) (s : Int), k ≤ o.length → o.length - k < m → 1 ≤ s ∧ s ≤ 24 →
    DL40_1 n m s ps (o.length : Int) (k : Int) o = some (decide (Chn s ((o.drop k).map (pc ps))), 0)
  | 0, k, s, _, h, _ => by omega
  | m + 1, k, s, hk, h, hs => by
    rw [DL40_1_succ]
    unfold DF40_1
    by_cases hlt : k < o.length
    · have hi := ho _ (List.getElem_mem hlt)
      have hp := hb _ (pc_mem hi.1 hi.2)
      obtain ⟨x, hx, hd⟩ := div_bit hs hp
      rw [dlt_t hlt, cond_true, inB_nat hlt, cond_true, idx_nat hlt, Option.bind_some]
      rw [show idx ([0, 2, 6, 10, 22, 34, 78, 130, 278, 522, 1062, 2050, 4190, 8194, 16518, 32810, 65814, 131074, 262734, 524290, 1049654, 2097290, 4196358, 8388610, 16781662] : List Int) s = some x from hx, Option.bind_some, idx_pc hi.1 hi.2, Option.bind_some, decide_eq_false (by omega), cond_false, Option.bind_some, drop_cons hlt, List.map_cons]
      rw [show ((wr .u32 (BitVec.ofInt (IntKind.bits .u32) (Int.fdiv x (2 ^ (min (Int.toNat (pc ps o[k])) (IntKind.bits .u32)))) &&& BitVec.ofInt (IntKind.bits .u32) 1).toNat) == 0) = !decide (s % pc ps o[k] = 0) from hd, wr_succ (by omega), chain_loop n hb ho hl m (k + 1) _ (by omega) (by omega) hp]
      by_cases e : s % pc ps o[k] = 0
      · rw [decide_eq_true e, Bool.not_true, cond_false]
        congr 2
        apply decide_eq_decide.2
        exact ⟨fun h => ⟨e, h⟩, fun h => h.2⟩
      · rw [decide_eq_false e, Bool.not_false, cond_true]
        congr 2
        symm
        apply decide_eq_false
        exact fun hh => e hh.1
    · rw [dlt_f hlt, cond_false, List.drop_of_length_le (by omega)]
      rfl
/-- Lengths are a chain. -/
def Cmp (x y : Int) : Prop := x % y = 0 ∨ y % x = 0
def IsC (sz : Int) (ps : List Int) : Prop := (∀ p ∈ ps, sz % p = 0) ∧ ps.Pairwise Cmp
instance (x y : Int) : Decidable (Cmp x y) := inferInstanceAs (Decidable (_ ∨ _))
instance (sz : Int) (ps : List Int) : Decidable (IsC sz ps) := inferInstanceAs (Decidable (_ ∧ _))
theorem mod_trans {a b c : Int} (h1 : a % b = 0) (h2 : b % c = 0) : a % c = 0 :=
  Int.emod_eq_zero_of_dvd (Int.dvd_trans (Int.dvd_of_emod_eq_zero h2) (Int.dvd_of_emod_eq_zero h1))
theorem chn_iff : ∀ (l : List Int) (s : Int), Chn s l ↔ (∀ p ∈ l, s % p = 0) ∧ l.Pairwise (fun x y => x % y = 0)
  | [], s => by simp [Chn]
  | p :: r, s => by
    unfold Chn
    rw [chn_iff r p, List.pairwise_cons]
    constructor
    · rintro ⟨h1, h2, h3⟩
      refine ⟨fun q hq => ?_, h2, h3⟩
      rcases List.mem_cons.1 hq with rfl | hq
      · exact h1
      · exact mod_trans h1 (h2 q hq)
    · rintro ⟨h1, h2, h3⟩
      exact ⟨h1 p (by simp), h2, h3⟩
theorem chn_fall {s : Int} {l : List Int} (hb : ∀ p ∈ l, 1 ≤ p) (hf : l.Pairwise (fun x y => y ≤ x)) : Chn s l ↔ IsC s l := by
  rw [chn_iff]
  unfold IsC
  constructor
  · rintro ⟨h1, h2⟩
    exact ⟨h1, h2.imp (fun h => .inl h)⟩
  · rintro ⟨h1, h2⟩
    refine ⟨h1, ?_⟩
    have : ∀ {l : List Int}, (∀ p ∈ l, 1 ≤ p) → l.Pairwise (fun x y => y ≤ x) → l.Pairwise Cmp → l.Pairwise (fun x y => x % y = 0) := by
      intro l
      induction l with
      | nil => intros; exact List.Pairwise.nil
      | cons x r ih =>
        intro hb hf h2
        rw [List.pairwise_cons] at hf h2 ⊢
        refine ⟨fun y hy => ?_, ih (fun p hp => hb p (by simp [hp])) hf.2 h2.2⟩
        have h3 := hf.1 y hy
        have hx := hb x (by simp)
        have hy1 := hb y (by simp [hy])
        rcases h2.1 y hy with h | h
        · exact h
        · have := Int.le_of_dvd (by omega) (Int.dvd_of_emod_eq_zero h)
          have e : x = y := by omega
          rw [e, Int.emod_self]
    exact this hb hf h2
theorem cmp_symm {x y : Int} (h : Cmp x y) : Cmp y x := Or.symm h
theorem isC_perm {s : Int} {a b : List Int} (h : a.Perm b) : IsC s a ↔ IsC s b := by
  unfold IsC
  rw [h.pairwise_iff cmp_symm]
  constructor
  · rintro ⟨h1, h2⟩
    exact ⟨fun p hp => h1 p (h.mem_iff.2 hp), h2⟩
  · rintro ⟨h1, h2⟩
    exact ⟨fun p hp => h1 p (h.mem_iff.1 hp), h2⟩
theorem map_pc (ps : List Int) : ((List.range ps.length).map fun i : Nat => (i : Int)).map (pc ps) = ps := by
  apply List.ext_getElem
  · simp
  · intro i h1 h2
    simp only [List.getElem_map, List.getElem_range, pc, Int.toNat_natCast]
    rw [List.getD_eq_getElem?_getD, List.getElem?_eq_getElem h2, Option.getD_some]
theorem fal_rng (ps : List Int) : ∀ i ∈ fal ps, 0 ≤ i ∧ i < ps.length := fun i hi => by
  obtain ⟨k, hk, rfl⟩ := List.mem_map.1 ((fal_perm ps).mem_iff.1 hi)
  have := List.mem_range.1 hk
  omega
theorem fal_len (ps : List Int) : (fal ps).length = ps.length := by
  rw [(fal_perm ps).length_eq]; simp
theorem fal_map (ps : List Int) : ((fal ps).map (pc ps)).Perm ps := by
  have := (fal_perm ps).map (pc ps)
  rwa [map_pc] at this
theorem fal_down (ps : List Int) : ((fal ps).map (pc ps)).Pairwise (fun x y => y ≤ x) := by
  rw [List.pairwise_map]
  exact (fal_sort ps).imp (fun h => by unfold Fbf at h; omega)
def chS (sz : Int) (ps : List Int) : Bool × Int := if chk sz ps ≠ 0 then (false, chk sz ps) else (decide (IsC sz ps), 0)
theorem Chain_eq {n : Nat × Nat} (hn : 1000 ≤ n.1) (sz : Int) (ps : List Int) : D40 n sz ps = some (chS sz ps) := by
  unfold D40 chS
  rw [Check_eq hn, Option.bind_some]
  by_cases h : chk sz ps = 0
  · have hj := chk_job.1 h
    have hb : ∀ s ∈ ps, 1 ≤ s ∧ s ≤ 24 := fun s hs => by have := hj.ok s hs; have := hj.hi; omega
    have hl := fal_len ps
    have h8 := hj.len
    rw [h, bne_self_eq_false, cond_false, if_neg (by simp), fall_eq hn hb hj.len, Option.bind_some]
    have := chain_loop n hb (fal_rng ps) (by omega) n.1 0 sz (by omega) (by omega) ⟨hj.lo, hj.hi⟩
    rw [show ((0 : Nat) : Int) = 0 from rfl, List.drop_zero] at this
    rw [this]
    congr 2
    apply decide_eq_decide.2
    rw [chn_fall (fun p hp => (hb p ((fal_map ps).mem_iff.1 hp)).1) (fal_down ps), isC_perm (fal_map ps)]
  · rw [show (chk sz ps != 0) = true by simpa using h, cond_true, if_pos h]
theorem tmod_mod {a b : Int} (h : 0 ≤ a) : Int.tmod a b = a % b := Int.tmod_eq_emod_of_nonneg h
end Go.Proofs.YtgmonagekfjnmaaDoor
set_option linter.unusedVariables false
set_option linter.unusedSimpArgs false
set_option maxRecDepth 100000
namespace Go.Proofs.YtgmonagekfjnmaaDoor
open Go.Vi
/-D 49 -/
/-D 50 -/
/-D 51 -/
/-D 91io00111 -/
/-D 101f91io001110 -/
/-D 90c91io001 -/
/-D 52 -/
/-D 7 -/
end Go.Proofs.YtgmonagekfjnmaaDoor
set_option linter.unusedVariables false
set_option linter.unusedSimpArgs false
namespace Go.Proofs.YtgmonagekfjnmaaDoor
open Go.Vi
/-! Numbers by their first places. -/
def dd : List Int → List Int → List Int
  | met, [] => met
  | met, x :: l => dd (if x ∈ met then met else met ++ [x]) l
theorem dd_snoc (x : Int) : ∀ (l met : List Int), dd met (l ++ [x]) = if x ∈ dd met l then dd met l else dd met l ++ [x]
  | [], met => rfl
  | y :: l, met => dd_snoc x l _
theorem dd_pre : ∀ (l met : List Int), ∃ s, dd met l = met ++ s
  | [], met => ⟨[], by simp [dd]⟩
  | y :: l, met => by
    unfold dd
    obtain ⟨s, hs⟩ := dd_pre l (if y ∈ met then met else met ++ [y])
    split at hs
    · rename_i h
      exact ⟨s, by rw [if_pos h]; exact hs⟩
    · rename_i h
      exact ⟨y :: s, by rw [if_neg h, hs]; simp⟩
theorem dd_mem (x : Int) : ∀ (l met : List Int), x ∈ dd met l ↔ x ∈ met ∨ x ∈ l
  | [], met => by simp [dd]
  | y :: l, met => by
    unfold dd
    rw [dd_mem x l]
    split
    · rename_i h
      constructor
      · rintro (h1 | h1)
        · exact .inl h1
        · exact .inr (by simp [h1])
      · rintro (h1 | h1)
        · exact .inl h1
        · rcases List.mem_cons.1 h1 with rfl | h1
          · exact .inl h
          · exact .inr h1
    · simp only [List.mem_append, List.mem_cons, List.not_mem_nil, or_false, or_assoc]
def ps0 (x : Int) (l : List Int) : Int := fnd (fun y => x == y) 0 l
theorem fnd_app {x : Int} : ∀ {a : List Int} (b : List Int) (k : Nat), x ∈ a → fnd (fun y => x == y) k (a ++ b) = fnd (fun y => x == y) k a
  | [], _, _, h => by simp at h
  | y :: a, b, k, h => by
    simp only [List.cons_append, fnd]
    by_cases e : x = y
    · simp [e]
    · rw [if_neg (by simpa using e), if_neg (by simpa using e), fnd_app b (k + 1) ((List.mem_cons.1 h).resolve_left e)]
theorem fnd_new {x : Int} : ∀ {a : List Int} (b : List Int) (k : Nat), x ∉ a → fnd (fun y => x == y) k (a ++ x :: b) = k + a.length
  | [], b, k, _ => by simp [fnd]
  | y :: a, b, k, h => by
    simp only [List.mem_cons, not_or] at h
    simp only [List.cons_append, fnd]
    rw [if_neg (by simpa using h.1), fnd_new b (k + 1) h.2]
    simp only [List.length_cons]
    omega
theorem fnd_lt {x : Int} {a : List Int} (h : x ∈ a) : 0 ≤ ps0 x a ∧ ps0 x a < a.length := by
  unfold ps0
  have h1 := (fnd_mem x a).2 h
  rcases fnd_bnd (fun y => x == y) a 0 with ⟨h2, _⟩ | ⟨h2, h3, _⟩
  · omega
  · omega
theorem tid_map : ∀ (l met : List Int), tid met l = l.map fun x => ps0 x (dd met l)
  | [], met => rfl
  | x :: l, met => by
    unfold tid dd
    split
    · rename_i h
      rw [tid_map l, List.map_cons]
      congr 1
      obtain ⟨s, hs⟩ := dd_pre l met
      unfold ps0
      rw [hs, fnd_app s 0 h]
    · rename_i h
      rw [tid_map l, List.map_cons]
      congr 1
      obtain ⟨s, hs⟩ := dd_pre l (met ++ [x])
      unfold ps0
      rw [hs, List.append_assoc, List.singleton_append, fnd_new s 0 h]
      simp
theorem dd_take (l : List Int) : ∀ k, ∃ s, dd [] l = dd [] (l.take k) ++ s := fun k => by
  have : ∀ (a b met : List Int), dd met (a ++ b) = dd (dd met a) b := by
    intro a
    induction a with
    | nil => intro b met; rfl
    | cons y a ih => intro b met; exact ih b _
  have e := this (l.take k) (l.drop k) []
  rw [List.take_append_drop] at e
  rw [e]
  exact dd_pre _ _
theorem tid_mny (l : List Int) : ∀ k ≤ l.length, mny ((tid [] l).take k) = (dd [] (l.take k)).length
  | 0, _ => by simp [mny, dd]
  | k + 1, hk => by
    have ih := tid_mny l k (by omega)
    have hlt : k < l.length := by omega
    have hlt2 : k < (tid [] l).length := by rw [tid_len]; exact hlt
    rw [take_snoc hlt2, mny_snoc, ih, take_snoc hlt, dd_snoc]
    have e : (tid [] l)[k] = ps0 l[k] (dd [] l) := by simp [tid_map]
    rw [e]
    obtain ⟨s, hs⟩ := dd_take l k
    by_cases h : l[k] ∈ dd [] (l.take k)
    · rw [if_pos h]
      unfold ps0
      rw [hs, fnd_app s 0 h]
      have := fnd_lt h
      unfold ps0 at this
      omega
    · rw [if_neg h]
      obtain ⟨s2, hs2⟩ := dd_take l (k + 1)
      rw [take_snoc hlt, dd_snoc, if_neg h] at hs2
      unfold ps0
      rw [hs2, List.append_assoc, List.singleton_append, fnd_new s2 0 h]
      simp only [List.length_append, List.length_cons, List.length_nil]
      omega
/-! The reference's reading of groups. -/
/-- The first sheet with room, or the next one. -/
def ffp (p : Int) : List Int → Nat
  | [] => 0
  | x :: L => if p ≤ x then 0 else ffp p L + 1
theorem ffp_le (p : Int) : ∀ L, ffp p L ≤ L.length
  | [] => Nat.le_refl _
  | x :: L => by
    have := ffp_le p L
    unfold ffp
    split
    · omega
    · simp; omega
theorem ffp_room {p : Int} : ∀ {L : List Int} (h : ffp p L < L.length), p ≤ L[ffp p L]
  | [], h => by simp at h
  | x :: L, h => by
    by_cases e : p ≤ x
    · have : ffp p (x :: L) = 0 := by unfold ffp; rw [if_pos e]
      simp only [this]
      exact e
    · have he : ffp p (x :: L) = ffp p L + 1 := by simp only [ffp]; rw [if_neg e]
      simp only [he, List.getElem_cons_succ]
      rw [he, List.length_cons] at h
      exact ffp_room (by omega)
theorem ffp_below {p : Int} : ∀ {L : List Int} {s : Nat} (hs : s < L.length), s < ffp p L → L[s] < p
  | [], s, hs, _ => by simp at hs
  | x :: L, s, hs, h => by
    by_cases e : p ≤ x
    · have : ffp p (x :: L) = 0 := by unfold ffp; rw [if_pos e]
      omega
    · have he : ffp p (x :: L) = ffp p L + 1 := by simp only [ffp]; rw [if_neg e]
      rw [he] at h
      cases s with
      | zero => simp only [List.getElem_cons_zero]; omega
      | succ s =>
        simp only [List.getElem_cons_succ]
        exact ffp_below _ (by omega)
theorem ffp_rm {p sz : Int} {L : List Int} (h : p ≤ sz) : p ≤ rm sz L (ffp p L) := by
  have := ffp_le p L
  by_cases e : ffp p L < L.length
  · rw [rm_get e]; exact ffp_room e
  · have : ffp p L = L.length := by omega
    rw [this]
    unfold rm
    rw [List.getD_eq_getElem?_getD, List.getElem?_eq_none (by omega), Option.getD_none]
    exact h
/-- One piece more. -/
def fst1 (sz : Int) (ps : List Int) (t : List Int × List Int) (i : Int) : List Int × List Int :=
  (t.1.set i.toNat (ffp (pc ps i) t.2), up sz t.2 (ffp (pc ps i) t.2) (pc ps i))
/-! The law's filling. -/
/-! The program's. -/
/-- A whole order. -/
def Ord (ps o : List Int) : Prop := o.Perm ((List.range ps.length).map fun i : Nat => (i : Int))
theorem Ord.nd {ps o : List Int} (h : Ord ps o) : o.Nodup := by
  refine h.nodup_iff.2 ?_
  rw [List.Nodup, List.pairwise_map]
  exact (List.pairwise_lt_range).imp (fun h => by omega)
theorem Ord.rng {ps o : List Int} (h : Ord ps o) : ∀ i ∈ o, 0 ≤ i ∧ i < ps.length := fun i hi => by
  obtain ⟨k, hk, rfl⟩ := List.mem_map.1 (h.mem_iff.1 hi)
  have := List.mem_range.1 hk
  omega
theorem Ord.len {ps o : List Int} (h : Ord ps o) : o.length = ps.length := by
  rw [h.length_eq]; simp
theorem Ord.mem {ps o : List Int} (h : Ord ps o) : ∀ j : Nat, j < ps.length → (j : Int) ∈ o := fun j hj =>
  h.mem_iff.2 (List.mem_map.2 ⟨j, List.mem_range.2 hj, rfl⟩)
end Go.Proofs.YtgmonagekfjnmaaDoor
set_option linter.unusedVariables false
set_option linter.unusedSimpArgs false
set_option maxRecDepth 100000
namespace Go.Proofs.YtgmonagekfjnmaaDoor
open Go.Vi
/-D 55 -/
/-D 10 -/
end Go.Proofs.YtgmonagekfjnmaaDoor
set_option linter.unusedVariables false
set_option linter.unusedSimpArgs false
namespace Go.Proofs.YtgmonagekfjnmaaDoor
open Go.Vi
/-! Sums over sheets. -/
def tot : List Int → Int
  | [] => 0
  | p :: r => p + tot r
/-- What is added up of pieces. -/
structure Add (f : List Int → Int) : Prop where
  nil : f [] = 0
  cons : ∀ p r, f (p :: r) = f [p] + f r
theorem bal_add (sz k : Int) : Add (bal sz k) := ⟨rfl, fun p r => by simp [bal]⟩
theorem blf_add (sz k : Int) : Add (blf sz k) := ⟨rfl, fun p r => by simp [blf]⟩
theorem bsm_add (sz k : Int) : Add (bsm sz k) := ⟨rfl, fun p r => by simp [bsm]⟩
/-! One sheet. -/
/-! The law's bound. -/
theorem tot_perm {l l' : List Int} (h : l.Perm l') : tot l = tot l' := by
  induction h with
  | nil => rfl
  | cons x _ ih => simp only [tot]; rw [ih]
  | swap x y l => simp only [tot]; omega
  | trans _ _ ih1 ih2 => exact ih1.trans ih2
theorem tot_app : ∀ a b : List Int, tot (a ++ b) = tot a + tot b
  | [], b => by simp [tot]
  | x :: a, b => by
    simp only [List.cons_append, tot]
    rw [tot_app a b]
    omega
def gA (A : List Int) (i : Int) : Int := A.getD i.toNat 0
/-- What is used of a sheet by some pieces. -/
def udn (ps o A : List Int) (s : Int) : Int := tot (o.map fun i => if gA A i = s then pc ps i else 0)
theorem usd_udn (s : Int) : ∀ (ps A : List Int), A.length = ps.length → usd ps A s = tot ((List.range ps.length).map fun i : Nat => if A.getD i 0 = s then ps.getD i 0 else 0)
  | [], [], _ => rfl
  | p :: ps, x :: A, h => by
    rw [List.length_cons, List.range_succ_eq_map, List.map_cons, List.map_map]
    simp only [usd, tot]
    rw [usd_udn s ps A (by simpa using h)]
    rfl
  | [], _ :: _, h => by simp at h
  | _ :: _, [], h => by simp at h
theorem rm_end {sz : Int} (L : List Int) : rm sz L L.length = sz := by
  unfold rm
  rw [List.getD_eq_getElem?_getD, List.getElem?_eq_none (by omega), Option.getD_none]
structure FI (sz : Int) (ps dn A L : List Int) : Prop where
  len : A.length = ps.length
  rng : ∀ i ∈ dn, 0 ≤ gA A i ∧ gA A i < L.length
  all : ∀ s : Nat, s < L.length → ∃ i ∈ dn, gA A i = s
  left : ∀ (s : Nat) (h : s < L.length), L[s] = sz - udn ps dn A s
  lr : ∀ x ∈ L, 0 ≤ x ∧ x < sz
  two : ∀ (s t : Nat) (hs : s < L.length) (ht : t < L.length), s ≠ t → L[s] + L[t] < sz
theorem FI.none {sz : Int} {ps dn A L : List Int} (h : FI sz ps dn A L) {s : Nat} (hs : L.length ≤ s) : udn ps dn A s = 0 := by
  unfold udn
  have : ∀ i ∈ dn, (if gA A i = (s : Int) then pc ps i else 0) = 0 := fun i hi => by
    have := h.rng i hi
    rw [if_neg (by omega)]
  rw [List.map_congr_left this]
  clear this h
  induction dn with
  | nil => rfl
  | cons x r ih => simp only [List.map_cons, tot]; rw [ih]; rfl
theorem FI.rm {sz : Int} {ps dn A L : List Int} (h : FI sz ps dn A L) {s : Nat} (hs : s ≤ L.length) : rm sz L s = sz - udn ps dn A s := by
  by_cases e : s < L.length
  · rw [rm_get e]; exact h.left s e
  · have : s = L.length := by omega
    rw [h.none (by omega), this, rm_end]
    omega
theorem FI.step {sz : Int} {ps dn A L : List Int} (hj : Job sz ps) (h : FI sz ps dn A L) {i : Int} (hi : 0 ≤ i ∧ i < ps.length) (hdr : ∀ j ∈ dn, 0 ≤ j ∧ j < ps.length) (hn : i ∉ dn) :
    FI sz ps (dn ++ [i]) (fst1 sz ps (A, L) i).1 (fst1 sz ps (A, L) i).2 := by
  have hp := hj.ok _ (pc_mem hi.1 hi.2)
  have hfl := ffp_le (pc ps i) L
  have hul := up_len (sz := sz) (pc ps i) hfl
  have hlen := h.len
  have hrm := h.rm hfl
  have hroom := ffp_rm (L := L) hp.2
  have hbel : ∀ (s : Nat) (hs : s < L.length), s < ffp (pc ps i) L → L[s] < pc ps i := fun s hs hh => ffp_below hs hh
  simp only [fst1]
  generalize hS : ffp (pc ps i) L = S at *
  have g1 : ∀ j ∈ dn, gA (A.set i.toNat (S : Int)) j = gA A j := fun j hj2 => by
    have h1 := hdr j hj2
    have : i.toNat ≠ j.toNat := fun e => by
      have : j = i := by omega
      rw [this] at hj2; exact hn hj2
    unfold gA
    rw [List.getD_eq_getElem?_getD, List.getElem?_set, if_neg this, ← List.getD_eq_getElem?_getD]
  have g2 : gA (A.set i.toNat (S : Int)) i = S := by
    unfold gA
    rw [List.getD_eq_getElem?_getD, List.getElem?_set, if_pos rfl, if_pos (by omega), Option.getD_some]
  have hud : ∀ s : Int, udn ps (dn ++ [i]) (A.set i.toNat (S : Int)) s = udn ps dn A s + if (S : Int) = s then pc ps i else 0 := fun s => by
    unfold udn
    rw [List.map_append, tot_app, List.map_cons, List.map_nil, g2]
    simp only [tot]
    rw [List.map_congr_left (fun j hj2 => by rw [g1 j hj2])]
    omega
  have hget : ∀ (s : Nat) (hs : s < (up sz L S (pc ps i)).length), (up sz L S (pc ps i))[s] = if S = s then Proofs.YtgmonagekfjnmaaDoor.rm sz L S - pc ps i else Proofs.YtgmonagekfjnmaaDoor.rm sz L s := fun s hs => up_get _ hs
  refine ⟨by simp [hlen], fun j hj2 => ?_, fun s hs => ?_, fun s hs => ?_, ?_, fun s t hs ht hne => ?_⟩
  · rcases List.mem_append.1 hj2 with h1 | h1
    · rw [g1 j h1]
      have := h.rng j h1
      omega
    · rw [List.mem_singleton.1 h1, g2]
      omega
  · by_cases e : s = S
    · exact ⟨i, by simp, by rw [g2, e]⟩
    · obtain ⟨j, hj2, e2⟩ := h.all s (by omega)
      exact ⟨j, by simp [hj2], by rw [g1 j hj2]; exact e2⟩
  · rw [hget s hs, hud]
    by_cases e : S = s
    · rw [if_pos e, if_pos (by omega), hrm, ← e]
      omega
    · rw [if_neg e, if_neg (by omega), h.rm (by omega)]
      omega
  · refine up_rng h.lr (by have := hj.lo; omega) (by omega) hp.1 hroom
  · rw [hget s hs, hget t ht]
    have key : ∀ (u : Nat), u ≠ S → u < (up sz L S (pc ps i)).length → Proofs.YtgmonagekfjnmaaDoor.rm sz L S - pc ps i + Proofs.YtgmonagekfjnmaaDoor.rm sz L u < sz := fun u hu hul2 => by
      have hul3 : u < L.length := by omega
      rw [rm_get hul3]
      by_cases e : S < L.length
      · rw [rm_get e]
        have := h.two S u e hul3 (fun e => hu e.symm)
        omega
      · have e2 : S = L.length := by omega
        have := hbel u hul3 (by omega)
        rw [e2, rm_end]
        omega
    by_cases e1 : S = s
    · rw [if_pos e1]
      rw [if_neg (by omega)]
      exact key t (by omega) ht
    · rw [if_neg e1]
      by_cases e2 : S = t
      · rw [if_pos e2]
        have := key s (by omega) hs
        omega
      · rw [if_neg e2]
        have h1 : s < L.length := by omega
        have h2 : t < L.length := by omega
        rw [rm_get h1, rm_get h2]
        exact h.two s t h1 h2 hne
/-! The plan that is read off. -/
theorem usd_map {f : Int → Int} {x : Int} : ∀ {ps l : List Int}, (∀ y ∈ l, f y = f x → y = x) → usd ps (l.map f) (f x) = usd ps l x
  | [], [], _ => rfl
  | [], _ :: _, _ => rfl
  | _ :: _, [], _ => rfl
  | p :: ps, y :: l, h => by
    simp only [List.map_cons, usd]
    rw [usd_map (fun z hz => h z (by simp [hz]))]
    by_cases e : y = x
    · rw [if_pos e, if_pos (by rw [e])]
    · rw [if_neg e, if_neg (fun hh => e (h y (by simp) hh))]
theorem ps0_inj : ∀ {l : List Int} {x y : Int}, x ∈ l → y ∈ l → ps0 x l = ps0 y l → x = y := by
  intro l x y hx hy h
  have key : ∀ (l : List Int) (k : Nat) (x : Int), x ∈ l → ∃ i : Nat, fnd (fun y => x == y) k l = ((k + i : Nat) : Int) ∧ l[i]? = some x := by
    intro l
    induction l with
    | nil => intro k x hx; cases hx
    | cons z r ih =>
      intro k x hx
      unfold fnd
      by_cases e : x = z
      · exact ⟨0, by simp [e], by simp [e]⟩
      · obtain ⟨i, h1, h2⟩ := ih (k + 1) x ((List.mem_cons.1 hx).resolve_left e)
        refine ⟨i + 1, ?_, by simpa using h2⟩
        rw [if_neg (by simpa using e), h1]
        omega
  obtain ⟨i, h1, h2⟩ := key l 0 x hx
  obtain ⟨j, h3, h4⟩ := key l 0 y hy
  unfold ps0 at h
  rw [h1, h3] at h
  have : i = j := by omega
  subst this
  rw [h2] at h4
  exact Option.some.inj h4
theorem tid_usd {ps l : List Int} {x : Int} (hx : x ∈ l) : usd ps (tid [] l) (ps0 x (dd [] l)) = usd ps l x := by
  rw [tid_map]
  have hm : ∀ y ∈ l, y ∈ dd [] l := fun y hy => (dd_mem y l []).2 (.inr hy)
  exact usd_map (f := fun x => ps0 x (dd [] l)) (fun y hy e => ps0_inj (hm y hy) (hm x hx) e)
theorem tid_oer : ∀ (l met : List Int), oer met.length (tid met l) = 0
  | [], met => rfl
  | x :: l, met => by
    unfold tid
    split
    · rename_i h
      have hl := fnd_lt h
      unfold ps0 at hl
      unfold oer
      rw [if_neg (by omega), if_neg (by omega), Int.max_eq_left (by omega)]
      exact tid_oer l met
    · have ih := tid_oer l (met ++ [x])
      unfold oer
      rw [if_neg (by omega), if_neg (by omega), Int.max_eq_right (by omega)]
      rw [List.length_append, List.length_singleton] at ih
      exact ih
theorem dd_nodup : ∀ (l met : List Int), met.Nodup → (dd met l).Nodup
  | [], met, h => h
  | x :: l, met, h => by
    unfold dd
    split
    · exact dd_nodup l met h
    · rename_i hx
      refine dd_nodup l _ ?_
      rw [List.nodup_append]
      refine ⟨h, by simp, fun a ha b hb e => ?_⟩
      rw [List.mem_singleton.1 hb] at e
      rw [e] at ha
      exact hx ha
theorem tid_full (l : List Int) : mny (tid [] l) = (dd [] l).length := by
  have := tid_mny l l.length (Nat.le_refl _)
  rw [List.take_length, ← tid_len l [], List.take_length] at this
  exact this
theorem dd_range {l : List Int} {m : Nat} (h1 : ∀ x ∈ l, 0 ≤ x ∧ x < m) (h2 : ∀ s : Nat, s < m → (s : Int) ∈ l) : (dd [] l).length = m := by
  have hp : (dd [] l).Perm ((List.range m).map fun i : Nat => (i : Int)) := by
    refine (List.perm_ext_iff_of_nodup (dd_nodup l [] (by simp)) ?_).2 (fun x => ?_)
    · rw [List.Nodup, List.pairwise_map]
      exact (List.pairwise_lt_range).imp (fun h => by omega)
    · rw [dd_mem]
      constructor
      · rintro (h | h)
        · cases h
        · have := h1 x h
          exact List.mem_map.2 ⟨x.toNat, List.mem_range.2 (by omega), by omega⟩
      · intro h
        obtain ⟨k, hk, rfl⟩ := List.mem_map.1 h
        exact .inr (h2 k (List.mem_range.1 hk))
  rw [hp.length_eq]
  simp
theorem FI.mem {sz : Int} {ps o A L : List Int} (h : FI sz ps o A L) (ho : Ord ps o) : (∀ x ∈ A, 0 ≤ x ∧ x < L.length) ∧ ∀ s : Nat, s < L.length → (s : Int) ∈ A := by
  have hl := h.len
  constructor
  · intro x hx
    obtain ⟨i, hi, e⟩ := List.getElem_of_mem hx
    have := h.rng i (ho.mem i (by omega))
    unfold gA at this
    rw [Int.toNat_natCast, List.getD_eq_getElem?_getD, List.getElem?_eq_getElem hi, Option.getD_some, e] at this
    exact this
  · intro s hs
    obtain ⟨i, hi, e⟩ := h.all s hs
    have hr := ho.rng i hi
    unfold gA at e
    rw [List.getD_eq_getElem?_getD, List.getElem?_eq_getElem (by omega), Option.getD_some] at e
    rw [← e]
    exact List.getElem_mem _
/-- Two places exchanged. -/
def swp (l : List Int) (i k : Nat) : List Int := (l.set i (l.getD k 0)).set k (l.getD i 0)
theorem swp_len (l : List Int) (i k : Nat) : (swp l i k).length = l.length := by simp [swp]
theorem getD_at {l : List Int} {i : Nat} (h : i < l.length) : l.getD i 0 = l[i] := by rw [List.getD_eq_getElem?_getD, List.getElem?_eq_getElem h, Option.getD_some]
theorem swp_get {l : List Int} {i k j : Nat} (hi : i < l.length) (hk : k < l.length) : (swp l i k).getD j 0 = if j = k then l.getD i 0 else if j = i then l.getD k 0 else l.getD j 0 := by
  unfold swp
  rw [List.getD_eq_getElem?_getD, List.getElem?_set, List.getElem?_set]
  by_cases e : j = k
  · rw [if_pos e.symm, if_pos (by simp; exact e ▸ hk), if_pos e]; rfl
  · rw [if_neg (fun h => e h.symm), if_neg e]
    by_cases e2 : j = i
    · rw [if_pos e2.symm, if_pos (e2 ▸ hi), if_pos e2]; rfl
    · rw [if_neg (fun h => e2 h.symm), if_neg e2, ← List.getD_eq_getElem?_getD]
theorem ext_getD {a b : List Int} (hl : a.length = b.length) (h : ∀ j, j < a.length → a.getD j 0 = b.getD j 0) : a = b := by
  apply List.ext_getElem hl
  intro j h1 h2
  have := h j h1
  rwa [getD_at h1, getD_at h2] at this
theorem swp_swp {l : List Int} {i k : Nat} (hi : i < l.length) (hk : k < l.length) : swp (swp l i k) i k = l := by
  refine ext_getD (by rw [swp_len, swp_len]) (fun j hj => ?_)
  rw [swp_get (by rw [swp_len]; exact hi) (by rw [swp_len]; exact hk), swp_get hi hk, swp_get hi hk, swp_get hi hk]
  by_cases e1 : j = k
  · rw [if_pos e1]
    by_cases e2 : i = k
    · rw [if_pos e2, e1, e2]
    · rw [if_neg e2, if_pos rfl, e1]
  · rw [if_neg e1]
    by_cases e2 : j = i
    · rw [if_pos e2, if_pos rfl, e2]
    · rw [if_neg e2, if_neg e1, if_neg e2]
theorem getD_map {f : Int → Int} {l : List Int} {j : Nat} (h : j < l.length) : (l.map f).getD j 0 = f (l.getD j 0) := by
  rw [getD_at (by simpa using h), getD_at h, List.getElem_map]
theorem swp_map (f : Int → Int) {l : List Int} {i k : Nat} (hi : i < l.length) (hk : k < l.length) : swp (l.map f) i k = (swp l i k).map f := by
  refine ext_getD (by simp [swp_len]) (fun j hj => ?_)
  rw [swp_len, List.length_map] at hj
  rw [swp_get (l := l.map f) (by simpa using hi) (by simpa using hk), getD_map (l := swp l i k) (by rw [swp_len]; exact hj), swp_get (l := l) hi hk, getD_map hi, getD_map hk, getD_map hj]
  split
  · rfl
  · split <;> rfl
theorem swp_perm {l : List Int} {i k : Nat} (hi : i < l.length) (hk : k < l.length) : (swp l i k).Perm l := by
  rw [List.perm_iff_count]
  intro b
  unfold swp
  rw [getD_at hi, getD_at hk, List.count_set (by simpa using hk), List.count_set hi]
  have hc : ∀ j (hj : j < l.length), l[j] == b → 1 ≤ l.count b := fun j hj e => by
    have : l[j] = b := by simpa using e
    exact List.count_pos_iff.2 (this ▸ List.getElem_mem hj)
  by_cases e : i = k
  · subst e
    have h1 := hc i hi
    simp only [List.getElem_set_self]
    by_cases e1 : l[i] == b
    · have := h1 e1
      simp only [e1, if_true]
      omega
    · simp only [e1]
      simp
  · have h1 := hc i hi
    have hg : (l.set i l[k])[k]'(by simpa using hk) = l[k] := by rw [List.getElem_set]; rw [if_neg e]
    rw [hg]
    by_cases e1 : l[i] == b <;> by_cases e2 : l[k] == b <;> simp only [e1, e2, if_true, Bool.false_eq_true, if_false]
    · have := h1 e1; omega
    · have := h1 e1; omega
    · omega
    · omega
/-- What is used stays. -/
theorem usd_swp {ps q : List Int} (hl : q.length = ps.length) {i k : Nat} (hi : i < ps.length) (hk : k < ps.length) (s : Int) : usd (swp ps i k) (swp q i k) s = usd ps q s := by
  rw [usd_udn s _ _ (by rw [swp_len, swp_len]; exact hl), usd_udn s _ _ hl, swp_len]
  have e : (List.range ps.length).map (fun j : Nat => if (swp q i k).getD j 0 = s then (swp ps i k).getD j 0 else 0) = swp ((List.range ps.length).map fun j : Nat => if q.getD j 0 = s then ps.getD j 0 else 0) i k := by
    refine ext_getD (by simp [swp_len]) (fun j hj => ?_)
    rw [List.length_map, List.length_range] at hj
    have hg : ∀ (F : Nat → Int) (m : Nat), m < ps.length → ((List.range ps.length).map F).getD m 0 = F m := fun F m hm => by
      rw [getD_at (by simpa using hm)]; simp
    rw [hg _ j hj, swp_get (l := (List.range ps.length).map fun j : Nat => if q.getD j 0 = s then ps.getD j 0 else 0) (by simpa using hi) (by simpa using hk), hg _ i hi, hg _ k hk, hg _ j hj, swp_get (l := q) (by omega) (by omega), swp_get (l := ps) hi hk]
    by_cases e1 : j = k
    · rw [if_pos e1, if_pos e1, if_pos e1]
    · rw [if_neg e1, if_neg e1, if_neg e1]
      by_cases e2 : j = i
      · rw [if_pos e2, if_pos e2, if_pos e2]
      · rw [if_neg e2, if_neg e2, if_neg e2]
  rw [e]
  exact tot_perm (swp_perm (by simpa using hi) (by simpa using hk))
/-! Numbers anew. -/
theorem oer_onto : ∀ (l : List Int) (m : Int), oer m l = 0 → ∀ s, m ≤ s → s < l.foldl (fun a s => max a (s + 1)) m → s ∈ l
  | [], m, _, s, h1, h2 => by simp at h2; omega
  | x :: l, m, h, s, h1, h2 => by
    unfold oer at h
    split at h
    · omega
    · split at h
      · omega
      · rw [List.foldl_cons] at h2
        by_cases e : s = x
        · simp [e]
        · exact List.mem_cons_of_mem _ (oer_onto l _ h s (by omega) h2)
theorem pln_vals {sz : Int} {ps q : List Int} (h : Pln sz ps q) : (∀ x ∈ q, 0 ≤ x ∧ x < ((mny q).toNat : Nat)) ∧ ∀ s : Nat, s < (mny q).toNat → (s : Int) ∈ q := by
  have h0 := mny_nn q
  constructor
  · intro x hx
    have h1 := h.rng x hx
    have h2 := mny_lt hx
    omega
  · intro s hs
    exact oer_onto q 0 h.ord s (by omega) (by unfold mny at *; omega)
theorem fnd_map {f : Int → Int} {x : Int} : ∀ {l : List Int} (k : Nat), (∀ y ∈ l, f y = f x → y = x) → fnd (fun y => f x == y) k (l.map f) = fnd (fun y => x == y) k l
  | [], k, _ => rfl
  | y :: l, k, h => by
    simp only [List.map_cons, fnd]
    rw [fnd_map (k + 1) (fun z hz => h z (by simp [hz]))]
    by_cases e : x = y
    · rw [if_pos (by simp [e]), if_pos (by simp [e])]
    · rw [if_neg (by simpa using fun hh => e (h y (by simp) hh.symm).symm), if_neg (by simpa using e)]
theorem tid_map_inj {f : Int → Int} : ∀ (l met : List Int), (∀ x ∈ met ++ l, ∀ y ∈ met ++ l, f x = f y → x = y) → tid (met.map f) (l.map f) = tid met l
  | [], met, _ => rfl
  | x :: l, met, h => by
    rw [List.map_cons]
    unfold tid
    have hmem : f x ∈ met.map f ↔ x ∈ met := by
      constructor
      · intro hm
        obtain ⟨y, hy, e⟩ := List.mem_map.1 hm
        rw [← h y (by simp [hy]) x (by simp) e]
        exact hy
      · exact fun hm => List.mem_map.2 ⟨x, hm, rfl⟩
    by_cases e : x ∈ met
    · rw [if_pos e, if_pos (hmem.2 e), fnd_map 0 (fun y hy he => h y (by simp [hy]) x (by simp) he), tid_map_inj l met (fun a ha b hb => h a (by
        rcases List.mem_append.1 ha with ha | ha
        · simp [ha]
        · simp [ha]) b (by
        rcases List.mem_append.1 hb with hb | hb
        · simp [hb]
        · simp [hb]))]
    · rw [if_neg e, if_neg (fun hh => e (hmem.1 hh)), List.length_map]
      have := tid_map_inj l (met ++ [x]) (fun a ha b hb => h a (by simpa using ha) b (by simpa using hb))
      rw [List.map_append, List.map_singleton] at this
      rw [this]
theorem tid_self : ∀ (l : List Int) (m : Nat), oer m l = 0 → tid ((List.range m).map fun i : Nat => (i : Int)) l = l
  | [], m, _ => rfl
  | x :: l, m, h => by
    unfold oer at h
    split at h
    · omega
    · split at h
      · omega
      · rename_i h0 h1
        have hmem : x ∈ (List.range m).map (fun i : Nat => (i : Int)) ↔ x < m := by
          rw [List.mem_map]
          constructor
          · rintro ⟨i, hi, rfl⟩
            have := List.mem_range.1 hi
            omega
          · intro hh
            exact ⟨x.toNat, List.mem_range.2 (by omega), by omega⟩
        unfold tid
        by_cases e : x < m
        · rw [if_pos (hmem.2 e)]
          have hf : fnd (fun y => x == y) 0 ((List.range m).map fun i : Nat => (i : Int)) = x := by
            have hsp : (List.range m).map (fun i : Nat => (i : Int)) = ((List.range x.toNat).map fun i : Nat => (i : Int)) ++ x :: ((List.range' (x.toNat + 1) (m - x.toNat - 1)).map fun i : Nat => (i : Int)) := by
              have : List.range m = List.range x.toNat ++ x.toNat :: List.range' (x.toNat + 1) (m - x.toNat - 1) := by
                have h1 : List.range m = List.range' 0 (x.toNat + (m - x.toNat)) := by rw [List.range_eq_range', show x.toNat + (m - x.toNat) = m by omega]
                rw [h1, ← List.range'_append_1, ← List.range_eq_range', Nat.zero_add, show m - x.toNat = (m - x.toNat - 1) + 1 by omega, List.range'_succ]
                rfl
              rw [this, List.map_append, List.map_cons, show ((x.toNat : Nat) : Int) = x by omega]
            rw [hsp, fnd_new (x := x) (a := (List.range x.toNat).map fun i : Nat => (i : Int)) _ 0 (fun hm => by
              obtain ⟨i, hi, e⟩ := List.mem_map.1 hm
              have := List.mem_range.1 hi
              omega)]
            simp
            omega
          rw [hf, tid_self l m (by rwa [Int.max_eq_left (by omega)] at h)]
        · have e2 : x = m := by omega
          rw [if_neg (fun hh => e (hmem.1 hh))]
          have hr : (List.range m).map (fun i : Nat => (i : Int)) ++ [x] = (List.range (m + 1)).map fun i : Nat => (i : Int) := by
            rw [List.range_succ, List.map_append, e2]; rfl
          rw [hr, tid_self l (m + 1) (by rw [Int.max_eq_right (by omega), e2] at h; exact h), e2]
          simp
theorem tid_pln {sz : Int} {ps q : List Int} (h : Pln sz ps q) : tid [] q = q := tid_self q 0 h.ord
/-! Plans of the pieces whose places are exchanged. -/
def mvp (i k : Nat) (q : List Int) : List Int := tid [] (swp q i k)
theorem mvp_pln {sz : Int} {ps q : List Int} {i k : Nat} (hi : i < ps.length) (hk : k < ps.length) (hj : Job sz (swp ps i k)) (h : Pln sz ps q) : Pln sz (swp ps i k) (mvp i k q) ∧ mny (mvp i k q) = mny q := by
  have hl := h.len
  have hpm := swp_perm (l := q) (i := i) (k := k) (by omega) (by omega)
  obtain ⟨v1, v2⟩ := pln_vals h
  have h0 := mny_nn q
  unfold mvp
  refine ⟨⟨hj, by rw [tid_len, swp_len, swp_len]; exact hl, tid_oer _ [], fun x hx => ?_⟩, ?_⟩
  · rw [tid_map] at hx
    obtain ⟨y, hy, rfl⟩ := List.mem_map.1 hx
    rw [tid_usd hy, usd_swp hl hi hk]
    exact h.fit y (hpm.mem_iff.1 hy)
  · rw [tid_full, dd_range (m := (mny q).toNat) (fun x hx => v1 x (hpm.mem_iff.1 hx)) (fun s hs => hpm.mem_iff.2 (v2 s hs))]
    omega
theorem mvp_mvp {sz : Int} {ps q : List Int} {i k : Nat} (hi : i < ps.length) (hk : k < ps.length) (h : Pln sz ps q) : mvp i k (mvp i k q) = q := by
  have hl := h.len
  have hpm := swp_perm (l := q) (i := i) (k := k) (by omega) (by omega)
  unfold mvp
  rw [tid_map (swp q i k) [], swp_map _ (by rw [swp_len]; omega) (by rw [swp_len]; omega), swp_swp (by omega) (by omega)]
  have := tid_map_inj (f := fun x => ps0 x (dd [] (swp q i k))) q [] (fun x hx y hy e => by
    have hm : ∀ y ∈ q, y ∈ dd [] (swp q i k) := fun y hy => (dd_mem y _ []).2 (.inr (hpm.mem_iff.2 hy))
    exact ps0_inj (hm x (by simpa using hx)) (hm y (by simpa using hy)) e)
  rw [List.map_nil] at this
  rw [this, tid_pln h]
theorem pl_nodup {sz : Int} {mo : Nat} : ∀ (r b L : List Int), (pl sz mo r b L).Nodup
  | [], b, L => by simp [pl]
  | p :: r, b, L => by
    unfold pl
    have : ∀ (l : List Nat), l.Nodup → (l.flatMap fun s => if p ≤ rm sz L s then pl sz mo r (b ++ [(s : Int)]) (up sz L s p) else []).Nodup := by
      intro l
      induction l with
      | nil => intro _; simp
      | cons s l ih =>
        intro hn
        rw [List.nodup_cons] at hn
        rw [List.flatMap_cons, List.nodup_append]
        refine ⟨?_, ih hn.2, fun x hx y hy e => ?_⟩
        · split
          · exact pl_nodup r _ _
          · simp
        · subst e
          obtain ⟨s2, hs2, hy2⟩ := List.mem_flatMap.1 hy
          split at hx
          · split at hy2
            · obtain ⟨t1, _, e1⟩ := pl_pre r _ _ x hx
              obtain ⟨t2, _, e2⟩ := pl_pre r _ _ x hy2
              rw [e1, List.append_assoc, List.append_assoc] at e2
              have := List.append_cancel_left e2
              simp only [List.singleton_append] at this
              have h3 := (List.cons.inj this).1
              have : s = s2 := by omega
              rw [this] at hn
              exact hn.1 hs2
            · cases hy2
          · cases hx
    exact this _ (List.nodup_range')
theorem nodup_sub : ∀ {a b : List (List Int)}, a.Nodup → (∀ x ∈ a, x ∈ b) → a.length ≤ b.length
  | [], _, _, _ => by simp
  | x :: a, b, hn, h => by
    rw [List.nodup_cons] at hn
    have hx := h x (by simp)
    have := nodup_sub (a := a) (b := b.erase x) hn.2 (fun y hy => by
      have hne : y ≠ x := fun e => by rw [e] at hy; exact hn.1 hy
      exact (List.mem_erase_of_ne hne).2 (h y (by simp [hy])))
    rw [List.length_erase_of_mem hx] at this
    have := List.length_pos_of_mem hx
    rw [List.length_cons]
    omega
theorem swp_job {sz : Int} {ps : List Int} {i k : Nat} (hi : i < ps.length) (hk : k < ps.length) (hj : Job sz ps) : Job sz (swp ps i k) :=
  ⟨hj.lo, hj.hi, by rw [swp_len]; exact hj.len, fun p hp => hj.ok p ((swp_perm hi hk).mem_iff.1 hp)⟩
theorem swp_le {sz : Int} {ps : List Int} {i k : Nat} (hi : i < ps.length) (hk : k < ps.length) (hj : Job sz ps) (mo : Nat) : (apl sz ps mo).length ≤ (apl sz (swp ps i k) mo).length := by
  have hj2 := swp_job hi hk hj
  rw [← List.length_map (f := mvp i k)]
  refine nodup_sub ?_ (fun x hx => ?_)
  · rw [List.Nodup, List.pairwise_map]
    have hn : (apl sz ps mo).Nodup := pl_nodup ps [] []
    rw [List.Nodup, List.pairwise_iff_forall_sublist] at hn
    rw [List.pairwise_iff_forall_sublist]
    intro a b hab e
    have ha := ((apl_iff hj).1 (hab.subset (show a ∈ [a, b] by simp))).1
    have hb := ((apl_iff hj).1 (hab.subset (show b ∈ [a, b] by simp))).1
    refine hn hab ?_
    rw [← mvp_mvp hi hk ha, ← mvp_mvp hi hk hb, e]
  · obtain ⟨q, hq, rfl⟩ := List.mem_map.1 hx
    obtain ⟨h1, h2⟩ := (apl_iff hj).1 hq
    obtain ⟨h3, h4⟩ := mvp_pln hi hk hj2 h1
    exact (apl_iff hj2).2 ⟨h3, by omega⟩
theorem swp_count {sz : Int} {ps : List Int} {i k : Nat} (hi : i < ps.length) (hk : k < ps.length) (hj : Job sz ps) (mo : Nat) : (apl sz (swp ps i k) mo).length = (apl sz ps mo).length := by
  have h1 := swp_le hi hk hj mo
  have h2 := swp_le (ps := swp ps i k) (i := i) (k := k) (by rw [swp_len]; exact hi) (by rw [swp_len]; exact hk) (swp_job hi hk hj) mo
  rw [swp_swp hi hk] at h2
  omega
theorem fw_count {sz : Int} {ps ps' : List Int} (hj : Job sz ps) (hj' : Job sz ps') (h : ∀ mo, (apl sz ps' mo).length = (apl sz ps mo).length) : fw sz ps' = fw sz ps := by
  obtain ⟨a1, a2, a3⟩ := fw_spec hj
  obtain ⟨b1, b2, b3⟩ := fw_spec hj'
  rcases Nat.lt_trichotomy (fw sz ps') (fw sz ps) with e | e | e
  · have h1 := h (fw sz ps')
    rw [a3 _ e] at h1
    exact absurd (List.length_eq_zero_iff.1 h1) b1
  · exact e
  · have h1 := h (fw sz ps)
    rw [b3 _ e] at h1
    exact absurd (List.length_eq_zero_iff.1 h1.symm) a1
end Go.Proofs.YtgmonagekfjnmaaDoor
set_option linter.unusedVariables false
set_option linter.unusedSimpArgs false
set_option maxRecDepth 100000
namespace Go.Proofs.YtgmonagekfjnmaaDoor
open Go.Vi
/-D 53 -/
/-D 8 -/
end Go.Proofs.YtgmonagekfjnmaaDoor
set_option linter.unusedVariables false
set_option linter.unusedSimpArgs false
namespace Go.Proofs.YtgmonagekfjnmaaDoor
open Go.Vi
def goodC (s : Int) : Option (List Int) → Bool
  | some l => decide (l.length ≤ 20) && !l.isEmpty && l.all fun p => decide (1 ≤ p) && decide (s % p = 0) && l.all fun q => decide (p % q = 0) || decide (q % p = 0)
  | none => false
theorem chain_all : ∀ s : Fin 25, ∀ b : Fin 128, 1 ≤ s.val → goodC s.val (D89 N s.val b.val) = true := by decide +kernel
end Go.Proofs.YtgmonagekfjnmaaDoor
