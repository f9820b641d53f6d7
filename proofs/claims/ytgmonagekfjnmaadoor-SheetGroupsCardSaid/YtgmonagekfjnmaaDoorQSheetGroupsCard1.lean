/- Texts of this claim, joined: G100 to Sf. -/
import Derived.KernelRfl
import Derived.Test.YtgmonagekfjnmaaDoorProg
import Derived.WalkKit
import Derived.Test.YtgmonagekfjnmaaDoorP6
set_option linter.unusedVariables false
set_option linter.unusedSimpArgs false
set_option maxRecDepth 100000
namespace Go.Proofs.YtgmonagekfjnmaaDoor
open Go.Vi
abbrev R100 := Bool
noncomputable def c100 : Code := bodyOf Tryd.f100
noncomputable def an100 : Ann := (.s .l (.s (.s .l (.j [] (.j [0, 3] (.s (.s .l (.j [0, 3] .l .l)) (.s (.j [0, 3] (.s .l (.j [0, 3] .l .l)) .l) .l)) .l) .l)) .l))
def pk100 : List PK := [.c (.int .i64)]
def rk100 : List RK := [.c .bool 2]
noncomputable def rt100 (st : St) : Option R100 := rtG rk100 st
noncomputable def E100 (n : Nat × Nat) : Env := { T := tab, phi := noPhi, eff := fun _ => false, fuel := n.1, hold := n.2 }
noncomputable def kq100_1 (n : Nat × Nat) : St → Option R100 := run (E100 n) (cB (cB c100)) (Ann.snd (Ann.snd an100)) rt100 (fun _ _ => none) rt100
noncomputable def xb100_3 (n : Nat × Nat) : Nat → St → Option R100 := fun j s => bif Nat.beq j 0 then normC [] s (kq100_1 n) else (fun _ _ => none) j s
noncomputable def F100_4 (n : Nat × Nat) : (St → Option R100) → St → Option R100 := fun K s => run (E100 n) (cA (cA (cB (cA (cB c100))))) (Ann.fst (Ann.fst (Ann.snd (Ann.fst (Ann.snd an100))))) (fun s => normC [0, 3] s K) (xb100_3 n) rt100 s
noncomputable def L100_1 (n : Nat × Nat) (m : Nat) (v0 : Int) (d3 : Int) : Option R100 := loopN (F100_4 n) m { tm := [.c (.int .i64 v0), uu, uu, .c (.int .i64 d3), uu, uu, uu, uu, uu, uu, uu, uu, uu], hp := emp }
theorem L100_1_eq (n : Nat × Nat) (m1 : Nat) (v0 : Int) (d3 : Int) : L100_1 n (m1 + 1) v0 d3 =
 (bif decide (d3 < v0) then (bif d3 == 0 then none
 else (bif ((Int.tmod v0 d3) == 0) then some false
 else L100_1 n m1 v0 (wr .i64 (d3 + 1))))
 else some true) := by kernel_rfl
noncomputable def S100 (n : Nat × Nat) (v0 : Int) : Option R100 := run (E100 n) c100 an100 rt100 (fun _ _ => none) rt100 { tm := [.c (.int .i64 v0), uu, uu, uu, uu, uu, uu, uu, uu, uu, uu, uu, uu], hp := emp }
theorem S100_eq (n : Nat × Nat) (v0 : Int) : S100 n v0 =
    L100_1 n n.1 v0 2 := by kernel_rfl
theorem S100_run (n : Nat × Nat) (xs : pksDen pk100) : S100 n xs.1 = runG (E100 n) noScope c100 an100 (rtG rk100) (fun _ _ => none) (rtG rk100) (st0 pk100 xs Tryd.f100.ntmps) := by kernel_rfl
noncomputable def P100 (n : Nat × Nat) := phiOf pk100 rk100 (fun xs => S100 n xs.1)
theorem call100 : CallOK Tryd.prog 100 := callOK_of Tryd.func100 (by kernel_rfl) (by kernel_rfl)
theorem env100 (n : Nat × Nat) : EnvOK Tryd.prog (E100 n) := envOK0 noPhi_ok rfl rfl
theorem par100 (n : Nat × Nat) : EnvPar (E100 n) := envPar0 noPhi_par rfl
theorem FC100 (n : Nat × Nat) : FCs Tryd.prog 100 (P100 n) := phiOf_FCs fun xs r h vs hv => FC.of_runG tabOK eqsOK (env100 n) (par100 n) mixed (fun _ p _ => noScope_ok p.1 p.2) Tryd.func100 (c := c100) (an := an100) (pks := pk100) (rks := rk100) (by kernel_rfl) (by kernel_rfl) hv ((S100_run n xs).symm.trans h)
abbrev R89 := List Int
noncomputable def c89 : Code := bodyOf Tryd.f89
noncomputable def an89 : Ann := (.s .l (.s .l (.s (.s .l (.j [5] (.j [1, 5, 6, 37, 38] (.s (.s .l (.j [1, 5, 6, 37, 38] .l .l)) (.s (.j [1, 5, 6, 37, 38] (.s .l (.s (.j [1, 5, 6, 7, 37, 38] (.j [1, 5, 6, 7, 37, 38] (.s (.s .l (.j [1, 5, 6, 7, 37, 38] .l .l)) (.j [1, 5, 6, 7, 37, 38] .l .l)) .l) .l) (.s (.s .l (.j [1, 5, 6, 7, 37, 38] (.s .l (.j [1, 5, 6, 7, 37, 38] (.j [1, 5, 6, 7, 8, 37, 38] (.s (.s .l (.j [1, 5, 6, 7, 8, 37, 38] .l .l)) (.j [] (.j [1, 5, 6, 7, 8, 37, 38] (.s .l (.j [1, 5, 6, 7, 8, 37, 38] .l .l)) .l) .l)) .l) .l)) .l)) .l))) .l) .l)) .l) .l)) .l)))
def pk89 : List PK := [.c (.int .i64), .c (.int .i64)]
def rk89 : List RK := [.own (.int .i64) 4]
noncomputable def rt89 (st : St) : Option R89 := rtG rk89 st
noncomputable def E89 (n : Nat × Nat) : Env := { T := tab, phi := (consPhi 100 (fun _ => true) (P100 n) noPhi), eff := fun _ => false, fuel := n.1, hold := n.2 }
noncomputable def kq89_1 (n : Nat × Nat) : St → Option R89 := run (E89 n) (cB (cB (cB c89))) (Ann.snd (Ann.snd (Ann.snd an89))) rt89 (fun _ _ => none) rt89
noncomputable def xb89_3 (n : Nat × Nat) : Nat → St → Option R89 := fun j s => bif Nat.beq j 0 then normC [5] s (kq89_1 n) else (fun _ _ => none) j s
noncomputable def F89_4 (n : Nat × Nat) : (St → Option R89) → St → Option R89 := fun K s => run (E89 n) (cA (cA (cB (cA (cB (cB c89)))))) (Ann.fst (Ann.fst (Ann.snd (Ann.fst (Ann.snd (Ann.snd an89)))))) (fun s => normC [1, 5, 6, 37, 38] s K) (xb89_3 n) rt89 s
noncomputable def kq89_7 (n : Nat × Nat) (m1 : Nat) : St → Option R89 := run (E89 n) (cB (cB (cA (cA (cB (cA (cB (cB c89)))))))) (Ann.snd (Ann.snd (Ann.fst (Ann.fst (Ann.snd (Ann.fst (Ann.snd (Ann.snd an89)))))))) (fun s => normC [1, 5, 6, 37, 38] s (loopN (F89_4 n) m1)) (xb89_3 n) rt89
noncomputable def kc89_8 (n : Nat × Nat) (m1 : Nat) : St → Option R89 := fun s => normC [1, 5, 6, 37, 38] s (kq89_7 n m1)
noncomputable def xb89_9 (n : Nat × Nat) (m1 : Nat) : Nat → St → Option R89 := fun j s => bif Nat.beq j 1 then normC [1, 5, 6, 37, 38] s (kq89_7 n m1) else (xb89_3 n) j s
noncomputable def kq89_10 (n : Nat × Nat) (m1 : Nat) : St → Option R89 := run (E89 n) (cB (cB (cA (cA (cB (cA (cA (cB (cA (cB (cB c89))))))))))) (Ann.snd (Ann.snd (Ann.fst (Ann.fst (Ann.snd (Ann.fst (Ann.fst (Ann.snd (Ann.fst (Ann.snd (Ann.snd an89))))))))))) (kc89_8 n m1) (xb89_9 n m1) rt89
noncomputable def xb89_12 (n : Nat × Nat) (m1 : Nat) : Nat → St → Option R89 := fun j s => bif Nat.beq j 2 then normC [1, 5, 6, 7, 37, 38] s (kq89_10 n m1) else (xb89_9 n m1) j s
noncomputable def F89_13 (n : Nat × Nat) (m1 : Nat) : (St → Option R89) → St → Option R89 := fun K s => run (E89 n) (cA (cA (cA (cB (cA (cA (cB (cA (cA (cB (cA (cB (cB c89))))))))))))) (Ann.fst (Ann.fst (Ann.fst (Ann.snd (Ann.fst (Ann.fst (Ann.snd (Ann.fst (Ann.fst (Ann.snd (Ann.fst (Ann.snd (Ann.snd an89))))))))))))) (fun s => normC [1, 5, 6, 7, 37, 38] s K) (xb89_12 n m1) rt89 s
noncomputable def kq89_18 (n : Nat × Nat) (m1 : Nat) : St → Option R89 := run (E89 n) (cB (cB (cB (cA (cA (cB (cA (cA (cB (cA (cB (cB c89)))))))))))) (Ann.snd (Ann.snd (Ann.snd (Ann.fst (Ann.fst (Ann.snd (Ann.fst (Ann.fst (Ann.snd (Ann.fst (Ann.snd (Ann.snd an89)))))))))))) (kc89_8 n m1) (xb89_9 n m1) rt89
noncomputable def kc89_19 (n : Nat × Nat) (m1 : Nat) : St → Option R89 := fun s => normC [1, 5, 6, 7, 37, 38] s (kq89_18 n m1)
noncomputable def xb89_21 (n : Nat × Nat) (m1 : Nat) : Nat → St → Option R89 := fun j s => bif Nat.beq j 4 then normC [1, 5, 6, 7, 37, 38] s (kc89_19 n m1) else (xb89_9 n m1) j s
noncomputable def F89_22 (n : Nat × Nat) (m1 : Nat) : (St → Option R89) → St → Option R89 := fun K s => run (E89 n) (cA (cA (cB (cA (cB (cA (cB (cB (cA (cA (cB (cA (cA (cB (cA (cB (cB c89))))))))))))))))) (Ann.fst (Ann.fst (Ann.snd (Ann.fst (Ann.snd (Ann.fst (Ann.snd (Ann.snd (Ann.fst (Ann.fst (Ann.snd (Ann.fst (Ann.fst (Ann.snd (Ann.fst (Ann.snd (Ann.snd an89))))))))))))))))) (fun s => normC [1, 5, 6, 7, 8, 37, 38] s K) (xb89_21 n m1) rt89 s
noncomputable def kq89_25 (n : Nat × Nat) (m1 m2 : Nat) : St → Option R89 := run (E89 n) (cB (cB (cA (cA (cB (cA (cB (cA (cB (cB (cA (cA (cB (cA (cA (cB (cA (cB (cB c89))))))))))))))))))) (Ann.snd (Ann.snd (Ann.fst (Ann.fst (Ann.snd (Ann.fst (Ann.snd (Ann.fst (Ann.snd (Ann.snd (Ann.fst (Ann.fst (Ann.snd (Ann.fst (Ann.fst (Ann.snd (Ann.fst (Ann.snd (Ann.snd an89))))))))))))))))))) (fun s => normC [1, 5, 6, 7, 8, 37, 38] s (loopN (F89_22 n m1) m2)) (xb89_21 n m1) rt89
noncomputable def L89_1 (n : Nat × Nat) (m : Nat) (v1 : Int) (d6 : Int) (out5 : List Int) : Option R89 := loopN (F89_4 n) m { tm := [uu, .c (.int .i64 v1), uu, uu, uu, .own 5 none false, .c (.int .i64 d6), uu, uu, uu, uu, uu, uu, uu, uu, uu, uu, uu, uu, uu, uu, uu, uu, uu, uu, uu, uu, uu, uu, uu, uu, uu, uu, uu, uu, uu, uu, uu, uu, uu, uu, uu, uu, uu, uu, uu, uu, uu, uu], hp := (upd emp 5 (.arr (.int .i64) out5 false)) }
noncomputable def L89_2 (n : Nat × Nat) (m1 : Nat) (m : Nat) (v1 : Int) (d6 : Int) (p7 : Int) (out5 : List Int) : Option R89 := loopN (F89_13 n m1) m { tm := [uu, .c (.int .i64 v1), uu, uu, uu, .own 5 none false, .c (.int .i64 d6), .c (.int .i64 p7), uu, uu, uu, uu, uu, uu, uu, uu, uu, uu, uu, uu, uu, uu, uu, uu, uu, uu, uu, uu, uu, uu, uu, uu, uu, uu, uu, uu, uu, uu, uu, uu, uu, uu, uu, uu, uu, uu, uu, uu, uu], hp := (upd emp 5 (.arr (.int .i64) out5 false)) }
noncomputable def L89_3 (n : Nat × Nat) (m1 : Nat) (m : Nat) (v1 : Int) (d6 : Int) (p7 : Int) (q8 : Int) (out5 : List Int) : Option R89 := loopN (F89_22 n m1) m { tm := [uu, .c (.int .i64 v1), uu, uu, uu, .own 5 none false, .c (.int .i64 d6), .c (.int .i64 p7), .c (.int .i64 q8), uu, uu, uu, uu, uu, uu, uu, uu, uu, uu, uu, uu, uu, uu, uu, uu, uu, uu, uu, uu, uu, uu, uu, uu, uu, uu, uu, uu, uu, uu, uu, uu, uu, uu, uu, uu, uu, uu, uu, uu], hp := (upd emp 5 (.arr (.int .i64) out5 false)) }
noncomputable def L89_4 (n : Nat × Nat) (m1 m2 : Nat) (v1 : Int) (d6 : Int) (p7 : Int) (q8 : Int) (out5 : List Int) : Option R89 := loopN (fun _ => (kq89_25 n m1 m2)) n.2 { tm := [uu, .c (.int .i64 v1), uu, uu, uu, .own 5 none false, .c (.int .i64 d6), .c (.int .i64 p7), .c (.int .i64 q8), uu, uu, uu, uu, uu, uu, uu, uu, uu, uu, uu, uu, uu, uu, uu, uu, uu, uu, uu, uu, uu, uu, uu, uu, uu, uu, uu, uu, uu, uu, uu, uu, uu, uu, uu, uu, uu, uu, uu, uu], hp := (upd emp 5 (.arr (.int .i64) out5 false)) }
theorem L89_1_eq (n : Nat × Nat) (m1 : Nat) (v1 : Int) (d6 : Int) (out5 : List Int) : L89_1 n (m1 + 1) v1 d6 out5 =
 (bif decide (d6 > 1) then L89_2 n m1 n.1 v1 d6 2 out5
 else some out5) := by kernel_rfl
theorem L89_2_eq (n : Nat × Nat) (m1 m2 : Nat) (v1 : Int) (d6 : Int) (p7 : Int) (out5 : List Int) : L89_2 n m1 (m2 + 1) v1 d6 p7 out5 =
 (bif p7 == 0 then none
 else (bif ((Int.tmod d6 p7) != 0) then L89_2 n m1 m2 v1 d6 (wr .i64 (p7 + 1)) out5
 else (bif 2 == 0 then none
 else (bif ((Int.tmod v1 2) == 1) then L89_3 n m1 n.1 v1 d6 p7 p7 out5
 else (bif p7 == 0 then none
 else (bif decide (out5.length + [wr .i64 (Int.tdiv d6 p7)].length ≤ lim) then (bif 2 == 0 then none
 else L89_1 n m1 (wr .i64 (Int.tdiv v1 2)) (wr .i64 (Int.tdiv d6 p7)) (out5 ++ [wr .i64 (Int.tdiv d6 p7)]))
 else none)))))) := by kernel_rfl
theorem L89_3_eq (n : Nat × Nat) (m1 m2 : Nat) (v1 : Int) (d6 : Int) (p7 : Int) (q8 : Int) (out5 : List Int) : L89_3 n m1 (m2 + 1) v1 d6 p7 q8 out5 =
 (bif decide (q8 ≤ d6) then (bif q8 == 0 then none
 else ((bif (((Int.tmod d6 q8) == 0) == true) then (S100 n q8).bind fun r1' =>
 some r1'
 else some false)).bind fun b2' =>
 (bif b2' then L89_4 n m1 m2 v1 d6 q8 q8 out5
 else L89_4 n m1 m2 v1 d6 p7 q8 out5))
 else (bif p7 == 0 then none
 else (bif decide (out5.length + [wr .i64 (Int.tdiv d6 p7)].length ≤ lim) then (bif 2 == 0 then none
 else L89_1 n m1 (wr .i64 (Int.tdiv v1 2)) (wr .i64 (Int.tdiv d6 p7)) (out5 ++ [wr .i64 (Int.tdiv d6 p7)]))
 else none))) := by kernel_rfl
theorem L89_4_raw (n : Nat × Nat) (m1 m2 : Nat) (v1 : Int) (d6 : Int) (p7 : Int) (q8 : Int) (out5 : List Int) : (kq89_25 n m1 m2) { tm := [uu, .c (.int .i64 v1), uu, uu, uu, .own 5 none false, .c (.int .i64 d6), .c (.int .i64 p7), .c (.int .i64 q8), uu, uu, uu, uu, uu, uu, uu, uu, uu, uu, uu, uu, uu, uu, uu, uu, uu, uu, uu, uu, uu, uu, uu, uu, uu, uu, uu, uu, uu, uu, uu, uu, uu, uu, uu, uu, uu, uu, uu, uu], hp := (upd emp 5 (.arr (.int .i64) out5 false)) } =
    L89_3 n m1 m2 v1 d6 p7 (wr .i64 (q8 + 1)) out5 := by kernel_rfl
noncomputable def S89 (n : Nat × Nat) (size0 : Int) (v1 : Int) : Option R89 := run (E89 n) c89 an89 rt89 (fun _ _ => none) rt89 { tm := [.c (.int .i64 size0), .c (.int .i64 v1), uu, uu, uu, uu, uu, uu, uu, uu, uu, uu, uu, uu, uu, uu, uu, uu, uu, uu, uu, uu, uu, uu, uu, uu, uu, uu, uu, uu, uu, uu, uu, uu, uu, uu, uu, uu, uu, uu, uu, uu, uu, uu, uu, uu, uu, uu, uu], hp := emp }
theorem S89_eq (n : Nat × Nat) (size0 : Int) (v1 : Int) : S89 n size0 v1 =
    L89_1 n n.1 v1 size0 [size0] := by kernel_rfl
theorem S89_run (n : Nat × Nat) (xs : pksDen pk89) : S89 n xs.1 xs.2.1 = runG (E89 n) noScope c89 an89 (rtG rk89) (fun _ _ => none) (rtG rk89) (st0 pk89 xs Tryd.f89.ntmps) := by kernel_rfl
noncomputable def P89 (n : Nat × Nat) := phiOf pk89 rk89 (fun xs => S89 n xs.1 xs.2.1)
theorem call89 : CallOK Tryd.prog 89 := callOK_of Tryd.func89 (by kernel_rfl) (by kernel_rfl)
theorem env89 (n : Nat × Nat) : EnvOK Tryd.prog (E89 n) := envOK0 (consPhi_ok (FC100 n) call100 noPhi_ok) rfl rfl
theorem par89 (n : Nat × Nat) : EnvPar (E89 n) := envPar0 (consPhi_par phiOf_Par1 noPhi_par) rfl
theorem FC89 (n : Nat × Nat) : FCs Tryd.prog 89 (P89 n) := phiOf_FCs fun xs r h vs hv => FC.of_runG tabOK eqsOK (env89 n) (par89 n) mixed (fun _ p _ => noScope_ok p.1 p.2) Tryd.func89 (c := c89) (an := an89) (pks := pk89) (rks := rk89) (by kernel_rfl) (by kernel_rfl) hv ((S89_run n xs).symm.trans h)
/- (headword/headwordlaw09.Strip).made -/
abbrev R48 := Int × List Int
noncomputable def c48 : Code := bodyOf Tryd.f48
noncomputable def an48 : Ann := (.s .l (.s .l (.s .l (.s (.s .l (.j [1, 2, 6, 7] .l (.s .l (.j [1, 2, 6, 7] (.j [1, 2, 6, 7, 27, 28] (.s .l (.s (.j [1, 2, 6, 7, 27, 28] .l .l) (.s (.j [1, 2, 6, 7, 27, 28] .l .l) .l))) .l) .l)))) (.s .l (.s (.s .l (.j [6, 9] (.j [6, 7, 9, 44, 45, 46] (.s .l (.s (.j [6, 7, 9, 44, 45, 46] .l .l) (.s (.j [6, 7, 9, 44, 45, 46] .l .l) .l))) .l) .l)) .l))))))
def pk48 : List PK := [.c (.pair (.int .u8) (.pair (.int .u8) (.pair (.int .u8) (.pair (.int .u8) (.pair (.int .u8) (.pair (.int .u8) (.pair (.int .u8) (.pair (.int .u8) (.pair (.int .u8) (.pair (.int .u8) (.int .u8))))))))))), .c (.int .i64)]
def rk48 : List RK := [.c (.int .i64) 4, .sl (.int .i64) 5]
noncomputable def rt48 (st : St) : Option R48 := rtG rk48 st
noncomputable def E48 (n : Nat × Nat) : Env := { T := tab, phi := (consPhi 89 (fun _ => true) (P89 n) noPhi), eff := fun _ => false, fuel := n.1, hold := n.2 }
noncomputable def kq48_1 (n : Nat × Nat) : St → Option R48 := run (E48 n) (cB (cB (cB (cB c48)))) (Ann.snd (Ann.snd (Ann.snd (Ann.snd an48)))) rt48 (fun _ _ => none) rt48
noncomputable def kc48_2 (n : Nat × Nat) : St → Option R48 := fun s => normC [1, 2, 6, 7] s (kq48_1 n)
noncomputable def kq48_3 (n : Nat × Nat) : St → Option R48 := run (E48 n) (cB (cB (cB (cB (cB (cB c48)))))) (Ann.snd (Ann.snd (Ann.snd (Ann.snd (Ann.snd (Ann.snd an48)))))) rt48 (fun _ _ => none) rt48
noncomputable def xb48_5 (n : Nat × Nat) : Nat → St → Option R48 := fun j s => bif Nat.beq j 2 then normC [6, 9] s (kq48_3 n) else (fun _ _ => none) j s
noncomputable def F48_6 (n : Nat × Nat) : (St → Option R48) → St → Option R48 := fun K s => run (E48 n) (cA (cA (cB (cA (cB (cB (cB (cB (cB c48))))))))) (Ann.fst (Ann.fst (Ann.snd (Ann.fst (Ann.snd (Ann.snd (Ann.snd (Ann.snd (Ann.snd an48))))))))) (fun s => normC [6, 7, 9, 44, 45, 46] s K) (xb48_5 n) rt48 s
noncomputable def xb48_8 (n : Nat × Nat) : Nat → St → Option R48 := fun j s => bif Nat.beq j 0 then normC [1, 2, 6, 7] s (kc48_2 n) else (fun _ _ => none) j s
noncomputable def F48_9 (n : Nat × Nat) : (St → Option R48) → St → Option R48 := fun K s => run (E48 n) (cA (cA (cB (cB (cB (cA (cB (cB (cB c48))))))))) (Ann.fst (Ann.fst (Ann.snd (Ann.snd (Ann.snd (Ann.fst (Ann.snd (Ann.snd (Ann.snd an48))))))))) (fun s => normC [1, 2, 6, 7, 27, 28] s K) (xb48_8 n) rt48 s
noncomputable def L48_1 (n : Nat × Nat) (m : Nat) (size6 : Int) (v44 : List Int) (v45 : Int) (v46 : Int) (lengths7 : List Int) (out9 : List Int) : Option R48 := loopN (F48_6 n) m { tm := [uu, uu, uu, uu, uu, uu, .c (.int .i64 size6), .own 7 none false, uu, .own 9 none false, uu, uu, uu, uu, uu, uu, uu, uu, uu, uu, uu, uu, uu, uu, uu, uu, uu, uu, uu, uu, uu, uu, uu, uu, uu, uu, uu, uu, uu, uu, uu, uu, uu, uu, .c (.sl (.int .u8) v44 false), .c (.int .i64 v45), .c (.int .i64 v46), uu, uu, uu, uu, uu, uu, uu, uu, uu, uu, uu, uu, uu, uu, uu, uu, uu], hp := (upd (upd emp 9 (.arr (.int .i64) out9 false)) 7 (.arr (.int .i64) lengths7 false)) }
noncomputable def L48_2 (n : Nat × Nat) (m : Nat) (most1 : Int) (size6 : Int) (v27 : Int) (v28 : Int) (s2_0 : Int) (s2_1 : Int) (s2_2 : Int) (s2_3 : Int) (s2_4 : Int) (s2_5 : Int) (s2_6 : Int) (s2_7 : Int) (s2_8 : Int) (s2_9 : Int) (s2_10 : Int) (lengths7 : List Int) : Option R48 := loopN (F48_9 n) m { tm := [uu, .c (.int .i64 most1), .ptr 2 0, uu, uu, uu, .c (.int .i64 size6), .own 7 none false, uu, uu, uu, uu, uu, uu, uu, uu, uu, uu, uu, uu, uu, uu, uu, uu, uu, uu, uu, .c (.int .i64 v27), .c (.int .i64 v28), uu, uu, uu, uu, uu, uu, uu, uu, uu, uu, uu, uu, uu, uu, uu, uu, uu, uu, uu, uu, uu, uu, uu, uu, uu, uu, uu, uu, uu, uu, uu, uu, uu, uu, uu], hp := (upd (upd emp 7 (.arr (.int .i64) lengths7 false)) 2 (.box [.int .u8 s2_0, .int .u8 s2_1, .int .u8 s2_2, .int .u8 s2_3, .int .u8 s2_4, .int .u8 s2_5, .int .u8 s2_6, .int .u8 s2_7, .int .u8 s2_8, .int .u8 s2_9, .int .u8 s2_10])) }
theorem L48_1_eq (n : Nat × Nat) (m1 : Nat) (size6 : Int) (v44 : List Int) (v45 : Int) (v46 : Int) (lengths7 : List Int) (out9 : List Int) : L48_1 n (m1 + 1) size6 v44 v45 v46 lengths7 out9 =
 (bif decide (v46 < v45) then (idx v44 v46).bind fun x2' =>
 (bif (lengths7.length : Int) == 0 then none
 else (bif inB (Int.tmod (wr .i64 x2') (lengths7.length : Int)) lengths7.length then (idx lengths7 (Int.tmod (wr .i64 x2') (lengths7.length : Int))).bind fun x3' =>
 (bif decide (out9.length + [x3'].length ≤ lim) then L48_1 n m1 size6 v44 v45 (wr .i64 (v46 + 1)) lengths7 (out9 ++ [x3'])
 else none)
 else none))
 else some (size6, out9)) := by kernel_rfl
theorem L48_2_eq (n : Nat × Nat) (m1 : Nat) (most1 : Int) (size6 : Int) (v27 : Int) (v28 : Int) (s2_0 : Int) (s2_1 : Int) (s2_2 : Int) (s2_3 : Int) (s2_4 : Int) (s2_5 : Int) (s2_6 : Int) (s2_7 : Int) (s2_8 : Int) (s2_9 : Int) (s2_10 : Int) (lengths7 : List Int) : L48_2 n (m1 + 1) most1 size6 v27 v28 s2_0 s2_1 s2_2 s2_3 s2_4 s2_5 s2_6 s2_7 s2_8 s2_9 s2_10 lengths7 =
 (bif decide (v28 < v27) then (bif decide (lengths7.length + [wr .i64 (v28 + 1)].length ≤ lim) then L48_2 n m1 most1 size6 v27 (wr .i64 (v28 + 1)) s2_0 s2_1 s2_2 s2_3 s2_4 s2_5 s2_6 s2_7 s2_8 s2_9 s2_10 (lengths7 ++ [wr .i64 (v28 + 1)])
 else none)
 else (bif (wr .i64 (most1 + 1)) == 0 then none
 else (bif bounds none (some (Int.tmod (wr .i64 s2_1) (wr .i64 (most1 + 1)))) none 8 then L48_1 n n.1 size6 ([s2_3, s2_4, s2_5, s2_6, s2_7, s2_8, s2_9, s2_10].take (Int.toNat (Int.tmod (wr .i64 s2_1) (wr .i64 (most1 + 1))))) (([s2_3, s2_4, s2_5, s2_6, s2_7, s2_8, s2_9, s2_10].take (Int.toNat (Int.tmod (wr .i64 s2_1) (wr .i64 (most1 + 1))))).length : Int) 0 lengths7 []
 else none))) := by kernel_rfl
noncomputable def S48 (n : Nat × Nat) (s0 : Int × Int × Int × Int × Int × Int × Int × Int × Int × Int × Int) (most1 : Int) : Option R48 := run (E48 n) c48 an48 rt48 (fun _ _ => none) rt48 { tm := [.agg [.int .u8 s0.1, .int .u8 s0.2.1, .int .u8 s0.2.2.1, .int .u8 s0.2.2.2.1, .int .u8 s0.2.2.2.2.1, .int .u8 s0.2.2.2.2.2.1, .int .u8 s0.2.2.2.2.2.2.1, .int .u8 s0.2.2.2.2.2.2.2.1, .int .u8 s0.2.2.2.2.2.2.2.2.1, .int .u8 s0.2.2.2.2.2.2.2.2.2.1, .int .u8 s0.2.2.2.2.2.2.2.2.2.2], .c (.int .i64 most1), uu, uu, uu, uu, uu, uu, uu, uu, uu, uu, uu, uu, uu, uu, uu, uu, uu, uu, uu, uu, uu, uu, uu, uu, uu, uu, uu, uu, uu, uu, uu, uu, uu, uu, uu, uu, uu, uu, uu, uu, uu, uu, uu, uu, uu, uu, uu, uu, uu, uu, uu, uu, uu, uu, uu, uu, uu, uu, uu, uu, uu, uu], hp := emp }
theorem S48_eq (n : Nat × Nat) (s0 : Int × Int × Int × Int × Int × Int × Int × Int × Int × Int × Int) (most1 : Int) : S48 n s0 most1 =
 (bif 24 == 0 then none
 else (bif 2 == 0 then none
 else (bif ((Int.tmod s0.2.2.1 2) == 1) then (bif 2 == 0 then none
 else (S89 n (wr .i64 (1 + (Int.tmod (wr .i64 s0.1) 24))) (wr .i64 (Int.tdiv (wr .i64 s0.2.2.1) 2))).bind fun r1' =>
 (bif (wr .i64 (most1 + 1)) == 0 then none
 else (bif bounds none (some (Int.tmod (wr .i64 s0.2.1) (wr .i64 (most1 + 1)))) none 8 then L48_1 n n.1 (wr .i64 (1 + (Int.tmod (wr .i64 s0.1) 24))) ([s0.2.2.2.1, s0.2.2.2.2.1, s0.2.2.2.2.2.1, s0.2.2.2.2.2.2.1, s0.2.2.2.2.2.2.2.1, s0.2.2.2.2.2.2.2.2.1, s0.2.2.2.2.2.2.2.2.2.1, s0.2.2.2.2.2.2.2.2.2.2].take (Int.toNat (Int.tmod (wr .i64 s0.2.1) (wr .i64 (most1 + 1))))) (([s0.2.2.2.1, s0.2.2.2.2.1, s0.2.2.2.2.2.1, s0.2.2.2.2.2.2.1, s0.2.2.2.2.2.2.2.1, s0.2.2.2.2.2.2.2.2.1, s0.2.2.2.2.2.2.2.2.2.1, s0.2.2.2.2.2.2.2.2.2.2].take (Int.toNat (Int.tmod (wr .i64 s0.2.1) (wr .i64 (most1 + 1))))).length : Int) 0 r1' []
 else none)))
 else L48_2 n n.1 most1 (wr .i64 (1 + (Int.tmod (wr .i64 s0.1) 24))) (wr .i64 (1 + (Int.tmod (wr .i64 s0.1) 24))) 0 s0.1 s0.2.1 s0.2.2.1 s0.2.2.2.1 s0.2.2.2.2.1 s0.2.2.2.2.2.1 s0.2.2.2.2.2.2.1 s0.2.2.2.2.2.2.2.1 s0.2.2.2.2.2.2.2.2.1 s0.2.2.2.2.2.2.2.2.2.1 s0.2.2.2.2.2.2.2.2.2.2 []))) := by kernel_rfl
theorem S48_run (n : Nat × Nat) (xs : pksDen pk48) : S48 n xs.1 xs.2.1 = runG (E48 n) noScope c48 an48 (rtG rk48) (fun _ _ => none) (rtG rk48) (st0 pk48 xs Tryd.f48.ntmps) := by kernel_rfl
noncomputable def P48 (n : Nat × Nat) := phiOf pk48 rk48 (fun xs => S48 n xs.1 xs.2.1)
theorem call48 : CallOK Tryd.prog 48 := callOK_of Tryd.func48 (by kernel_rfl) (by kernel_rfl)
theorem env48 (n : Nat × Nat) : EnvOK Tryd.prog (E48 n) := envOK0 (consPhi_ok (FC89 n) call89 noPhi_ok) rfl rfl
theorem par48 (n : Nat × Nat) : EnvPar (E48 n) := envPar0 (consPhi_par phiOf_Par1 noPhi_par) rfl
theorem FC48 (n : Nat × Nat) : FCs Tryd.prog 48 (P48 n) := phiOf_FCs fun xs r h vs hv => FC.of_runG tabOK eqsOK (env48 n) (par48 n) mixed (fun _ p _ => noScope_ok p.1 p.2) Tryd.func48 (c := c48) (an := an48) (pks := pk48) (rks := rk48) (by kernel_rfl) (by kernel_rfl) hv ((S48_run n xs).symm.trans h)
abbrev R49 := Int
noncomputable def c49 : Code := bodyOf Tryd.f49
noncomputable def an49 : Ann := (.s .l (.s .l (.s (.s .l (.j [3] (.j [3, 6, 7, 8] (.s .l (.s (.j [3, 6, 7, 8] .l .l) (.s (.j [3, 6, 7, 8] .l .l) .l))) .l) .l)) .l)))
def pk49 : List PK := [.c (.sl (.int .i64))]
def rk49 : List RK := [.c (.int .i64) 2]
noncomputable def rt49 (st : St) : Option R49 := rtG rk49 st
noncomputable def E49 (n : Nat × Nat) : Env := { T := tab, phi := noPhi, eff := fun _ => false, fuel := n.1, hold := n.2 }
noncomputable def kq49_1 (n : Nat × Nat) : St → Option R49 := run (E49 n) (cB (cB (cB c49))) (Ann.snd (Ann.snd (Ann.snd an49))) rt49 (fun _ _ => none) rt49
noncomputable def xb49_3 (n : Nat × Nat) : Nat → St → Option R49 := fun j s => bif Nat.beq j 0 then normC [3] s (kq49_1 n) else (fun _ _ => none) j s
noncomputable def F49_4 (n : Nat × Nat) : (St → Option R49) → St → Option R49 := fun K s => run (E49 n) (cA (cA (cB (cA (cB (cB c49)))))) (Ann.fst (Ann.fst (Ann.snd (Ann.fst (Ann.snd (Ann.snd an49)))))) (fun s => normC [3, 6, 7, 8] s K) (xb49_3 n) rt49 s
noncomputable def L49_1 (n : Nat × Nat) (m : Nat) (v3 : Int) (v6 : List Int) (v7 : Int) (v8 : Int) : Option R49 := loopN (F49_4 n) m { tm := [uu, uu, uu, .c (.int .i64 v3), uu, uu, .c (.sl (.int .i64) v6 false), .c (.int .i64 v7), .c (.int .i64 v8), uu, uu, uu, uu, uu, uu, uu, uu], hp := emp }
theorem L49_1_eq (n : Nat × Nat) (m1 : Nat) (v3 : Int) (v6 : List Int) (v7 : Int) (v8 : Int) : L49_1 n (m1 + 1) v3 v6 v7 v8 =
 (bif decide (v8 < v7) then (idx v6 v8).bind fun x1' =>
      L49_1 n m1 (wr .i64 (v3 + x1')) v6 v7 (wr .i64 (v8 + 1))
 else some v3) := by kernel_rfl
noncomputable def S49 (n : Nat × Nat) (pieces0 : List Int) : Option R49 := run (E49 n) c49 an49 rt49 (fun _ _ => none) rt49 { tm := [.c (.sl (.int .i64) pieces0 false), uu, uu, uu, uu, uu, uu, uu, uu, uu, uu, uu, uu, uu, uu, uu, uu], hp := emp }
theorem S49_eq (n : Nat × Nat) (pieces0 : List Int) : S49 n pieces0 =
    L49_1 n n.1 0 pieces0 (pieces0.length : Int) 0 := by kernel_rfl
theorem S49_run (n : Nat × Nat) (xs : pksDen pk49) : S49 n xs.1 = runG (E49 n) noScope c49 an49 (rtG rk49) (fun _ _ => none) (rtG rk49) (st0 pk49 xs Tryd.f49.ntmps) := by kernel_rfl
noncomputable def P49 (n : Nat × Nat) := phiOf pk49 rk49 (fun xs => S49 n xs.1)
theorem call49 : CallOK Tryd.prog 49 := callOK_of Tryd.func49 (by kernel_rfl) (by kernel_rfl)
theorem env49 (n : Nat × Nat) : EnvOK Tryd.prog (E49 n) := envOK0 noPhi_ok rfl rfl
theorem par49 (n : Nat × Nat) : EnvPar (E49 n) := envPar0 noPhi_par rfl
theorem FC49 (n : Nat × Nat) : FCs Tryd.prog 49 (P49 n) := phiOf_FCs fun xs r h vs hv => FC.of_runG tabOK eqsOK (env49 n) (par49 n) mixed (fun _ p _ => noScope_ok p.1 p.2) Tryd.func49 (c := c49) (an := an49) (pks := pk49) (rks := rk49) (by kernel_rfl) (by kernel_rfl) hv ((S49_run n xs).symm.trans h)
abbrev R51 := List Int × List Int
noncomputable def c51 : Code := bodyOf Tryd.f51
noncomputable def an51 : Ann := (.s .l (.s .l (.s .l (.s (.s .l (.j [8, 9] (.j [0, 1, 8, 9, 22, 23, 24, 33, 34, 35, 36, 37, 38, 39, 40, 41] (.s .l (.s (.j [0, 1, 8, 9, 22, 23, 24, 33, 34, 35, 36, 37, 38, 39, 40, 41] .l .l) (.s (.j [0, 1, 8, 9, 22, 23, 24, 33, 34, 35, 36, 37, 38, 39, 40, 41] (.s .l (.s .l (.s (.j [0, 1, 8, 9, 11, 12, 22, 23, 24, 33, 34, 35, 36, 37, 38, 39, 40, 41] (.j [0, 1, 8, 9, 11, 12, 22, 23, 24, 33, 34, 35, 36, 37, 38, 39, 40, 41] (.s (.s .l (.j [0, 1, 8, 9, 11, 12, 22, 23, 24, 33, 34, 35, 36, 37, 38, 39, 40, 41] .l .l)) (.j [0, 1, 8, 9, 11, 12, 22, 23, 24, 33, 34, 35, 36, 37, 38, 39, 40, 41] .l .l)) .l) .l) (.s (.s .l (.j [0, 1, 8, 9, 11, 12, 22, 23, 24, 33, 34, 35, 36, 37, 38, 39, 40, 41] .l .l)) .l)))) .l) .l))) .l) .l)) (.s .l (.s .l (.s (.s .l (.j [9, 14] (.j [9, 13, 14, 69, 70, 71] (.s .l (.s (.j [9, 13, 14, 69, 70, 71] .l .l) (.s (.j [9, 13, 14, 69, 70, 71] (.s .l (.s (.s .l (.s .l (.j [9, 13, 14, 16, 69, 70, 71] .l .l))) .l)) .l) .l))) .l) .l)) .l)))))))
def pk51 : List PK := [.c (.int .i64), .c (.sl (.int .i64)), .c (.sl (.int .i64))]
def rk51 : List RK := [.own (.int .i64) 6, .own (.int .i64) 7]
noncomputable def rt51 (st : St) : Option R51 := rtG rk51 st
noncomputable def E51 (n : Nat × Nat) : Env := { T := tab, phi := noPhi, eff := fun _ => false, fuel := n.1, hold := n.2 }
noncomputable def kq51_1 (n : Nat × Nat) : St → Option R51 := run (E51 n) (cB (cB (cB (cB c51)))) (Ann.snd (Ann.snd (Ann.snd (Ann.snd an51)))) rt51 (fun _ _ => none) rt51
noncomputable def xb51_3 (n : Nat × Nat) : Nat → St → Option R51 := fun j s => bif Nat.beq j 0 then normC [8, 9] s (kq51_1 n) else (fun _ _ => none) j s
noncomputable def F51_4 (n : Nat × Nat) : (St → Option R51) → St → Option R51 := fun K s => run (E51 n) (cA (cA (cB (cA (cB (cB (cB c51))))))) (Ann.fst (Ann.fst (Ann.snd (Ann.fst (Ann.snd (Ann.snd (Ann.snd an51))))))) (fun s => normC [0, 1, 8, 9, 22, 23, 24, 33, 34, 35, 36, 37, 38, 39, 40, 41] s K) (xb51_3 n) rt51 s
noncomputable def kq51_7 (n : Nat × Nat) (m1 : Nat) : St → Option R51 := run (E51 n) (cB (cB (cB (cA (cA (cB (cA (cB (cB (cB c51)))))))))) (Ann.snd (Ann.snd (Ann.snd (Ann.fst (Ann.fst (Ann.snd (Ann.fst (Ann.snd (Ann.snd (Ann.snd an51)))))))))) (fun s => normC [0, 1, 8, 9, 22, 23, 24, 33, 34, 35, 36, 37, 38, 39, 40, 41] s (loopN (F51_4 n) m1)) (xb51_3 n) rt51
noncomputable def kc51_8 (n : Nat × Nat) (m1 : Nat) : St → Option R51 := fun s => normC [0, 1, 8, 9, 22, 23, 24, 33, 34, 35, 36, 37, 38, 39, 40, 41] s (kq51_7 n m1)
noncomputable def xb51_9 (n : Nat × Nat) (m1 : Nat) : Nat → St → Option R51 := fun j s => bif Nat.beq j 1 then normC [0, 1, 8, 9, 22, 23, 24, 33, 34, 35, 36, 37, 38, 39, 40, 41] s (kq51_7 n m1) else (xb51_3 n) j s
noncomputable def kq51_10 (n : Nat × Nat) (m1 : Nat) : St → Option R51 := run (E51 n) (cB (cB (cB (cA (cA (cB (cB (cA (cA (cB (cA (cB (cB (cB c51)))))))))))))) (Ann.snd (Ann.snd (Ann.snd (Ann.fst (Ann.fst (Ann.snd (Ann.snd (Ann.fst (Ann.fst (Ann.snd (Ann.fst (Ann.snd (Ann.snd (Ann.snd an51)))))))))))))) (kc51_8 n m1) (xb51_9 n m1) rt51
noncomputable def xb51_12 (n : Nat × Nat) (m1 : Nat) : Nat → St → Option R51 := fun j s => bif Nat.beq j 2 then normC [0, 1, 8, 9, 11, 12, 22, 23, 24, 33, 34, 35, 36, 37, 38, 39, 40, 41] s (kq51_10 n m1) else (xb51_9 n m1) j s
noncomputable def F51_13 (n : Nat × Nat) (m1 : Nat) : (St → Option R51) → St → Option R51 := fun K s => run (E51 n) (cA (cA (cA (cB (cB (cA (cA (cB (cB (cA (cA (cB (cA (cB (cB (cB c51)))))))))))))))) (Ann.fst (Ann.fst (Ann.fst (Ann.snd (Ann.snd (Ann.fst (Ann.fst (Ann.snd (Ann.snd (Ann.fst (Ann.fst (Ann.snd (Ann.fst (Ann.snd (Ann.snd (Ann.snd an51)))))))))))))))) (fun s => normC [0, 1, 8, 9, 11, 12, 22, 23, 24, 33, 34, 35, 36, 37, 38, 39, 40, 41] s K) (xb51_12 n m1) rt51 s
noncomputable def kq51_14 (n : Nat × Nat) : St → Option R51 := run (E51 n) (cB (cB (cB (cB (cB (cB (cB c51))))))) (Ann.snd (Ann.snd (Ann.snd (Ann.snd (Ann.snd (Ann.snd (Ann.snd an51))))))) rt51 (fun _ _ => none) rt51
noncomputable def xb51_16 (n : Nat × Nat) : Nat → St → Option R51 := fun j s => bif Nat.beq j 4 then normC [9, 14] s (kq51_14 n) else (fun _ _ => none) j s
noncomputable def F51_17 (n : Nat × Nat) : (St → Option R51) → St → Option R51 := fun K s => run (E51 n) (cA (cA (cB (cA (cB (cB (cB (cB (cB (cB c51)))))))))) (Ann.fst (Ann.fst (Ann.snd (Ann.fst (Ann.snd (Ann.snd (Ann.snd (Ann.snd (Ann.snd (Ann.snd an51)))))))))) (fun s => normC [9, 13, 14, 69, 70, 71] s K) (xb51_16 n) rt51 s
noncomputable def L51_1 (n : Nat × Nat) (m : Nat) (size0 : Int) (pieces1 : List Int) (v22 : List Int) (v23 : Int) (v24 : Int) (v8 : List Int) (left9 : List Int) : Option R51 := loopN (F51_4 n) m { tm := [.c (.int .i64 size0), .c (.sl (.int .i64) pieces1 false), uu, uu, uu, uu, uu, uu, .own 8 none false, .own 9 none false, uu, uu, uu, uu, uu, uu, uu, uu, uu, uu, uu, uu, .c (.sl (.int .i64) v22 false), .c (.int .i64 v23), .c (.int .i64 v24), uu, uu, uu, uu, uu, uu, uu, uu, uu, uu, uu, uu, uu, uu, uu, uu, uu, uu, uu, uu, uu, uu, uu, uu, uu, uu, uu, uu, uu, uu, uu, uu, uu, uu, uu, uu, uu, uu, uu, uu, uu, uu, uu, uu, uu, uu, uu, uu, uu, uu, uu, uu, uu, uu, uu, uu, uu, uu, uu, uu, uu, uu, uu, uu, uu, uu, uu, uu, uu, uu, uu], hp := (upd (upd emp 9 (.arr (.int .i64) left9 false)) 8 (.arr (.int .i64) v8 false)) }
noncomputable def L51_2 (n : Nat × Nat) (m1 : Nat) (m : Nat) (size0 : Int) (pieces1 : List Int) (i11 : Int) (s12 : Int) (v22 : List Int) (v23 : Int) (v24 : Int) (v8 : List Int) (left9 : List Int) : Option R51 := loopN (F51_13 n m1) m { tm := [.c (.int .i64 size0), .c (.sl (.int .i64) pieces1 false), uu, uu, uu, uu, uu, uu, .own 8 none false, .own 9 none false, uu, .c (.int .i64 i11), .c (.int .i64 s12), uu, uu, uu, uu, uu, uu, uu, uu, uu, .c (.sl (.int .i64) v22 false), .c (.int .i64 v23), .c (.int .i64 v24), uu, uu, uu, uu, uu, uu, uu, uu, uu, uu, uu, uu, uu, uu, uu, uu, uu, uu, uu, uu, uu, uu, uu, uu, uu, uu, uu, uu, uu, uu, uu, uu, uu, uu, uu, uu, uu, uu, uu, uu, uu, uu, uu, uu, uu, uu, uu, uu, uu, uu, uu, uu, uu, uu, uu, uu, uu, uu, uu, uu, uu, uu, uu, uu, uu, uu, uu, uu, uu, uu, uu], hp := (upd (upd emp 9 (.arr (.int .i64) left9 false)) 8 (.arr (.int .i64) v8 false)) }
noncomputable def L51_3 (n : Nat × Nat) (m : Nat) (v70 : Int) (v71 : Int) (left9 : List Int) (name13 : List (Int × Int)) (plan14 : List Int) (v69 : List Int) : Option R51 := loopN (F51_17 n) m { tm := [uu, uu, uu, uu, uu, uu, uu, uu, uu, .own 9 none false, uu, uu, uu, .map 13, .own 14 none false, uu, uu, uu, uu, uu, uu, uu, uu, uu, uu, uu, uu, uu, uu, uu, uu, uu, uu, uu, uu, uu, uu, uu, uu, uu, uu, uu, uu, uu, uu, uu, uu, uu, uu, uu, uu, uu, uu, uu, uu, uu, uu, uu, uu, uu, uu, uu, uu, uu, uu, uu, uu, uu, uu, .own 69 none false, .c (.int .i64 v70), .c (.int .i64 v71), uu, uu, uu, uu, uu, uu, uu, uu, uu, uu, uu, uu, uu, uu, uu, uu, uu, uu, uu, uu, uu, uu, uu, uu], hp := (upd (upd (upd (upd emp 69 (.arr (.int .i64) v69 false)) 14 (.arr (.int .i64) plan14 false)) 13 (.mp .i64 (.int .i64) name13)) 9 (.arr (.int .i64) left9 false)) }
theorem L51_1_eq (n : Nat × Nat) (m1 : Nat) (size0 : Int) (pieces1 : List Int) (v22 : List Int) (v23 : Int) (v24 : Int) (v8 : List Int) (left9 : List Int) : L51_1 n (m1 + 1) size0 pieces1 v22 v23 v24 v8 left9 =
 (bif decide (v24 < v23) then (idx v22 v24).bind fun x1' =>
      L51_2 n m1 n.1 size0 pieces1 x1' 0 v22 v23 v24 v8 left9
 else L51_3 n n.1 (v8.length : Int) 0 left9 [] [] v8) := by kernel_rfl
theorem L51_2_eq (n : Nat × Nat) (m1 m2 : Nat) (size0 : Int) (pieces1 : List Int) (i11 : Int) (s12 : Int) (v22 : List Int) (v23 : Int) (v24 : Int) (v8 : List Int) (left9 : List Int) : L51_2 n m1 (m2 + 1) size0 pieces1 i11 s12 v22 v23 v24 v8 left9 =
 ((bif (decide (s12 < (left9.length : Int)) == true) then (bif inB s12 left9.length then (idx left9 s12).bind fun x2' =>
 (idx pieces1 i11).bind fun x3' =>
 some (decide (x2' < x3'))
 else none)
 else some false)).bind fun b4' =>
 (bif b4' then L51_2 n m1 m2 size0 pieces1 i11 (wr .i64 (s12 + 1)) v22 v23 v24 v8 left9
 else (bif (s12 == (left9.length : Int)) then (bif decide (left9.length + [size0].length ≤ lim) then (bif inB s12 (left9 ++ [size0]).length then (idx (left9 ++ [size0]) s12).bind fun x5' =>
 (idx pieces1 i11).bind fun x6' =>
 (bif inB s12 (left9 ++ [size0]).length then (idx (left9 ++ [size0]) s12).bind fun x7' =>
 (bif inB i11 v8.length then (idx v8 i11).bind fun x8' =>
                L51_1 n m1 size0 pieces1 v22 v23 (wr .i64 (v24 + 1)) (v8.set (Int.toNat i11) s12) ((left9 ++ [size0]).set (Int.toNat s12) (wr .i64 (x5' - x6')))
 else none)
 else none)
 else none)
 else none)
 else (bif inB s12 left9.length then (idx left9 s12).bind fun x9' =>
 (idx pieces1 i11).bind fun x10' =>
 (bif inB s12 left9.length then (idx left9 s12).bind fun x11' =>
 (bif inB i11 v8.length then (idx v8 i11).bind fun x12' =>
              L51_1 n m1 size0 pieces1 v22 v23 (wr .i64 (v24 + 1)) (v8.set (Int.toNat i11) s12) (left9.set (Int.toNat s12) (wr .i64 (x9' - x10')))
 else none)
 else none)
 else none))) := by kernel_rfl
theorem L51_3_eq (n : Nat × Nat) (m1 : Nat) (v70 : Int) (v71 : Int) (left9 : List Int) (name13 : List (Int × Int)) (plan14 : List Int) (v69 : List Int) : L51_3 n (m1 + 1) v70 v71 left9 name13 plan14 v69 =
 (bif decide (v71 < v70) then (bif inB v71 v69.length then (idx v69 v71).bind fun x13' =>
 (bif (!((alook name13 x13').isSome)) then (bif decide (plan14.length + [((alook (aset name13 x13' (name13.length : Int)) x13').getD 0)].length ≤ lim) then L51_3 n m1 v70 (wr .i64 (v71 + 1)) left9 (aset name13 x13' (name13.length : Int)) (plan14 ++ [((alook (aset name13 x13' (name13.length : Int)) x13').getD 0)]) v69
 else none)
 else (bif decide (plan14.length + [((alook name13 x13').getD 0)].length ≤ lim) then L51_3 n m1 v70 (wr .i64 (v71 + 1)) left9 name13 (plan14 ++ [((alook name13 x13').getD 0)]) v69
 else none))
 else none)
 else some (plan14, left9)) := by kernel_rfl
noncomputable def S51 (n : Nat × Nat) (size0 : Int) (pieces1 : List Int) (order2 : List Int) : Option R51 := run (E51 n) c51 an51 rt51 (fun _ _ => none) rt51 { tm := [.c (.int .i64 size0), .c (.sl (.int .i64) pieces1 false), .c (.sl (.int .i64) order2 false), uu, uu, uu, uu, uu, uu, uu, uu, uu, uu, uu, uu, uu, uu, uu, uu, uu, uu, uu, uu, uu, uu, uu, uu, uu, uu, uu, uu, uu, uu, uu, uu, uu, uu, uu, uu, uu, uu, uu, uu, uu, uu, uu, uu, uu, uu, uu, uu, uu, uu, uu, uu, uu, uu, uu, uu, uu, uu, uu, uu, uu, uu, uu, uu, uu, uu, uu, uu, uu, uu, uu, uu, uu, uu, uu, uu, uu, uu, uu, uu, uu, uu, uu, uu, uu, uu, uu, uu, uu, uu, uu, uu, uu], hp := emp }
theorem S51_eq (n : Nat × Nat) (size0 : Int) (pieces1 : List Int) (order2 : List Int) : S51 n size0 pieces1 order2 =
 (bif decide (0 ≤ (pieces1.length : Int)) && decide ((pieces1.length : Int) ≤ (pieces1.length : Int)) && decide ((pieces1.length : Int) ≤ lim) then L51_1 n n.1 size0 pieces1 order2 (order2.length : Int) 0 (List.replicate (Int.toNat (pieces1.length : Int)) (0 : Int)) []
 else none) := by kernel_rfl
theorem S51_run (n : Nat × Nat) (xs : pksDen pk51) : S51 n xs.1 xs.2.1 xs.2.2.1 = runG (E51 n) noScope c51 an51 (rtG rk51) (fun _ _ => none) (rtG rk51) (st0 pk51 xs Tryd.f51.ntmps) := by kernel_rfl
noncomputable def P51 (n : Nat × Nat) := phiOf pk51 rk51 (fun xs => S51 n xs.1 xs.2.1 xs.2.2.1)
theorem call51 : CallOK Tryd.prog 51 := callOK_of Tryd.func51 (by kernel_rfl) (by kernel_rfl)
theorem env51 (n : Nat × Nat) : EnvOK Tryd.prog (E51 n) := envOK0 noPhi_ok rfl rfl
theorem par51 (n : Nat × Nat) : EnvPar (E51 n) := envPar0 noPhi_par rfl
theorem FC51 (n : Nat × Nat) : FCs Tryd.prog 51 (P51 n) := phiOf_FCs fun xs r h vs hv => FC.of_runG tabOK eqsOK (env51 n) (par51 n) mixed (fun _ p _ => noScope_ok p.1 p.2) Tryd.func51 (c := c51) (an := an51) (pks := pk51) (rks := rk51) (by kernel_rfl) (by kernel_rfl) hv ((S51_run n xs).symm.trans h)
/- slices.Concat[[][]int,[]int] -/
abbrev R64 := List (List Int)
noncomputable def c64 : Code := bodyOf Tryd.f64
noncomputable def an64 : Ann := (.s .l (.s .l (.s (.s .l (.j [0, 3] (.j [0, 3, 9, 10, 11] (.s .l (.s (.j [0, 3, 9, 10, 11] .l .l) (.j [] (.j [0, 3, 9, 10, 11] (.s .l (.s .l (.s .l (.j [0, 3, 9, 10, 11] .l .l)))) .l) .l))) .l) .l)) (.s .l (.s (.s .l (.j [6] (.j [6, 25, 26, 27] (.s .l (.s (.j [6, 25, 26, 27] .l .l) (.s (.j [6, 25, 26, 27] .l .l) .l))) .l) .l)) .l)))))
def pk64 : List PK := [.c (.sl (.sl (.sl (.int .i64))))]
def rk64 : List RK := [.own (.sl (.int .i64)) 2]
noncomputable def rt64 (st : St) : Option R64 := rtG rk64 st
noncomputable def E64 (n : Nat × Nat) : Env := { T := tab, phi := (consPhi 92 (fun _ => true) (growF (.sl (.int .i64))) noPhi), eff := fun _ => false, fuel := n.1, hold := n.2 }
noncomputable def kq64_1 (n : Nat × Nat) : St → Option R64 := run (E64 n) (cB (cB (cB c64))) (Ann.snd (Ann.snd (Ann.snd an64))) rt64 (fun _ _ => none) rt64
noncomputable def xb64_3 (n : Nat × Nat) : Nat → St → Option R64 := fun j s => bif Nat.beq j 0 then normC [0, 3] s (kq64_1 n) else (fun _ _ => none) j s
noncomputable def F64_4 (n : Nat × Nat) : (St → Option R64) → St → Option R64 := fun K s => run (E64 n) (cA (cA (cB (cA (cB (cB c64)))))) (Ann.fst (Ann.fst (Ann.snd (Ann.fst (Ann.snd (Ann.snd an64)))))) (fun s => normC [0, 3, 9, 10, 11] s K) (xb64_3 n) rt64 s
noncomputable def kq64_7 (n : Nat × Nat) (m1 : Nat) : St → Option R64 := run (E64 n) (cB (cB (cB (cA (cA (cB (cA (cB (cB c64))))))))) (Ann.snd (Ann.snd (Ann.snd (Ann.fst (Ann.fst (Ann.snd (Ann.fst (Ann.snd (Ann.snd an64))))))))) (fun s => normC [0, 3, 9, 10, 11] s (loopN (F64_4 n) m1)) (xb64_3 n) rt64
noncomputable def kq64_11 (n : Nat × Nat) : St → Option R64 := run (E64 n) (cB (cB (cB (cB (cB c64))))) (Ann.snd (Ann.snd (Ann.snd (Ann.snd (Ann.snd an64))))) rt64 (fun _ _ => none) rt64
noncomputable def xb64_13 (n : Nat × Nat) : Nat → St → Option R64 := fun j s => bif Nat.beq j 2 then normC [6] s (kq64_11 n) else (fun _ _ => none) j s
noncomputable def F64_14 (n : Nat × Nat) : (St → Option R64) → St → Option R64 := fun K s => run (E64 n) (cA (cA (cB (cA (cB (cB (cB (cB c64)))))))) (Ann.fst (Ann.fst (Ann.snd (Ann.fst (Ann.snd (Ann.snd (Ann.snd (Ann.snd an64)))))))) (fun s => normC [6, 25, 26, 27] s K) (xb64_13 n) rt64 s
noncomputable def L64_1 (n : Nat × Nat) (m : Nat) (slices0 : List (List (List Int))) (size3 : Int) (v9 : List (List (List Int))) (v10 : Int) (v11 : Int) : Option R64 := loopN (F64_4 n) m { tm := [.c (.sl (.sl (.sl (.int .i64))) slices0 false), uu, uu, .c (.int .i64 size3), uu, uu, uu, uu, uu, .c (.sl (.sl (.sl (.int .i64))) v9 false), .c (.int .i64 v10), .c (.int .i64 v11), uu, uu, uu, uu, uu, uu, uu, uu, uu, uu, uu, uu, uu, uu, uu, uu, uu, uu, uu, uu, uu, uu, uu, uu], hp := emp }
noncomputable def L64_2 (n : Nat × Nat) (m1 : Nat) (slices0 : List (List (List Int))) (size3 : Int) (v9 : List (List (List Int))) (v10 : Int) (v11 : Int) : Option R64 := loopN (fun _ => (kq64_7 n m1)) n.2 { tm := [.c (.sl (.sl (.sl (.int .i64))) slices0 false), uu, uu, .c (.int .i64 size3), uu, uu, uu, uu, uu, .c (.sl (.sl (.sl (.int .i64))) v9 false), .c (.int .i64 v10), .c (.int .i64 v11), uu, uu, uu, uu, uu, uu, uu, uu, uu, uu, uu, uu, uu, uu, uu, uu, uu, uu, uu, uu, uu, uu, uu, uu], hp := emp }
noncomputable def L64_3 (n : Nat × Nat) (m : Nat) (v25 : List (List (List Int))) (v26 : Int) (v27 : Int) (newslice6 : List (List Int)) : Option R64 := loopN (F64_14 n) m { tm := [uu, uu, uu, uu, uu, uu, .own 6 none false, uu, uu, uu, uu, uu, uu, uu, uu, uu, uu, uu, uu, uu, uu, uu, uu, uu, uu, .c (.sl (.sl (.sl (.int .i64))) v25 false), .c (.int .i64 v26), .c (.int .i64 v27), uu, uu, uu, uu, uu, uu, uu, uu], hp := (upd emp 6 (.arr (.sl (.int .i64)) newslice6 false)) }
theorem L64_1_eq (n : Nat × Nat) (m1 : Nat) (slices0 : List (List (List Int))) (size3 : Int) (v9 : List (List (List Int))) (v10 : Int) (v11 : Int) : L64_1 n (m1 + 1) slices0 size3 v9 v10 v11 =
 (bif decide (v11 < v10) then (idx v9 v11).bind fun x1' =>
 (bif decide (wr .i64 (size3 + (x1'.length : Int)) < 0) then none
 else L64_2 n m1 slices0 (wr .i64 (size3 + (x1'.length : Int))) v9 v10 v11)
 else (bif decide (0 ≤ size3) && decide (size3 ≤ 1073741824) then L64_3 n n.1 slices0 (slices0.length : Int) 0 []
 else none)) := by kernel_rfl
theorem L64_2_raw (n : Nat × Nat) (m1 : Nat) (slices0 : List (List (List Int))) (size3 : Int) (v9 : List (List (List Int))) (v10 : Int) (v11 : Int) : (kq64_7 n m1) { tm := [.c (.sl (.sl (.sl (.int .i64))) slices0 false), uu, uu, .c (.int .i64 size3), uu, uu, uu, uu, uu, .c (.sl (.sl (.sl (.int .i64))) v9 false), .c (.int .i64 v10), .c (.int .i64 v11), uu, uu, uu, uu, uu, uu, uu, uu, uu, uu, uu, uu, uu, uu, uu, uu, uu, uu, uu, uu, uu, uu, uu, uu], hp := emp } =
    L64_1 n m1 slices0 size3 v9 v10 (wr .i64 (v11 + 1)) := by kernel_rfl
theorem L64_3_eq (n : Nat × Nat) (m1 : Nat) (v25 : List (List (List Int))) (v26 : Int) (v27 : Int) (newslice6 : List (List Int)) : L64_3 n (m1 + 1) v25 v26 v27 newslice6 =
 (bif decide (v27 < v26) then (idx v25 v27).bind fun x2' =>
 (bif decide (newslice6.length + x2'.length ≤ lim) then L64_3 n m1 v25 v26 (wr .i64 (v27 + 1)) (newslice6 ++ x2')
 else none)
 else some newslice6) := by kernel_rfl
noncomputable def S64 (n : Nat × Nat) (slices0 : List (List (List Int))) : Option R64 := run (E64 n) c64 an64 rt64 (fun _ _ => none) rt64 { tm := [.c (.sl (.sl (.sl (.int .i64))) slices0 false), uu, uu, uu, uu, uu, uu, uu, uu, uu, uu, uu, uu, uu, uu, uu, uu, uu, uu, uu, uu, uu, uu, uu, uu, uu, uu, uu, uu, uu, uu, uu, uu, uu, uu, uu], hp := emp }
theorem S64_eq (n : Nat × Nat) (slices0 : List (List (List Int))) : S64 n slices0 =
    L64_1 n n.1 slices0 0 slices0 (slices0.length : Int) 0 := by kernel_rfl
theorem S64_run (n : Nat × Nat) (xs : pksDen pk64) : S64 n xs.1 = runG (E64 n) noScope c64 an64 (rtG rk64) (fun _ _ => none) (rtG rk64) (st0 pk64 xs Tryd.f64.ntmps) := by kernel_rfl
noncomputable def P64 (n : Nat × Nat) := phiOf pk64 rk64 (fun xs => S64 n xs.1)
theorem call64 : CallOK Tryd.prog 64 := callOK_of Tryd.func64 (by kernel_rfl) (by kernel_rfl)
theorem env64 (n : Nat × Nat) : EnvOK Tryd.prog (E64 n) := envOK0 (consPhi_ok grow92 gcall92 noPhi_ok) rfl rfl
theorem par64 (n : Nat × Nat) : EnvPar (E64 n) := envPar0 (consPhi_par growF_Par1 noPhi_par) rfl
theorem FC64 (n : Nat × Nat) : FCs Tryd.prog 64 (P64 n) := phiOf_FCs fun xs r h vs hv => FC.of_runG tabOK eqsOK (env64 n) (par64 n) mixed (fun _ p _ => noScope_ok p.1 p.2) Tryd.func64 (c := c64) (an := an64) (pks := pk64) (rks := rk64) (by kernel_rfl) (by kernel_rfl) hv ((S64_run n xs).symm.trans h)
/- slices.Reverse[[]int,int] -/
abbrev R63io1 := (Unit) × (List Int) × Unit
noncomputable def c63io1 : Code := bodyOf Tryd.f63
noncomputable def an63io1 : Ann := (.s .l (.j [1000000000] (.j [0, 2, 3, 1000000000] (.s (.s .l (.j [0, 2, 3, 1000000000] .l .l)) (.s (.j [0, 2, 3, 1000000000] .l .l) .l)) .l) .l))
def pk63io1 : List QK := [.oa (.int .i64)]
def rk63io1 : List RK := []
noncomputable def rt63io1 (st : St) : Option R63io1 := rtIO rk63io1 (pk63io1.flatMap QK.ods) st
noncomputable def E63io1 (n : Nat × Nat) : Env := { T := tab, phi := noPhi, eff := fun _ => false, fuel := n.1, hold := n.2 }
noncomputable def xb63io1_2 (n : Nat × Nat) : Nat → St → Option R63io1 := fun j s => bif Nat.beq j 0 then normC [1000000000] s rt63io1 else (fun _ _ => none) j s
noncomputable def F63io1_3 (n : Nat × Nat) : (St → Option R63io1) → St → Option R63io1 := fun K s => run (E63io1 n) (cA (cA (cB c63io1))) (Ann.fst (Ann.fst (Ann.snd an63io1))) (fun s => normC [0, 2, 3, 1000000000] s K) (xb63io1_2 n) rt63io1 s
noncomputable def L63io1_1 (n : Nat × Nat) (m : Nat) (i2 : Int) (j3 : Int) (u0 : List Int) : Option R63io1 := loopN (F63io1_3 n) m { tm := [.own 1000000000 none false, uu, .c (.int .i64 i2), .c (.int .i64 j3), uu, uu, uu, uu, uu, uu, uu, uu, uu, uu, uu, uu, uu, uu, uu, uu, uu, uu, uu, uu, uu, uu, uu, uu], hp := (upd emp 1000000000 (.arr (.int .i64) u0 false)) }
theorem L63io1_1_eq (n : Nat × Nat) (m1 : Nat) (i2 : Int) (j3 : Int) (u0 : List Int) : L63io1_1 n (m1 + 1) i2 j3 u0 =
 (bif decide (i2 < j3) then (bif inB j3 u0.length then (idx u0 j3).bind fun x1' =>
 (bif inB i2 u0.length then (idx u0 i2).bind fun x2' =>
 (bif inB i2 u0.length then (idx u0 i2).bind fun x3' =>
 (bif inB j3 (u0.set (Int.toNat i2) x1').length then (idx (u0.set (Int.toNat i2) x1') j3).bind fun x4' =>
              L63io1_1 n m1 (wr .i64 (i2 + 1)) (wr .i64 (j3 - 1)) ((u0.set (Int.toNat i2) x1').set (Int.toNat j3) x2')
 else none)
 else none)
 else none)
 else none)
 else some ((), u0, ())) := by kernel_rfl
noncomputable def S63io1 (n : Nat × Nat) (s0 : List Int) : Option R63io1 := run (E63io1 n) c63io1 an63io1 rt63io1 (fun _ _ => none) rt63io1 { tm := [.own 1000000000 none false, uu, uu, uu, uu, uu, uu, uu, uu, uu, uu, uu, uu, uu, uu, uu, uu, uu, uu, uu, uu, uu, uu, uu, uu, uu, uu, uu], hp := (upd emp 1000000000 (.arr (.int .i64) s0 false)) }
theorem S63io1_eq (n : Nat × Nat) (s0 : List Int) : S63io1 n s0 =
    L63io1_1 n n.1 0 (wr .i64 ((s0.length : Int) - 1)) s0 := by kernel_rfl
theorem S63io1_run (n : Nat × Nat) (xs : qksDen pk63io1) : S63io1 n xs.1 = runG (E63io1 n) noScope c63io1 an63io1 (rtIO rk63io1 (pk63io1.flatMap QK.ods)) (fun _ _ => none) (rtIO rk63io1 (pk63io1.flatMap QK.ods)) (st1 pk63io1 xs Tryd.f63.ntmps) := by kernel_rfl
noncomputable def P63io1 (n : Nat × Nat) := phioOf pk63io1 rk63io1 (pk63io1.flatMap QK.ods) (fun xs => S63io1 n xs.1)
theorem call63 : CallOK Tryd.prog 63 := callOK_of Tryd.func63 (by kernel_rfl) (by kernel_rfl)
theorem env63io1 (n : Nat × Nat) : EnvOK Tryd.prog (E63io1 n) := envOK0 noPhi_ok rfl rfl
theorem par63io1 (n : Nat × Nat) : EnvPar (E63io1 n) := envPar0 noPhi_par rfl
theorem FC63io1 (n : Nat × Nat) : FCios Tryd.prog 63 (pk63io1.map QK.flag) (P63io1 n) := phioOf_FCios fun xs r h vs hv => FCio.of_runG tabOK eqsOK (env63io1 n) (par63io1 n) mixed (fun _ p _ => noScope_ok p.1 p.2) Tryd.func63 (c := c63io1) (an := an63io1) (qks := pk63io1) (rks := rk63io1) (by kernel_rfl) (by kernel_rfl) hv ((S63io1_run n xs).symm.trans h)
abbrev R15 := Bool
noncomputable def c15 : Code := bodyOf Tryd.f15
noncomputable def an15 : Ann := (.s .l (.s .l (.s .l (.s (.s .l (.j [2, 7, 8, 9, 92, 93, 96, 97, 98, 99, 100, 103, 104, 105, 106, 107, 110, 111, 112, 113, 114, 167, 168, 169, 170, 171, 172, 173, 174, 209, 210, 211, 214] (.j [2, 4, 7, 8, 9, 38, 39, 92, 93, 96, 97, 98, 99, 100, 103, 104, 105, 106, 107, 110, 111, 112, 113, 114, 167, 168, 169, 170, 171, 172, 173, 174, 209, 210, 211, 214] (.s .l (.s (.j [2, 4, 7, 8, 9, 38, 39, 92, 93, 96, 97, 98, 99, 100, 103, 104, 105, 106, 107, 110, 111, 112, 113, 114, 167, 168, 169, 170, 171, 172, 173, 174, 209, 210, 211, 214] .l .l) (.s (.j [2, 4, 7, 8, 9, 38, 39, 92, 93, 96, 97, 98, 99, 100, 103, 104, 105, 106, 107, 110, 111, 112, 113, 114, 167, 168, 169, 170, 171, 172, 173, 174, 209, 210, 211, 214] .l .l) .l))) .l) .l)) (.s .l (.s .l (.s .l (.s (.s .l (.j [2, 7, 8, 12, 13, 14, 16, 167, 168, 169, 170, 171, 172, 173, 174, 209, 210, 211, 214] .l .l)) (.s (.s .l (.j [2, 7, 8, 12, 13, 14, 16, 167, 168, 169, 170, 171, 172, 173, 174, 209, 210, 211, 214] .l .l)) (.s .l (.s (.s .l (.j [2, 7, 8, 12, 18, 209, 210, 211, 214] (.j [2, 7, 8, 12, 14, 16, 18, 127, 128, 167, 168, 169, 170, 171, 172, 173, 174, 209, 210, 211, 214] (.s .l (.s (.j [2, 7, 8, 12, 14, 16, 18, 127, 128, 167, 168, 169, 170, 171, 172, 173, 174, 209, 210, 211, 214] .l .l) (.s (.j [2, 7, 8, 12, 14, 16, 18, 127, 128, 167, 168, 169, 170, 171, 172, 173, 174, 209, 210, 211, 214] (.s .l (.s .l (.s (.s .l (.j [2, 7, 8, 12, 14, 16, 18, 19, 20, 127, 128, 167, 168, 169, 170, 171, 172, 173, 174, 209, 210, 211, 214] (.j [2, 7, 8, 12, 14, 16, 18, 19, 20, 127, 128, 131, 132, 133, 167, 168, 169, 170, 171, 172, 173, 174, 209, 210, 211, 214] (.s .l (.s (.j [2, 7, 8, 12, 14, 16, 18, 19, 20, 127, 128, 131, 132, 133, 167, 168, 169, 170, 171, 172, 173, 174, 209, 210, 211, 214] .l .l) (.j [] (.j [2, 7, 8, 12, 14, 16, 18, 19, 20, 127, 128, 131, 132, 133, 167, 168, 169, 170, 171, 172, 173, 174, 209, 210, 211, 214] (.s .l (.s .l (.j [2, 7, 8, 12, 14, 16, 18, 19, 20, 127, 128, 131, 132, 133, 167, 168, 169, 170, 171, 172, 173, 174, 209, 210, 211, 214] .l .l))) .l) .l))) .l) .l)) (.s .l (.s (.s .l (.j [2, 7, 8, 12, 14, 16, 18, 19, 20, 23, 127, 128, 167, 168, 169, 170, 171, 172, 173, 174, 209, 210, 211, 214] (.j [2, 7, 8, 12, 14, 16, 18, 19, 20, 23, 127, 128, 146, 147, 148, 167, 168, 169, 170, 171, 172, 173, 174, 209, 210, 211, 214] (.s .l (.s (.j [2, 7, 8, 12, 14, 16, 18, 19, 20, 23, 127, 128, 146, 147, 148, 167, 168, 169, 170, 171, 172, 173, 174, 209, 210, 211, 214] .l .l) (.s (.j [2, 7, 8, 12, 14, 16, 18, 19, 20, 23, 127, 128, 146, 147, 148, 167, 168, 169, 170, 171, 172, 173, 174, 209, 210, 211, 214] .l .l) .l))) .l) .l)) (.s (.s .l (.j [2, 7, 8, 12, 14, 16, 18, 20, 127, 128, 167, 168, 169, 170, 171, 172, 173, 174, 209, 210, 211, 214] .l .l)) .l)))))) .l) .l))) .l) .l)) (.s (.s .l (.s .l (.j [7, 8, 12, 18, 209, 210, 211, 214] .l .l))) .l))))))))))))
def pk15 : List PK := [.c (.pair (.int .u8) (.pair (.int .u8) (.pair (.int .u8) (.pair (.int .u8) (.pair (.int .u8) (.pair (.int .u8) (.pair (.int .u8) (.pair (.int .u8) (.pair (.int .u8) (.pair (.int .u8) (.int .u8))))))))))), .c (.pair (.int .u8) (.pair (.int .u8) (.pair (.int .u8) (.pair (.int .u8) (.pair (.int .u8) (.pair (.int .u8) (.pair (.int .u8) (.int .u8)))))))), .c (.int .u8)]
def rk15 : List RK := [.c .bool 6]
noncomputable def rt15 (st : St) : Option R15 := rtG rk15 st
noncomputable def io15 (n : Nat × Nat) : List IoE := [⟨63, (fun _ => true), pk63io1.map QK.flag, P63io1 n⟩]
noncomputable def E15 (n : Nat × Nat) : Env := { T := tab, phi := (consPhi 17 (fun _ => true) (P17 n) (consPhi 18 (fun _ => true) (P18 n) (consPhi 20 (fun _ => true) (P20 n) (consPhi 22 (fun _ => true) (P22 n) (consPhi 24 (fun _ => true) (P24 n) (consPhi 28 (fun _ => true) (P28 n) (consPhi 48 (fun _ => true) (P48 n) (consPhi 49 (fun _ => true) (P49 n) (consPhi 51 (fun _ => true) (P51 n) (consPhi 64 (fun _ => true) (P64 n) noPhi)))))))))), eff := fun g => Nat.beq g 20 || Nat.beq g 48 || Nat.beq g 64, fuel := n.1, hold := n.2, phio := phioL (io15 n), iop := iopL (io15 n) }
noncomputable def kq15_1 (n : Nat × Nat) : St → Option R15 := run (E15 n) (cB (cB (cB (cB c15)))) (Ann.snd (Ann.snd (Ann.snd (Ann.snd an15)))) rt15 (fun _ _ => none) rt15
noncomputable def xb15_3 (n : Nat × Nat) : Nat → St → Option R15 := fun j s => bif Nat.beq j 0 then normC [2, 7, 8, 9, 92, 93, 96, 97, 98, 99, 100, 103, 104, 105, 106, 107, 110, 111, 112, 113, 114, 167, 168, 169, 170, 171, 172, 173, 174, 209, 210, 211, 214] s (kq15_1 n) else (fun _ _ => none) j s
noncomputable def F15_4 (n : Nat × Nat) : (St → Option R15) → St → Option R15 := fun K s => run (E15 n) (cA (cA (cB (cA (cB (cB (cB c15))))))) (Ann.fst (Ann.fst (Ann.snd (Ann.fst (Ann.snd (Ann.snd (Ann.snd an15))))))) (fun s => normC [2, 4, 7, 8, 9, 38, 39, 92, 93, 96, 97, 98, 99, 100, 103, 104, 105, 106, 107, 110, 111, 112, 113, 114, 167, 168, 169, 170, 171, 172, 173, 174, 209, 210, 211, 214] s K) (xb15_3 n) rt15 s
noncomputable def kq15_14 (n : Nat × Nat) : St → Option R15 := run (E15 n) (cB (cB (cB (cB (cB (cB (cB (cB (cB (cB (cB c15))))))))))) (Ann.snd (Ann.snd (Ann.snd (Ann.snd (Ann.snd (Ann.snd (Ann.snd (Ann.snd (Ann.snd (Ann.snd (Ann.snd an15))))))))))) rt15 (fun _ _ => none) rt15
noncomputable def xb15_16 (n : Nat × Nat) : Nat → St → Option R15 := fun j s => bif Nat.beq j 2 then normC [2, 7, 8, 12, 18, 209, 210, 211, 214] s (kq15_14 n) else (fun _ _ => none) j s
noncomputable def F15_17 (n : Nat × Nat) : (St → Option R15) → St → Option R15 := fun K s => run (E15 n) (cA (cA (cB (cA (cB (cB (cB (cB (cB (cB (cB (cB (cB (cB c15)))))))))))))) (Ann.fst (Ann.fst (Ann.snd (Ann.fst (Ann.snd (Ann.snd (Ann.snd (Ann.snd (Ann.snd (Ann.snd (Ann.snd (Ann.snd (Ann.snd (Ann.snd an15)))))))))))))) (fun s => normC [2, 7, 8, 12, 14, 16, 18, 127, 128, 167, 168, 169, 170, 171, 172, 173, 174, 209, 210, 211, 214] s K) (xb15_16 n) rt15 s
noncomputable def kq15_20 (n : Nat × Nat) (m1 : Nat) : St → Option R15 := run (E15 n) (cB (cB (cB (cA (cA (cB (cA (cB (cB (cB (cB (cB (cB (cB (cB (cB (cB c15))))))))))))))))) (Ann.snd (Ann.snd (Ann.snd (Ann.fst (Ann.fst (Ann.snd (Ann.fst (Ann.snd (Ann.snd (Ann.snd (Ann.snd (Ann.snd (Ann.snd (Ann.snd (Ann.snd (Ann.snd (Ann.snd an15))))))))))))))))) (fun s => normC [2, 7, 8, 12, 14, 16, 18, 127, 128, 167, 168, 169, 170, 171, 172, 173, 174, 209, 210, 211, 214] s (loopN (F15_17 n) m1)) (xb15_16 n) rt15
noncomputable def kc15_21 (n : Nat × Nat) (m1 : Nat) : St → Option R15 := fun s => normC [2, 7, 8, 12, 14, 16, 18, 127, 128, 167, 168, 169, 170, 171, 172, 173, 174, 209, 210, 211, 214] s (kq15_20 n m1)
noncomputable def xb15_22 (n : Nat × Nat) (m1 : Nat) : Nat → St → Option R15 := fun j s => bif Nat.beq j 3 then normC [2, 7, 8, 12, 14, 16, 18, 127, 128, 167, 168, 169, 170, 171, 172, 173, 174, 209, 210, 211, 214] s (kq15_20 n m1) else (xb15_16 n) j s
noncomputable def kq15_23 (n : Nat × Nat) (m1 : Nat) : St → Option R15 := run (E15 n) (cB (cB (cB (cA (cA (cB (cB (cA (cA (cB (cA (cB (cB (cB (cB (cB (cB (cB (cB (cB (cB c15))))))))))))))))))))) (Ann.snd (Ann.snd (Ann.snd (Ann.fst (Ann.fst (Ann.snd (Ann.snd (Ann.fst (Ann.fst (Ann.snd (Ann.fst (Ann.snd (Ann.snd (Ann.snd (Ann.snd (Ann.snd (Ann.snd (Ann.snd (Ann.snd (Ann.snd (Ann.snd an15))))))))))))))))))))) (kc15_21 n m1) (xb15_22 n m1) rt15
noncomputable def xb15_25 (n : Nat × Nat) (m1 : Nat) : Nat → St → Option R15 := fun j s => bif Nat.beq j 4 then normC [2, 7, 8, 12, 14, 16, 18, 19, 20, 127, 128, 167, 168, 169, 170, 171, 172, 173, 174, 209, 210, 211, 214] s (kq15_23 n m1) else (xb15_22 n m1) j s
noncomputable def F15_26 (n : Nat × Nat) (m1 : Nat) : (St → Option R15) → St → Option R15 := fun K s => run (E15 n) (cA (cA (cB (cA (cB (cB (cA (cA (cB (cB (cA (cA (cB (cA (cB (cB (cB (cB (cB (cB (cB (cB (cB (cB c15)))))))))))))))))))))))) (Ann.fst (Ann.fst (Ann.snd (Ann.fst (Ann.snd (Ann.snd (Ann.fst (Ann.fst (Ann.snd (Ann.snd (Ann.fst (Ann.fst (Ann.snd (Ann.fst (Ann.snd (Ann.snd (Ann.snd (Ann.snd (Ann.snd (Ann.snd (Ann.snd (Ann.snd (Ann.snd (Ann.snd an15)))))))))))))))))))))))) (fun s => normC [2, 7, 8, 12, 14, 16, 18, 19, 20, 127, 128, 131, 132, 133, 167, 168, 169, 170, 171, 172, 173, 174, 209, 210, 211, 214] s K) (xb15_25 n m1) rt15 s
noncomputable def kq15_31 (n : Nat × Nat) (m1 m2 : Nat) : St → Option R15 := run (E15 n) (cB (cB (cB (cA (cA (cB (cA (cB (cB (cA (cA (cB (cB (cA (cA (cB (cA (cB (cB (cB (cB (cB (cB (cB (cB (cB (cB c15))))))))))))))))))))))))))) (Ann.snd (Ann.snd (Ann.snd (Ann.fst (Ann.fst (Ann.snd (Ann.fst (Ann.snd (Ann.snd (Ann.fst (Ann.fst (Ann.snd (Ann.snd (Ann.fst (Ann.fst (Ann.snd (Ann.fst (Ann.snd (Ann.snd (Ann.snd (Ann.snd (Ann.snd (Ann.snd (Ann.snd (Ann.snd (Ann.snd (Ann.snd an15))))))))))))))))))))))))))) (fun s => normC [2, 7, 8, 12, 14, 16, 18, 19, 20, 127, 128, 131, 132, 133, 167, 168, 169, 170, 171, 172, 173, 174, 209, 210, 211, 214] s (loopN (F15_26 n m1) m2)) (xb15_25 n m1) rt15
noncomputable def kq15_35 (n : Nat × Nat) (m1 : Nat) : St → Option R15 := run (E15 n) (cB (cB (cB (cB (cB (cA (cA (cB (cB (cA (cA (cB (cA (cB (cB (cB (cB (cB (cB (cB (cB (cB (cB c15))))))))))))))))))))))) (Ann.snd (Ann.snd (Ann.snd (Ann.snd (Ann.snd (Ann.fst (Ann.fst (Ann.snd (Ann.snd (Ann.fst (Ann.fst (Ann.snd (Ann.fst (Ann.snd (Ann.snd (Ann.snd (Ann.snd (Ann.snd (Ann.snd (Ann.snd (Ann.snd (Ann.snd (Ann.snd an15))))))))))))))))))))))) (kc15_21 n m1) (xb15_22 n m1) rt15
noncomputable def xb15_37 (n : Nat × Nat) (m1 : Nat) : Nat → St → Option R15 := fun j s => bif Nat.beq j 6 then normC [2, 7, 8, 12, 14, 16, 18, 19, 20, 23, 127, 128, 167, 168, 169, 170, 171, 172, 173, 174, 209, 210, 211, 214] s (kq15_35 n m1) else (xb15_22 n m1) j s
noncomputable def F15_38 (n : Nat × Nat) (m1 : Nat) : (St → Option R15) → St → Option R15 := fun K s => run (E15 n) (cA (cA (cB (cA (cB (cB (cB (cB (cA (cA (cB (cB (cA (cA (cB (cA (cB (cB (cB (cB (cB (cB (cB (cB (cB (cB c15)))))))))))))))))))))))))) (Ann.fst (Ann.fst (Ann.snd (Ann.fst (Ann.snd (Ann.snd (Ann.snd (Ann.snd (Ann.fst (Ann.fst (Ann.snd (Ann.snd (Ann.fst (Ann.fst (Ann.snd (Ann.fst (Ann.snd (Ann.snd (Ann.snd (Ann.snd (Ann.snd (Ann.snd (Ann.snd (Ann.snd (Ann.snd (Ann.snd an15)))))))))))))))))))))))))) (fun s => normC [2, 7, 8, 12, 14, 16, 18, 19, 20, 23, 127, 128, 146, 147, 148, 167, 168, 169, 170, 171, 172, 173, 174, 209, 210, 211, 214] s K) (xb15_37 n m1) rt15 s
noncomputable def L15_1 (n : Nat × Nat) (m : Nat) (turn2 : Int) (size7 : Int) (pieces8 : List Int) (v38 : Int) (v39 : Int) (v4_0 : Int) (v4_1 : Int) (v4_2 : Int) (v4_3 : Int) (v4_4 : Int) (v4_5 : Int) (v4_6 : Int) (v4_7 : Int) (order9 : List Int) : Option R15 := loopN (F15_4 n) m { tm := [uu, uu, .c (.int .u8 turn2), uu, .ptr 4 0, uu, uu, .c (.int .i64 size7), .c (.sl (.int .i64) pieces8 false), .own 9 none false, uu, uu, uu, uu, uu, uu, uu, uu, uu, uu, uu, uu, uu, uu, uu, uu, uu, uu, uu, uu, uu, uu, uu, uu, uu, uu, uu, uu, .c (.int .i64 v38), .c (.int .i64 v39), uu, uu, uu, uu, uu, uu, uu, uu, uu, uu, uu, uu, uu, uu, uu, uu, uu, uu, uu, uu, uu, uu, uu, uu, uu, uu, uu, uu, uu, uu, uu, uu, uu, uu, uu, uu, uu, uu, uu, uu, uu, uu, uu, uu, uu, uu, uu, uu, uu, uu, uu, uu, uu, uu, uu, uu, uu, uu, uu, uu, uu, uu, uu, uu, uu, uu, uu, uu, uu, uu, uu, uu, uu, uu, uu, uu, uu, uu, uu, uu, uu, uu, uu, uu, uu, uu, uu, uu, uu, uu, uu, uu, uu, uu, uu, uu, uu, uu, uu, uu, uu, uu, uu, uu, uu, uu, uu, uu, uu, uu, uu, uu, uu, uu, uu, uu, uu, uu, uu, uu, uu, uu, uu, uu, uu, uu, uu, uu, uu, uu, uu, uu, uu, uu, uu, uu, uu, uu, uu, uu, uu, uu, uu, uu, uu, uu, uu, uu, uu, uu, uu, uu, uu, uu, uu, uu, uu, uu, uu, uu, uu, uu, uu, uu, uu, uu, uu, uu, uu, uu, uu, uu, uu, uu, uu, uu], hp := (upd (upd emp 9 (.arr (.int .i64) order9 false)) 4 (.box [.int .u8 v4_0, .int .u8 v4_1, .int .u8 v4_2, .int .u8 v4_3, .int .u8 v4_4, .int .u8 v4_5, .int .u8 v4_6, .int .u8 v4_7])) }
noncomputable def L15_2 (n : Nat × Nat) (m : Nat) (turn2 : Int) (size7 : Int) (pieces8 : List Int) (plan12 : List Int) (v127 : Int) (v128 : Int) (l14 : List Int) (g16 : List (List Int)) (groups18 : List (List Int)) : Option R15 := loopN (F15_17 n) m { tm := [uu, uu, .c (.int .u8 turn2), uu, uu, uu, uu, .c (.int .i64 size7), .c (.sl (.int .i64) pieces8 false), uu, uu, uu, .c (.sl (.int .i64) plan12 false), uu, .own 14 none false, uu, .own 16 none false, uu, .own 18 none false, uu, uu, uu, uu, uu, uu, uu, uu, uu, uu, uu, uu, uu, uu, uu, uu, uu, uu, uu, uu, uu, uu, uu, uu, uu, uu, uu, uu, uu, uu, uu, uu, uu, uu, uu, uu, uu, uu, uu, uu, uu, uu, uu, uu, uu, uu, uu, uu, uu, uu, uu, uu, uu, uu, uu, uu, uu, uu, uu, uu, uu, uu, uu, uu, uu, uu, uu, uu, uu, uu, uu, uu, uu, uu, uu, uu, uu, uu, uu, uu, uu, uu, uu, uu, uu, uu, uu, uu, uu, uu, uu, uu, uu, uu, uu, uu, uu, uu, uu, uu, uu, uu, uu, uu, uu, uu, uu, uu, .c (.int .i64 v127), .c (.int .i64 v128), uu, uu, uu, uu, uu, uu, uu, uu, uu, uu, uu, uu, uu, uu, uu, uu, uu, uu, uu, uu, uu, uu, uu, uu, uu, uu, uu, uu, uu, uu, uu, uu, uu, uu, uu, uu, uu, uu, uu, uu, uu, uu, uu, uu, uu, uu, uu, uu, uu, uu, uu, uu, uu, uu, uu, uu, uu, uu, uu, uu, uu, uu, uu, uu, uu, uu, uu, uu, uu, uu, uu, uu, uu, uu, uu, uu, uu, uu, uu, uu, uu, uu, uu, uu, uu, uu, uu], hp := (upd (upd (upd emp 18 (.arr (.sl (.int .i64)) groups18 false)) 16 (.arr (.sl (.int .i64)) g16 false)) 14 (.arr (.int .i64) l14 false)) }
noncomputable def L15_3 (n : Nat × Nat) (m1 : Nat) (m : Nat) (turn2 : Int) (size7 : Int) (pieces8 : List Int) (plan12 : List Int) (v19 : Int) (v127 : Int) (v128 : Int) (v131 : List Int) (v132 : Int) (v133 : Int) (l14 : List Int) (g16 : List (List Int)) (groups18 : List (List Int)) (own20 : List Int) : Option R15 := loopN (F15_26 n m1) m { tm := [uu, uu, .c (.int .u8 turn2), uu, uu, uu, uu, .c (.int .i64 size7), .c (.sl (.int .i64) pieces8 false), uu, uu, uu, .c (.sl (.int .i64) plan12 false), uu, .own 14 none false, uu, .own 16 none false, uu, .own 18 none false, .c (.int .i64 v19), .own 20 none false, uu, uu, uu, uu, uu, uu, uu, uu, uu, uu, uu, uu, uu, uu, uu, uu, uu, uu, uu, uu, uu, uu, uu, uu, uu, uu, uu, uu, uu, uu, uu, uu, uu, uu, uu, uu, uu, uu, uu, uu, uu, uu, uu, uu, uu, uu, uu, uu, uu, uu, uu, uu, uu, uu, uu, uu, uu, uu, uu, uu, uu, uu, uu, uu, uu, uu, uu, uu, uu, uu, uu, uu, uu, uu, uu, uu, uu, uu, uu, uu, uu, uu, uu, uu, uu, uu, uu, uu, uu, uu, uu, uu, uu, uu, uu, uu, uu, uu, uu, uu, uu, uu, uu, uu, uu, uu, .c (.int .i64 v127), .c (.int .i64 v128), uu, uu, .c (.sl (.int .i64) v131 false), .c (.int .i64 v132), .c (.int .i64 v133), uu, uu, uu, uu, uu, uu, uu, uu, uu, uu, uu, uu, uu, uu, uu, uu, uu, uu, uu, uu, uu, uu, uu, uu, uu, uu, uu, uu, uu, uu, uu, uu, uu, uu, uu, uu, uu, uu, uu, uu, uu, uu, uu, uu, uu, uu, uu, uu, uu, uu, uu, uu, uu, uu, uu, uu, uu, uu, uu, uu, uu, uu, uu, uu, uu, uu, uu, uu, uu, uu, uu, uu, uu, uu, uu, uu, uu, uu, uu, uu, uu, uu], hp := (upd (upd (upd (upd emp 20 (.arr (.int .i64) own20 false)) 18 (.arr (.sl (.int .i64)) groups18 false)) 16 (.arr (.sl (.int .i64)) g16 false)) 14 (.arr (.int .i64) l14 false)) }
noncomputable def L15_4 (n : Nat × Nat) (m1 m2 : Nat) (turn2 : Int) (size7 : Int) (pieces8 : List Int) (plan12 : List Int) (v19 : Int) (v127 : Int) (v128 : Int) (v131 : List Int) (v132 : Int) (v133 : Int) (l14 : List Int) (g16 : List (List Int)) (groups18 : List (List Int)) (own20 : List Int) : Option R15 := loopN (fun _ => (kq15_31 n m1 m2)) n.2 { tm := [uu, uu, .c (.int .u8 turn2), uu, uu, uu, uu, .c (.int .i64 size7), .c (.sl (.int .i64) pieces8 false), uu, uu, uu, .c (.sl (.int .i64) plan12 false), uu, .own 14 none false, uu, .own 16 none false, uu, .own 18 none false, .c (.int .i64 v19), .own 20 none false, uu, uu, uu, uu, uu, uu, uu, uu, uu, uu, uu, uu, uu, uu, uu, uu, uu, uu, uu, uu, uu, uu, uu, uu, uu, uu, uu, uu, uu, uu, uu, uu, uu, uu, uu, uu, uu, uu, uu, uu, uu, uu, uu, uu, uu, uu, uu, uu, uu, uu, uu, uu, uu, uu, uu, uu, uu, uu, uu, uu, uu, uu, uu, uu, uu, uu, uu, uu, uu, uu, uu, uu, uu, uu, uu, uu, uu, uu, uu, uu, uu, uu, uu, uu, uu, uu, uu, uu, uu, uu, uu, uu, uu, uu, uu, uu, uu, uu, uu, uu, uu, uu, uu, uu, uu, uu, .c (.int .i64 v127), .c (.int .i64 v128), uu, uu, .c (.sl (.int .i64) v131 false), .c (.int .i64 v132), .c (.int .i64 v133), uu, uu, uu, uu, uu, uu, uu, uu, uu, uu, uu, uu, uu, uu, uu, uu, uu, uu, uu, uu, uu, uu, uu, uu, uu, uu, uu, uu, uu, uu, uu, uu, uu, uu, uu, uu, uu, uu, uu, uu, uu, uu, uu, uu, uu, uu, uu, uu, uu, uu, uu, uu, uu, uu, uu, uu, uu, uu, uu, uu, uu, uu, uu, uu, uu, uu, uu, uu, uu, uu, uu, uu, uu, uu, uu, uu, uu, uu, uu, uu, uu, uu], hp := (upd (upd (upd (upd emp 20 (.arr (.int .i64) own20 false)) 18 (.arr (.sl (.int .i64)) groups18 false)) 16 (.arr (.sl (.int .i64)) g16 false)) 14 (.arr (.int .i64) l14 false)) }
noncomputable def L15_5 (n : Nat × Nat) (m1 : Nat) (m : Nat) (turn2 : Int) (size7 : Int) (pieces8 : List Int) (plan12 : List Int) (v19 : Int) (used23 : Int) (v127 : Int) (v128 : Int) (v147 : Int) (v148 : Int) (l14 : List Int) (g16 : List (List Int)) (groups18 : List (List Int)) (own20 : List Int) : Option R15 := loopN (F15_38 n m1) m { tm := [uu, uu, .c (.int .u8 turn2), uu, uu, uu, uu, .c (.int .i64 size7), .c (.sl (.int .i64) pieces8 false), uu, uu, uu, .c (.sl (.int .i64) plan12 false), uu, .own 14 none false, uu, .own 16 none false, uu, .own 18 none false, .c (.int .i64 v19), .own 20 none false, uu, uu, .c (.int .i64 used23), uu, uu, uu, uu, uu, uu, uu, uu, uu, uu, uu, uu, uu, uu, uu, uu, uu, uu, uu, uu, uu, uu, uu, uu, uu, uu, uu, uu, uu, uu, uu, uu, uu, uu, uu, uu, uu, uu, uu, uu, uu, uu, uu, uu, uu, uu, uu, uu, uu, uu, uu, uu, uu, uu, uu, uu, uu, uu, uu, uu, uu, uu, uu, uu, uu, uu, uu, uu, uu, uu, uu, uu, uu, uu, uu, uu, uu, uu, uu, uu, uu, uu, uu, uu, uu, uu, uu, uu, uu, uu, uu, uu, uu, uu, uu, uu, uu, uu, uu, uu, uu, uu, uu, .c (.int .i64 v127), .c (.int .i64 v128), uu, uu, uu, uu, uu, uu, uu, uu, uu, uu, uu, uu, uu, uu, uu, uu, uu, .own 20 none false, .c (.int .i64 v147), .c (.int .i64 v148), uu, uu, uu, uu, uu, uu, uu, uu, uu, uu, uu, uu, uu, uu, uu, uu, uu, uu, uu, uu, uu, uu, uu, uu, uu, uu, uu, uu, uu, uu, uu, uu, uu, uu, uu, uu, uu, uu, uu, uu, uu, uu, uu, uu, uu, uu, uu, uu, uu, uu, uu, uu, uu, uu, uu, uu, uu, uu, uu, uu, uu, uu, uu, uu, uu, uu, uu], hp := (upd (upd (upd (upd emp 20 (.arr (.int .i64) own20 false)) 18 (.arr (.sl (.int .i64)) groups18 false)) 16 (.arr (.sl (.int .i64)) g16 false)) 14 (.arr (.int .i64) l14 false)) }
theorem L15_1_eq (n : Nat × Nat) (m1 : Nat) (turn2 : Int) (size7 : Int) (pieces8 : List Int) (v38 : Int) (v39 : Int) (v4_0 : Int) (v4_1 : Int) (v4_2 : Int) (v4_3 : Int) (v4_4 : Int) (v4_5 : Int) (v4_6 : Int) (v4_7 : Int) (order9 : List Int) : L15_1 n (m1 + 1) turn2 size7 pieces8 v38 v39 v4_0 v4_1 v4_2 v4_3 v4_4 v4_5 v4_6 v4_7 order9 =
 (bif decide (v39 < v38) then (bif inB v39 order9.length then (idx order9 v39).bind fun x2' =>
 (bif inB v39 8 then (idx [v4_0, v4_1, v4_2, v4_3, v4_4, v4_5, v4_6, v4_7] v39).bind fun x3' =>
 (bif (wr .i64 (v39 + 1)) == 0 then none
 else (bif inB (Int.tmod (wr .i64 x3') (wr .i64 (v39 + 1))) (order9.set (Int.toNat v39) v39).length then (idx (order9.set (Int.toNat v39) v39) (Int.tmod (wr .i64 x3') (wr .i64 (v39 + 1)))).bind fun x4' =>
 (bif inB v39 (order9.set (Int.toNat v39) v39).length then (idx (order9.set (Int.toNat v39) v39) v39).bind fun x5' =>
 (bif inB v39 (order9.set (Int.toNat v39) v39).length then (idx (order9.set (Int.toNat v39) v39) v39).bind fun x6' =>
 (bif inB (Int.tmod (wr .i64 x3') (wr .i64 (v39 + 1))) ((order9.set (Int.toNat v39) v39).set (Int.toNat v39) x4').length then (idx ((order9.set (Int.toNat v39) v39).set (Int.toNat v39) x4') (Int.tmod (wr .i64 x3') (wr .i64 (v39 + 1)))).bind fun x7' =>
                    L15_1 n m1 turn2 size7 pieces8 v38 (wr .i64 (v39 + 1)) v4_0 v4_1 v4_2 v4_3 v4_4 v4_5 v4_6 v4_7 (((order9.set (Int.toNat v39) v39).set (Int.toNat v39) x4').set (Int.toNat (Int.tmod (wr .i64 x3') (wr .i64 (v39 + 1)))) x5')
 else none)
 else none)
 else none)
 else none))
 else none)
 else none)
 else (S51 n size7 pieces8 order9).bind fun r8' =>
 (S18 n size7 pieces8 r8'.1).bind fun r9' =>
 (S20 n size7 pieces8 r8'.1).bind fun r10' =>
 ((bif ((r9'.2 != 0) == false) then some (r10'.2 != 0)
 else some true)).bind fun b11' =>
 ((bif (b11' == false) then some ((r9'.1.length : Int) != (r8'.2.length : Int))
 else some true)).bind fun b12' =>
 ((bif (b12' == false) then some ((r10'.1.length : Int) != (r8'.2.length : Int))
 else some true)).bind fun b13' =>
 ((bif (b13' == false) then (S28 n size7 pieces8 r8'.1).bind fun r14' =>
 some (r14' != 0)
 else some true)).bind fun b15' =>
 (bif b15' then some false
 else (S49 n r9'.1).bind fun r16' =>
 (S49 n pieces8).bind fun r17' =>
 (bif ((wr .i64 (r16' + r17')) != (wr .i64 (size7 * (r8'.2.length : Int)))) then some false
 else L15_2 n n.1 turn2 size7 pieces8 r8'.1 (r8'.2.length : Int) 0 r9'.1 r10'.1 []))) := by kernel_rfl
theorem L15_2_eq (n : Nat × Nat) (m1 : Nat) (turn2 : Int) (size7 : Int) (pieces8 : List Int) (plan12 : List Int) (v127 : Int) (v128 : Int) (l14 : List Int) (g16 : List (List Int)) (groups18 : List (List Int)) : L15_2 n (m1 + 1) turn2 size7 pieces8 plan12 v127 v128 l14 g16 groups18 =
 (bif decide (v128 < v127) then L15_3 n m1 n.1 turn2 size7 pieces8 plan12 v128 v127 v128 plan12 (plan12.length : Int) 0 l14 g16 groups18 []
 else (bif decide ((groups18.length : Int) > 0) then (bif (groups18.length : Int) == 0 then none
 else (bif bounds (some (Int.tmod (wr .i64 turn2) (groups18.length : Int))) none none groups18.length then (bif bounds none (some (Int.tmod (wr .i64 turn2) (groups18.length : Int))) none groups18.length then (S64 n [(groups18.drop (0 + (Int.toNat (Int.tmod (wr .i64 turn2) (groups18.length : Int))))).take (groups18.length - (Int.toNat (Int.tmod (wr .i64 turn2) (groups18.length : Int)))), (groups18.drop (0 + 0)).take ((Int.toNat (Int.tmod (wr .i64 turn2) (groups18.length : Int))) - 0)]).bind fun r18' =>
 (S22 n size7 pieces8 r18').bind fun r19' =>
 ((bif ((r19'.2 == 0) == true) then (S24 n r19'.1 plan12).bind fun r20' =>
 some r20'
 else some false)).bind fun b21' =>
 ((bif (b21' == true) then (S17 n).bind fun r22' =>
 some r22'
 else some false)).bind fun b23' =>
 some b23'
 else none)
 else none))
 else (S22 n size7 pieces8 groups18).bind fun r24' =>
 ((bif ((r24'.2 == 0) == true) then (S24 n r24'.1 plan12).bind fun r25' =>
 some r25'
 else some false)).bind fun b26' =>
 ((bif (b26' == true) then (S17 n).bind fun r27' =>
 some r27'
 else some false)).bind fun b28' =>
 some b28')) := by kernel_rfl
theorem L15_3_eq (n : Nat × Nat) (m1 m2 : Nat) (turn2 : Int) (size7 : Int) (pieces8 : List Int) (plan12 : List Int) (v19 : Int) (v127 : Int) (v128 : Int) (v131 : List Int) (v132 : Int) (v133 : Int) (l14 : List Int) (g16 : List (List Int)) (groups18 : List (List Int)) (own20 : List Int) : L15_3 n m1 (m2 + 1) turn2 size7 pieces8 plan12 v19 v127 v128 v131 v132 v133 l14 g16 groups18 own20 =
 (bif decide (v133 < v132) then (idx v131 v133).bind fun x29' =>
 (bif (x29' == v19) then (bif decide (own20.length + [v133].length ≤ lim) then L15_4 n m1 m2 turn2 size7 pieces8 plan12 v19 v127 v128 v131 v132 v133 l14 g16 groups18 (own20 ++ [v133])
 else none)
 else L15_4 n m1 m2 turn2 size7 pieces8 plan12 v19 v127 v128 v131 v132 v133 l14 g16 groups18 own20)
 else L15_5 n m1 n.1 turn2 size7 pieces8 plan12 v19 0 v127 v128 (own20.length : Int) 0 l14 g16 groups18 own20) := by kernel_rfl
theorem L15_4_raw (n : Nat × Nat) (m1 m2 : Nat) (turn2 : Int) (size7 : Int) (pieces8 : List Int) (plan12 : List Int) (v19 : Int) (v127 : Int) (v128 : Int) (v131 : List Int) (v132 : Int) (v133 : Int) (l14 : List Int) (g16 : List (List Int)) (groups18 : List (List Int)) (own20 : List Int) : (kq15_31 n m1 m2) { tm := [uu, uu, .c (.int .u8 turn2), uu, uu, uu, uu, .c (.int .i64 size7), .c (.sl (.int .i64) pieces8 false), uu, uu, uu, .c (.sl (.int .i64) plan12 false), uu, .own 14 none false, uu, .own 16 none false, uu, .own 18 none false, .c (.int .i64 v19), .own 20 none false, uu, uu, uu, uu, uu, uu, uu, uu, uu, uu, uu, uu, uu, uu, uu, uu, uu, uu, uu, uu, uu, uu, uu, uu, uu, uu, uu, uu, uu, uu, uu, uu, uu, uu, uu, uu, uu, uu, uu, uu, uu, uu, uu, uu, uu, uu, uu, uu, uu, uu, uu, uu, uu, uu, uu, uu, uu, uu, uu, uu, uu, uu, uu, uu, uu, uu, uu, uu, uu, uu, uu, uu, uu, uu, uu, uu, uu, uu, uu, uu, uu, uu, uu, uu, uu, uu, uu, uu, uu, uu, uu, uu, uu, uu, uu, uu, uu, uu, uu, uu, uu, uu, uu, uu, uu, uu, .c (.int .i64 v127), .c (.int .i64 v128), uu, uu, .c (.sl (.int .i64) v131 false), .c (.int .i64 v132), .c (.int .i64 v133), uu, uu, uu, uu, uu, uu, uu, uu, uu, uu, uu, uu, uu, uu, uu, uu, uu, uu, uu, uu, uu, uu, uu, uu, uu, uu, uu, uu, uu, uu, uu, uu, uu, uu, uu, uu, uu, uu, uu, uu, uu, uu, uu, uu, uu, uu, uu, uu, uu, uu, uu, uu, uu, uu, uu, uu, uu, uu, uu, uu, uu, uu, uu, uu, uu, uu, uu, uu, uu, uu, uu, uu, uu, uu, uu, uu, uu, uu, uu, uu, uu, uu], hp := (upd (upd (upd (upd emp 20 (.arr (.int .i64) own20 false)) 18 (.arr (.sl (.int .i64)) groups18 false)) 16 (.arr (.sl (.int .i64)) g16 false)) 14 (.arr (.int .i64) l14 false)) } =
    L15_3 n m1 m2 turn2 size7 pieces8 plan12 v19 v127 v128 v131 v132 (wr .i64 (v133 + 1)) l14 g16 groups18 own20 := by kernel_rfl
theorem L15_5_eq (n : Nat × Nat) (m1 m2 : Nat) (turn2 : Int) (size7 : Int) (pieces8 : List Int) (plan12 : List Int) (v19 : Int) (used23 : Int) (v127 : Int) (v128 : Int) (v147 : Int) (v148 : Int) (l14 : List Int) (g16 : List (List Int)) (groups18 : List (List Int)) (own20 : List Int) : L15_5 n m1 (m2 + 1) turn2 size7 pieces8 plan12 v19 used23 v127 v128 v147 v148 l14 g16 groups18 own20 =
 (bif decide (v148 < v147) then (bif inB v148 own20.length then (idx own20 v148).bind fun x30' =>
 (idx pieces8 x30').bind fun x31' =>
        L15_5 n m1 m2 turn2 size7 pieces8 plan12 v19 (wr .i64 (used23 + x31')) v127 v128 v147 (wr .i64 (v148 + 1)) l14 g16 groups18 own20
 else none)
 else (bif inB v19 g16.length then (idx g16 v19).bind fun x32' =>
 (S24 n x32' own20).bind fun r33' =>
 ((bif ((!r33') == false) then (bif inB v19 l14.length then (idx l14 v19).bind fun x34' =>
 some (x34' != (wr .i64 (size7 - used23)))
 else none)
 else some true)).bind fun b35' =>
 (bif b35' then some false
 else (S63io1 n own20).bind fun r36' =>
 (bif Nat.beq r36'.2.1.length own20.length then (bif decide (groups18.length + [r36'.2.1].length ≤ lim) then L15_2 n m1 turn2 size7 pieces8 plan12 v127 (wr .i64 (v128 + 1)) l14 g16 (groups18 ++ [r36'.2.1])
 else none)
 else none))
 else none)) := by kernel_rfl
noncomputable def S15 (n : Nat × Nat) (s0 : Int × Int × Int × Int × Int × Int × Int × Int × Int × Int × Int) (v1 : Int × Int × Int × Int × Int × Int × Int × Int) (turn2 : Int) : Option R15 := run (E15 n) c15 an15 rt15 (fun _ _ => none) rt15 { tm := [.agg [.int .u8 s0.1, .int .u8 s0.2.1, .int .u8 s0.2.2.1, .int .u8 s0.2.2.2.1, .int .u8 s0.2.2.2.2.1, .int .u8 s0.2.2.2.2.2.1, .int .u8 s0.2.2.2.2.2.2.1, .int .u8 s0.2.2.2.2.2.2.2.1, .int .u8 s0.2.2.2.2.2.2.2.2.1, .int .u8 s0.2.2.2.2.2.2.2.2.2.1, .int .u8 s0.2.2.2.2.2.2.2.2.2.2], .agg [.int .u8 v1.1, .int .u8 v1.2.1, .int .u8 v1.2.2.1, .int .u8 v1.2.2.2.1, .int .u8 v1.2.2.2.2.1, .int .u8 v1.2.2.2.2.2.1, .int .u8 v1.2.2.2.2.2.2.1, .int .u8 v1.2.2.2.2.2.2.2], .c (.int .u8 turn2), uu, uu, uu, uu, uu, uu, uu, uu, uu, uu, uu, uu, uu, uu, uu, uu, uu, uu, uu, uu, uu, uu, uu, uu, uu, uu, uu, uu, uu, uu, uu, uu, uu, uu, uu, uu, uu, uu, uu, uu, uu, uu, uu, uu, uu, uu, uu, uu, uu, uu, uu, uu, uu, uu, uu, uu, uu, uu, uu, uu, uu, uu, uu, uu, uu, uu, uu, uu, uu, uu, uu, uu, uu, uu, uu, uu, uu, uu, uu, uu, uu, uu, uu, uu, uu, uu, uu, uu, uu, uu, uu, uu, uu, uu, uu, uu, uu, uu, uu, uu, uu, uu, uu, uu, uu, uu, uu, uu, uu, uu, uu, uu, uu, uu, uu, uu, uu, uu, uu, uu, uu, uu, uu, uu, uu, uu, uu, uu, uu, uu, uu, uu, uu, uu, uu, uu, uu, uu, uu, uu, uu, uu, uu, uu, uu, uu, uu, uu, uu, uu, uu, uu, uu, uu, uu, uu, uu, uu, uu, uu, uu, uu, uu, uu, uu, uu, uu, uu, uu, uu, uu, uu, uu, uu, uu, uu, uu, uu, uu, uu, uu, uu, uu, uu, uu, uu, uu, uu, uu, uu, uu, uu, uu, uu, uu, uu, uu, uu, uu, uu, uu, uu, uu, uu, uu, uu, uu, uu, uu, uu, uu, uu, uu], hp := emp }
theorem S15_eq (n : Nat × Nat) (s0 : Int × Int × Int × Int × Int × Int × Int × Int × Int × Int × Int) (v1 : Int × Int × Int × Int × Int × Int × Int × Int) (turn2 : Int) : S15 n s0 v1 turn2 =
 (S48 n s0 8).bind fun r1' =>
 (bif decide (0 ≤ (r1'.2.length : Int)) && decide ((r1'.2.length : Int) ≤ (r1'.2.length : Int)) && decide ((r1'.2.length : Int) ≤ lim) then L15_1 n n.1 turn2 r1'.1 r1'.2 ((List.replicate (Int.toNat (r1'.2.length : Int)) (0 : Int)).length : Int) 0 v1.1 v1.2.1 v1.2.2.1 v1.2.2.2.1 v1.2.2.2.2.1 v1.2.2.2.2.2.1 v1.2.2.2.2.2.2.1 v1.2.2.2.2.2.2.2 (List.replicate (Int.toNat (r1'.2.length : Int)) (0 : Int))
 else none) := by kernel_rfl
theorem S15_run (n : Nat × Nat) (xs : pksDen pk15) : S15 n xs.1 xs.2.1 xs.2.2.1 = runG (E15 n) noScope c15 an15 (rtG rk15) (fun _ _ => none) (rtG rk15) (st0 pk15 xs Tryd.f15.ntmps) := by kernel_rfl
noncomputable def P15 (n : Nat × Nat) := phiOf pk15 rk15 (fun xs => S15 n xs.1 xs.2.1 xs.2.2.1)
theorem env15 (n : Nat × Nat) : EnvOK Tryd.prog (E15 n) := envOK (l := io15 n) (consPhi_ok (FC17 n) call17 (consPhi_ok (FC18 n) call18 (consPhi_ok (FC20 n) call20 (consPhi_ok (FC22 n) call22 (consPhi_ok (FC24 n) call24 (consPhi_ok (FC28 n) call28 (consPhi_ok (FC48 n) call48 (consPhi_ok (FC49 n) call49 (consPhi_ok (FC51 n) call51 (consPhi_ok (FC64 n) call64 noPhi_ok)))))))))) rfl rfl (by kernel_rfl) ⟨FC63io1 n, call63, trivial⟩
theorem par15 (n : Nat × Nat) : EnvPar (E15 n) := envPar (l := io15 n) (consPhi_par phiOf_Par1 (consPhi_par phiOf_Par1 (consPhi_par phiOf_Par1 (consPhi_par phiOf_Par1 (consPhi_par phiOf_Par1 (consPhi_par phiOf_Par1 (consPhi_par phiOf_Par1 (consPhi_par phiOf_Par1 (consPhi_par phiOf_Par1 (consPhi_par phiOf_Par1 noPhi_par)))))))))) rfl ⟨phioOf_Pario1, trivial⟩
theorem FC15 (n : Nat × Nat) : FCs Tryd.prog 15 (P15 n) := phiOf_FCs fun xs r h vs hv => FC.of_runG tabOK eqsOK (env15 n) (par15 n) mixed (fun _ p _ => noScope_ok p.1 p.2) Tryd.func15 (c := c15) (an := an15) (pks := pk15) (rks := rk15) (by kernel_rfl) (by kernel_rfl) hv ((S15_run n xs).symm.trans h)
/-D 100 -/
noncomputable def DF100_1 (n : Nat × Nat) (f1 : Int → Int → Option R100) (v0 : Int) (d3 : Int) : Option R100 :=
 (bif decide (d3 < v0) then (bif d3 == 0 then none
 else (bif ((Int.tmod v0 d3) == 0) then some false
 else f1 v0 (wr .i64 (d3 + 1))))
 else some true)
noncomputable def DL100_1 (n : Nat × Nat) (m : Nat) : Int → Int → Option R100 := Nat.rec (motive := fun _ => Int → Int → Option R100) (fun _ _ => none) (fun _ ih => DF100_1 n ih) m
theorem DL100_1_succ (n : Nat × Nat) (m : Nat) : DL100_1 n (m + 1) = DF100_1 n (DL100_1 n m) := rfl
theorem DL100_1_eq (n : Nat × Nat) (hn : n.2 = 1) : ∀ m, L100_1 n m = DL100_1 n m
  | 0 => by funext v0 d3; kernel_rfl
  | m + 1 => by
    have ih := DL100_1_eq n hn m
    funext v0 d3; refine (L100_1_eq n m v0 d3).trans ?_
    rw [DL100_1_succ]
    unfold DF100_1
    (try simp only [ih]) <;> first | with_reducible rfl | rfl
noncomputable def D100 (n : Nat × Nat) (v0 : Int) : Option R100 :=
    DL100_1 n n.1 v0 2
theorem S100_D (n : Nat × Nat) (hn : n.2 = 1) : S100 n = D100 n := by
  funext v0; refine (S100_eq n v0).trans ?_
  unfold D100
  (try simp only [DL100_1_eq n hn]) <;> first | with_reducible rfl | rfl
/-D 89 -/
noncomputable def DL89_4 (n : Nat × Nat) (f1 : Int → Int → List Int → Option R89) (f2 : Int → Int → Int → Int → List Int → Option R89) (v1 : Int) (d6 : Int) (p7 : Int) (q8 : Int) (out5 : List Int) : Option R89 :=
    f2 v1 d6 p7 (wr .i64 (q8 + 1)) out5
theorem DL89_4_eq (n : Nat × Nat) (hn : n.2 = 1) (m1 m2 : Nat) : L89_4 n m1 m2 = DL89_4 n (L89_1 n m1) (L89_3 n m1 m2) := by
  funext v1 d6 p7 q8 out5; refine ((held_eq hn _).trans (L89_4_raw n m1 m2 v1 d6 p7 q8 out5)).trans ?_
  unfold DL89_4
  (try simp only [S100_D n hn]) <;> first | with_reducible rfl | rfl
noncomputable def DF89_3 (n : Nat × Nat) (f1 : Int → Int → List Int → Option R89) (f2 : Int → Int → Int → Int → List Int → Option R89) (v1 : Int) (d6 : Int) (p7 : Int) (q8 : Int) (out5 : List Int) : Option R89 :=
 (bif decide (q8 ≤ d6) then (bif q8 == 0 then none
 else ((bif (((Int.tmod d6 q8) == 0) == true) then (D100 n q8).bind fun r1' =>
 some r1'
 else some false)).bind fun b2' =>
 (bif b2' then DL89_4 n f1 f2 v1 d6 q8 q8 out5
 else DL89_4 n f1 f2 v1 d6 p7 q8 out5))
 else (bif p7 == 0 then none
 else (bif decide (out5.length + [wr .i64 (Int.tdiv d6 p7)].length ≤ lim) then (bif 2 == 0 then none
 else f1 (wr .i64 (Int.tdiv v1 2)) (wr .i64 (Int.tdiv d6 p7)) (out5 ++ [wr .i64 (Int.tdiv d6 p7)]))
 else none)))
noncomputable def DL89_3 (n : Nat × Nat) (f1 : Int → Int → List Int → Option R89) (m : Nat) : Int → Int → Int → Int → List Int → Option R89 := Nat.rec (motive := fun _ => Int → Int → Int → Int → List Int → Option R89) (fun _ _ _ _ _ => none) (fun _ ih => DF89_3 n f1 ih) m
theorem DL89_3_succ (n : Nat × Nat) (f1 : Int → Int → List Int → Option R89) (m : Nat) : DL89_3 n f1 (m + 1) = DF89_3 n f1 (DL89_3 n f1 m) := rfl
theorem DL89_3_eq (n : Nat × Nat) (hn : n.2 = 1) (m1 : Nat) : ∀ m, L89_3 n m1 m = DL89_3 n (L89_1 n m1) m
  | 0 => by funext v1 d6 p7 q8 out5; kernel_rfl
  | m + 1 => by
    have ih := DL89_3_eq n hn m1 m
    funext v1 d6 p7 q8 out5; refine (L89_3_eq n m1 m v1 d6 p7 q8 out5).trans ?_
    rw [DL89_3_succ]
    unfold DF89_3
    (try simp only [ih, DL89_4_eq n hn, S100_D n hn]) <;> first | with_reducible rfl | rfl
noncomputable def DF89_2 (n : Nat × Nat) (f1 : Int → Int → List Int → Option R89) (f2 : Int → Int → Int → List Int → Option R89) (v1 : Int) (d6 : Int) (p7 : Int) (out5 : List Int) : Option R89 :=
 (bif p7 == 0 then none
 else (bif ((Int.tmod d6 p7) != 0) then f2 v1 d6 (wr .i64 (p7 + 1)) out5
 else (bif 2 == 0 then none
 else (bif ((Int.tmod v1 2) == 1) then DL89_3 n f1 n.1 v1 d6 p7 p7 out5
 else (bif p7 == 0 then none
 else (bif decide (out5.length + [wr .i64 (Int.tdiv d6 p7)].length ≤ lim) then (bif 2 == 0 then none
 else f1 (wr .i64 (Int.tdiv v1 2)) (wr .i64 (Int.tdiv d6 p7)) (out5 ++ [wr .i64 (Int.tdiv d6 p7)]))
 else none))))))
noncomputable def DL89_2 (n : Nat × Nat) (f1 : Int → Int → List Int → Option R89) (m : Nat) : Int → Int → Int → List Int → Option R89 := Nat.rec (motive := fun _ => Int → Int → Int → List Int → Option R89) (fun _ _ _ _ => none) (fun _ ih => DF89_2 n f1 ih) m
theorem DL89_2_succ (n : Nat × Nat) (f1 : Int → Int → List Int → Option R89) (m : Nat) : DL89_2 n f1 (m + 1) = DF89_2 n f1 (DL89_2 n f1 m) := rfl
theorem DL89_2_eq (n : Nat × Nat) (hn : n.2 = 1) (m1 : Nat) : ∀ m, L89_2 n m1 m = DL89_2 n (L89_1 n m1) m
  | 0 => by funext v1 d6 p7 out5; kernel_rfl
  | m + 1 => by
    have ih := DL89_2_eq n hn m1 m
    funext v1 d6 p7 out5; refine (L89_2_eq n m1 m v1 d6 p7 out5).trans ?_
    rw [DL89_2_succ]
    unfold DF89_2
    (try simp only [ih, DL89_4_eq n hn, DL89_3_eq n hn, S100_D n hn]) <;> first | with_reducible rfl | rfl
noncomputable def DF89_1 (n : Nat × Nat) (f1 : Int → Int → List Int → Option R89) (v1 : Int) (d6 : Int) (out5 : List Int) : Option R89 :=
 (bif decide (d6 > 1) then DL89_2 n f1 n.1 v1 d6 2 out5
 else some out5)
noncomputable def DL89_1 (n : Nat × Nat) (m : Nat) : Int → Int → List Int → Option R89 := Nat.rec (motive := fun _ => Int → Int → List Int → Option R89) (fun _ _ _ => none) (fun _ ih => DF89_1 n ih) m
theorem DL89_1_succ (n : Nat × Nat) (m : Nat) : DL89_1 n (m + 1) = DF89_1 n (DL89_1 n m) := rfl
theorem DL89_1_eq (n : Nat × Nat) (hn : n.2 = 1) : ∀ m, L89_1 n m = DL89_1 n m
  | 0 => by funext v1 d6 out5; kernel_rfl
  | m + 1 => by
    have ih := DL89_1_eq n hn m
    funext v1 d6 out5; refine (L89_1_eq n m v1 d6 out5).trans ?_
    rw [DL89_1_succ]
    unfold DF89_1
    (try simp only [ih, DL89_4_eq n hn, DL89_3_eq n hn, DL89_2_eq n hn, S100_D n hn]) <;> first | with_reducible rfl | rfl
noncomputable def D89 (n : Nat × Nat) (size0 : Int) (v1 : Int) : Option R89 :=
    DL89_1 n n.1 v1 size0 [size0]
theorem S89_D (n : Nat × Nat) (hn : n.2 = 1) : S89 n = D89 n := by
  funext size0 v1; refine (S89_eq n size0 v1).trans ?_
  unfold D89
  (try simp only [DL89_4_eq n hn, DL89_3_eq n hn, DL89_2_eq n hn, DL89_1_eq n hn, S100_D n hn]) <;> first | with_reducible rfl | rfl
/-D 48 -/
noncomputable def DF48_1 (n : Nat × Nat) (f1 : Int → List Int → Int → Int → List Int → List Int → Option R48) (size6 : Int) (v44 : List Int) (v45 : Int) (v46 : Int) (lengths7 : List Int) (out9 : List Int) : Option R48 :=
 (bif decide (v46 < v45) then (idx v44 v46).bind fun x2' =>
 (bif (lengths7.length : Int) == 0 then none
 else (bif inB (Int.tmod (wr .i64 x2') (lengths7.length : Int)) lengths7.length then (idx lengths7 (Int.tmod (wr .i64 x2') (lengths7.length : Int))).bind fun x3' =>
 (bif decide (out9.length + [x3'].length ≤ lim) then f1 size6 v44 v45 (wr .i64 (v46 + 1)) lengths7 (out9 ++ [x3'])
 else none)
 else none))
 else some (size6, out9))
noncomputable def DL48_1 (n : Nat × Nat) (m : Nat) : Int → List Int → Int → Int → List Int → List Int → Option R48 := Nat.rec (motive := fun _ => Int → List Int → Int → Int → List Int → List Int → Option R48) (fun _ _ _ _ _ _ => none) (fun _ ih => DF48_1 n ih) m
theorem DL48_1_succ (n : Nat × Nat) (m : Nat) : DL48_1 n (m + 1) = DF48_1 n (DL48_1 n m) := rfl
theorem DL48_1_eq (n : Nat × Nat) (hn : n.2 = 1) : ∀ m, L48_1 n m = DL48_1 n m
  | 0 => by funext size6 v44 v45 v46 lengths7 out9; kernel_rfl
  | m + 1 => by
    have ih := DL48_1_eq n hn m
    funext size6 v44 v45 v46 lengths7 out9; refine (L48_1_eq n m size6 v44 v45 v46 lengths7 out9).trans ?_
    rw [DL48_1_succ]
    unfold DF48_1
    (try simp only [ih, S89_D n hn]) <;> first | with_reducible rfl | rfl
noncomputable def DF48_2 (n : Nat × Nat) (f1 : Int → Int → Int → Int → Int → Int → Int → Int → Int → Int → Int → Int → Int → Int → Int → List Int → Option R48) (most1 : Int) (size6 : Int) (v27 : Int) (v28 : Int) (s2_0 : Int) (s2_1 : Int) (s2_2 : Int) (s2_3 : Int) (s2_4 : Int) (s2_5 : Int) (s2_6 : Int) (s2_7 : Int) (s2_8 : Int) (s2_9 : Int) (s2_10 : Int) (lengths7 : List Int) : Option R48 :=
 (bif decide (v28 < v27) then (bif decide (lengths7.length + [wr .i64 (v28 + 1)].length ≤ lim) then f1 most1 size6 v27 (wr .i64 (v28 + 1)) s2_0 s2_1 s2_2 s2_3 s2_4 s2_5 s2_6 s2_7 s2_8 s2_9 s2_10 (lengths7 ++ [wr .i64 (v28 + 1)])
 else none)
 else (bif (wr .i64 (most1 + 1)) == 0 then none
 else (bif bounds none (some (Int.tmod (wr .i64 s2_1) (wr .i64 (most1 + 1)))) none 8 then DL48_1 n n.1 size6 ([s2_3, s2_4, s2_5, s2_6, s2_7, s2_8, s2_9, s2_10].take (Int.toNat (Int.tmod (wr .i64 s2_1) (wr .i64 (most1 + 1))))) (([s2_3, s2_4, s2_5, s2_6, s2_7, s2_8, s2_9, s2_10].take (Int.toNat (Int.tmod (wr .i64 s2_1) (wr .i64 (most1 + 1))))).length : Int) 0 lengths7 []
 else none)))
noncomputable def DL48_2 (n : Nat × Nat) (m : Nat) : Int → Int → Int → Int → Int → Int → Int → Int → Int → Int → Int → Int → Int → Int → Int → List Int → Option R48 := Nat.rec (motive := fun _ => Int → Int → Int → Int → Int → Int → Int → Int → Int → Int → Int → Int → Int → Int → Int → List Int → Option R48) (fun _ _ _ _ _ _ _ _ _ _ _ _ _ _ _ _ => none) (fun _ ih => DF48_2 n ih) m
theorem DL48_2_succ (n : Nat × Nat) (m : Nat) : DL48_2 n (m + 1) = DF48_2 n (DL48_2 n m) := rfl
theorem DL48_2_eq (n : Nat × Nat) (hn : n.2 = 1) : ∀ m, L48_2 n m = DL48_2 n m
  | 0 => by funext most1 size6 v27 v28 s2_0 s2_1 s2_2 s2_3 s2_4 s2_5 s2_6 s2_7 s2_8 s2_9 s2_10 lengths7; kernel_rfl
  | m + 1 => by
    have ih := DL48_2_eq n hn m
    funext most1 size6 v27 v28 s2_0 s2_1 s2_2 s2_3 s2_4 s2_5 s2_6 s2_7 s2_8 s2_9 s2_10 lengths7; refine (L48_2_eq n m most1 size6 v27 v28 s2_0 s2_1 s2_2 s2_3 s2_4 s2_5 s2_6 s2_7 s2_8 s2_9 s2_10 lengths7).trans ?_
    rw [DL48_2_succ]
    unfold DF48_2
    (try simp only [ih, DL48_1_eq n hn, S89_D n hn]) <;> first | with_reducible rfl | rfl
noncomputable def D48 (n : Nat × Nat) (s0 : Int × Int × Int × Int × Int × Int × Int × Int × Int × Int × Int) (most1 : Int) : Option R48 :=
 (bif 24 == 0 then none
 else (bif 2 == 0 then none
 else (bif ((Int.tmod s0.2.2.1 2) == 1) then (bif 2 == 0 then none
 else (D89 n (wr .i64 (1 + (Int.tmod (wr .i64 s0.1) 24))) (wr .i64 (Int.tdiv (wr .i64 s0.2.2.1) 2))).bind fun r1' =>
 (bif (wr .i64 (most1 + 1)) == 0 then none
 else (bif bounds none (some (Int.tmod (wr .i64 s0.2.1) (wr .i64 (most1 + 1)))) none 8 then DL48_1 n n.1 (wr .i64 (1 + (Int.tmod (wr .i64 s0.1) 24))) ([s0.2.2.2.1, s0.2.2.2.2.1, s0.2.2.2.2.2.1, s0.2.2.2.2.2.2.1, s0.2.2.2.2.2.2.2.1, s0.2.2.2.2.2.2.2.2.1, s0.2.2.2.2.2.2.2.2.2.1, s0.2.2.2.2.2.2.2.2.2.2].take (Int.toNat (Int.tmod (wr .i64 s0.2.1) (wr .i64 (most1 + 1))))) (([s0.2.2.2.1, s0.2.2.2.2.1, s0.2.2.2.2.2.1, s0.2.2.2.2.2.2.1, s0.2.2.2.2.2.2.2.1, s0.2.2.2.2.2.2.2.2.1, s0.2.2.2.2.2.2.2.2.2.1, s0.2.2.2.2.2.2.2.2.2.2].take (Int.toNat (Int.tmod (wr .i64 s0.2.1) (wr .i64 (most1 + 1))))).length : Int) 0 r1' []
 else none)))
 else DL48_2 n n.1 most1 (wr .i64 (1 + (Int.tmod (wr .i64 s0.1) 24))) (wr .i64 (1 + (Int.tmod (wr .i64 s0.1) 24))) 0 s0.1 s0.2.1 s0.2.2.1 s0.2.2.2.1 s0.2.2.2.2.1 s0.2.2.2.2.2.1 s0.2.2.2.2.2.2.1 s0.2.2.2.2.2.2.2.1 s0.2.2.2.2.2.2.2.2.1 s0.2.2.2.2.2.2.2.2.2.1 s0.2.2.2.2.2.2.2.2.2.2 [])))
theorem S48_D (n : Nat × Nat) (hn : n.2 = 1) : S48 n = D48 n := by
  funext s0 most1; refine (S48_eq n s0 most1).trans ?_
  unfold D48
  (try simp only [DL48_1_eq n hn, DL48_2_eq n hn, S89_D n hn]) <;> first | with_reducible rfl | rfl
/-D 49 -/
noncomputable def DF49_1 (n : Nat × Nat) (f1 : Int → List Int → Int → Int → Option R49) (v3 : Int) (v6 : List Int) (v7 : Int) (v8 : Int) : Option R49 :=
 (bif decide (v8 < v7) then (idx v6 v8).bind fun x1' =>
      f1 (wr .i64 (v3 + x1')) v6 v7 (wr .i64 (v8 + 1))
 else some v3)
noncomputable def DL49_1 (n : Nat × Nat) (m : Nat) : Int → List Int → Int → Int → Option R49 := Nat.rec (motive := fun _ => Int → List Int → Int → Int → Option R49) (fun _ _ _ _ => none) (fun _ ih => DF49_1 n ih) m
theorem DL49_1_succ (n : Nat × Nat) (m : Nat) : DL49_1 n (m + 1) = DF49_1 n (DL49_1 n m) := rfl
theorem DL49_1_eq (n : Nat × Nat) (hn : n.2 = 1) : ∀ m, L49_1 n m = DL49_1 n m
  | 0 => by funext v3 v6 v7 v8; kernel_rfl
  | m + 1 => by
    have ih := DL49_1_eq n hn m
    funext v3 v6 v7 v8; refine (L49_1_eq n m v3 v6 v7 v8).trans ?_
    rw [DL49_1_succ]
    unfold DF49_1
    (try simp only [ih]) <;> first | with_reducible rfl | rfl
noncomputable def D49 (n : Nat × Nat) (pieces0 : List Int) : Option R49 :=
    DL49_1 n n.1 0 pieces0 (pieces0.length : Int) 0
theorem S49_D (n : Nat × Nat) (hn : n.2 = 1) : S49 n = D49 n := by
  funext pieces0; refine (S49_eq n pieces0).trans ?_
  unfold D49
  (try simp only [DL49_1_eq n hn]) <;> first | with_reducible rfl | rfl
/-D 51 -/
noncomputable def DF51_2 (n : Nat × Nat) (f1 : Int → List Int → List Int → Int → Int → List Int → List Int → Option R51) (f2 : Int → List Int → Int → Int → List Int → Int → Int → List Int → List Int → Option R51) (size0 : Int) (pieces1 : List Int) (i11 : Int) (s12 : Int) (v22 : List Int) (v23 : Int) (v24 : Int) (v8 : List Int) (left9 : List Int) : Option R51 :=
 ((bif (decide (s12 < (left9.length : Int)) == true) then (bif inB s12 left9.length then (idx left9 s12).bind fun x2' =>
 (idx pieces1 i11).bind fun x3' =>
 some (decide (x2' < x3'))
 else none)
 else some false)).bind fun b4' =>
 (bif b4' then f2 size0 pieces1 i11 (wr .i64 (s12 + 1)) v22 v23 v24 v8 left9
 else (bif (s12 == (left9.length : Int)) then (bif decide (left9.length + [size0].length ≤ lim) then (bif inB s12 (left9 ++ [size0]).length then (idx (left9 ++ [size0]) s12).bind fun x5' =>
 (idx pieces1 i11).bind fun x6' =>
 (bif inB s12 (left9 ++ [size0]).length then (idx (left9 ++ [size0]) s12).bind fun x7' =>
 (bif inB i11 v8.length then (idx v8 i11).bind fun x8' =>
                f1 size0 pieces1 v22 v23 (wr .i64 (v24 + 1)) (v8.set (Int.toNat i11) s12) ((left9 ++ [size0]).set (Int.toNat s12) (wr .i64 (x5' - x6')))
 else none)
 else none)
 else none)
 else none)
 else (bif inB s12 left9.length then (idx left9 s12).bind fun x9' =>
 (idx pieces1 i11).bind fun x10' =>
 (bif inB s12 left9.length then (idx left9 s12).bind fun x11' =>
 (bif inB i11 v8.length then (idx v8 i11).bind fun x12' =>
              f1 size0 pieces1 v22 v23 (wr .i64 (v24 + 1)) (v8.set (Int.toNat i11) s12) (left9.set (Int.toNat s12) (wr .i64 (x9' - x10')))
 else none)
 else none)
 else none)))
noncomputable def DL51_2 (n : Nat × Nat) (f1 : Int → List Int → List Int → Int → Int → List Int → List Int → Option R51) (m : Nat) : Int → List Int → Int → Int → List Int → Int → Int → List Int → List Int → Option R51 := Nat.rec (motive := fun _ => Int → List Int → Int → Int → List Int → Int → Int → List Int → List Int → Option R51) (fun _ _ _ _ _ _ _ _ _ => none) (fun _ ih => DF51_2 n f1 ih) m
theorem DL51_2_succ (n : Nat × Nat) (f1 : Int → List Int → List Int → Int → Int → List Int → List Int → Option R51) (m : Nat) : DL51_2 n f1 (m + 1) = DF51_2 n f1 (DL51_2 n f1 m) := rfl
theorem DL51_2_eq (n : Nat × Nat) (hn : n.2 = 1) (m1 : Nat) : ∀ m, L51_2 n m1 m = DL51_2 n (L51_1 n m1) m
  | 0 => by funext size0 pieces1 i11 s12 v22 v23 v24 v8 left9; kernel_rfl
  | m + 1 => by
    have ih := DL51_2_eq n hn m1 m
    funext size0 pieces1 i11 s12 v22 v23 v24 v8 left9; refine (L51_2_eq n m1 m size0 pieces1 i11 s12 v22 v23 v24 v8 left9).trans ?_
    rw [DL51_2_succ]
    unfold DF51_2
    (try simp only [ih]) <;> first | with_reducible rfl | rfl
noncomputable def DF51_3 (n : Nat × Nat) (f1 : Int → Int → List Int → (List (Int × Int)) → List Int → List Int → Option R51) (v70 : Int) (v71 : Int) (left9 : List Int) (name13 : List (Int × Int)) (plan14 : List Int) (v69 : List Int) : Option R51 :=
 (bif decide (v71 < v70) then (bif inB v71 v69.length then (idx v69 v71).bind fun x13' =>
 (bif (!((alook name13 x13').isSome)) then (bif decide (plan14.length + [((alook (aset name13 x13' (name13.length : Int)) x13').getD 0)].length ≤ lim) then f1 v70 (wr .i64 (v71 + 1)) left9 (aset name13 x13' (name13.length : Int)) (plan14 ++ [((alook (aset name13 x13' (name13.length : Int)) x13').getD 0)]) v69
 else none)
 else (bif decide (plan14.length + [((alook name13 x13').getD 0)].length ≤ lim) then f1 v70 (wr .i64 (v71 + 1)) left9 name13 (plan14 ++ [((alook name13 x13').getD 0)]) v69
 else none))
 else none)
 else some (plan14, left9))
noncomputable def DL51_3 (n : Nat × Nat) (m : Nat) : Int → Int → List Int → (List (Int × Int)) → List Int → List Int → Option R51 := Nat.rec (motive := fun _ => Int → Int → List Int → (List (Int × Int)) → List Int → List Int → Option R51) (fun _ _ _ _ _ _ => none) (fun _ ih => DF51_3 n ih) m
theorem DL51_3_succ (n : Nat × Nat) (m : Nat) : DL51_3 n (m + 1) = DF51_3 n (DL51_3 n m) := rfl
theorem DL51_3_eq (n : Nat × Nat) (hn : n.2 = 1) : ∀ m, L51_3 n m = DL51_3 n m
  | 0 => by funext v70 v71 left9 name13 plan14 v69; kernel_rfl
  | m + 1 => by
    have ih := DL51_3_eq n hn m
    funext v70 v71 left9 name13 plan14 v69; refine (L51_3_eq n m v70 v71 left9 name13 plan14 v69).trans ?_
    rw [DL51_3_succ]
    unfold DF51_3
    (try simp only [ih, DL51_2_eq n hn]) <;> first | with_reducible rfl | rfl
noncomputable def DF51_1 (n : Nat × Nat) (f1 : Int → List Int → List Int → Int → Int → List Int → List Int → Option R51) (size0 : Int) (pieces1 : List Int) (v22 : List Int) (v23 : Int) (v24 : Int) (v8 : List Int) (left9 : List Int) : Option R51 :=
 (bif decide (v24 < v23) then (idx v22 v24).bind fun x1' =>
      DL51_2 n f1 n.1 size0 pieces1 x1' 0 v22 v23 v24 v8 left9
 else DL51_3 n n.1 (v8.length : Int) 0 left9 [] [] v8)
noncomputable def DL51_1 (n : Nat × Nat) (m : Nat) : Int → List Int → List Int → Int → Int → List Int → List Int → Option R51 := Nat.rec (motive := fun _ => Int → List Int → List Int → Int → Int → List Int → List Int → Option R51) (fun _ _ _ _ _ _ _ => none) (fun _ ih => DF51_1 n ih) m
theorem DL51_1_succ (n : Nat × Nat) (m : Nat) : DL51_1 n (m + 1) = DF51_1 n (DL51_1 n m) := rfl
theorem DL51_1_eq (n : Nat × Nat) (hn : n.2 = 1) : ∀ m, L51_1 n m = DL51_1 n m
  | 0 => by funext size0 pieces1 v22 v23 v24 v8 left9; kernel_rfl
  | m + 1 => by
    have ih := DL51_1_eq n hn m
    funext size0 pieces1 v22 v23 v24 v8 left9; refine (L51_1_eq n m size0 pieces1 v22 v23 v24 v8 left9).trans ?_
    rw [DL51_1_succ]
    unfold DF51_1
    (try simp only [ih, DL51_2_eq n hn, DL51_3_eq n hn]) <;> first | with_reducible rfl | rfl
noncomputable def D51 (n : Nat × Nat) (size0 : Int) (pieces1 : List Int) (order2 : List Int) : Option R51 :=
 (bif decide (0 ≤ (pieces1.length : Int)) && decide ((pieces1.length : Int) ≤ (pieces1.length : Int)) && decide ((pieces1.length : Int) ≤ lim) then DL51_1 n n.1 size0 pieces1 order2 (order2.length : Int) 0 (List.replicate (Int.toNat (pieces1.length : Int)) (0 : Int)) []
 else none)
theorem S51_D (n : Nat × Nat) (hn : n.2 = 1) : S51 n = D51 n := by
  funext size0 pieces1 order2; refine (S51_eq n size0 pieces1 order2).trans ?_
  unfold D51
  (try simp only [DL51_2_eq n hn, DL51_3_eq n hn, DL51_1_eq n hn]) <;> first | with_reducible rfl | rfl
/-D 64 -/
noncomputable def DL64_2 (n : Nat × Nat) (f1 : List (List (List Int)) → Int → List (List (List Int)) → Int → Int → Option R64) (slices0 : List (List (List Int))) (size3 : Int) (v9 : List (List (List Int))) (v10 : Int) (v11 : Int) : Option R64 :=
    f1 slices0 size3 v9 v10 (wr .i64 (v11 + 1))
theorem DL64_2_eq (n : Nat × Nat) (hn : n.2 = 1) (m1 : Nat) : L64_2 n m1 = DL64_2 n (L64_1 n m1) := by
  funext slices0 size3 v9 v10 v11; refine ((held_eq hn _).trans (L64_2_raw n m1 slices0 size3 v9 v10 v11)).trans ?_
  unfold DL64_2
  first | with_reducible rfl | rfl
noncomputable def DF64_3 (n : Nat × Nat) (f1 : List (List (List Int)) → Int → Int → List (List Int) → Option R64) (v25 : List (List (List Int))) (v26 : Int) (v27 : Int) (newslice6 : List (List Int)) : Option R64 :=
 (bif decide (v27 < v26) then (idx v25 v27).bind fun x2' =>
 (bif decide (newslice6.length + x2'.length ≤ lim) then f1 v25 v26 (wr .i64 (v27 + 1)) (newslice6 ++ x2')
 else none)
 else some newslice6)
noncomputable def DL64_3 (n : Nat × Nat) (m : Nat) : List (List (List Int)) → Int → Int → List (List Int) → Option R64 := Nat.rec (motive := fun _ => List (List (List Int)) → Int → Int → List (List Int) → Option R64) (fun _ _ _ _ => none) (fun _ ih => DF64_3 n ih) m
theorem DL64_3_succ (n : Nat × Nat) (m : Nat) : DL64_3 n (m + 1) = DF64_3 n (DL64_3 n m) := rfl
theorem DL64_3_eq (n : Nat × Nat) (hn : n.2 = 1) : ∀ m, L64_3 n m = DL64_3 n m
  | 0 => by funext v25 v26 v27 newslice6; kernel_rfl
  | m + 1 => by
    have ih := DL64_3_eq n hn m
    funext v25 v26 v27 newslice6; refine (L64_3_eq n m v25 v26 v27 newslice6).trans ?_
    rw [DL64_3_succ]
    unfold DF64_3
    (try simp only [ih, DL64_2_eq n hn]) <;> first | with_reducible rfl | rfl
noncomputable def DF64_1 (n : Nat × Nat) (f1 : List (List (List Int)) → Int → List (List (List Int)) → Int → Int → Option R64) (slices0 : List (List (List Int))) (size3 : Int) (v9 : List (List (List Int))) (v10 : Int) (v11 : Int) : Option R64 :=
 (bif decide (v11 < v10) then (idx v9 v11).bind fun x1' =>
 (bif decide (wr .i64 (size3 + (x1'.length : Int)) < 0) then none
 else DL64_2 n f1 slices0 (wr .i64 (size3 + (x1'.length : Int))) v9 v10 v11)
 else (bif decide (0 ≤ size3) && decide (size3 ≤ 1073741824) then DL64_3 n n.1 slices0 (slices0.length : Int) 0 []
 else none))
noncomputable def DL64_1 (n : Nat × Nat) (m : Nat) : List (List (List Int)) → Int → List (List (List Int)) → Int → Int → Option R64 := Nat.rec (motive := fun _ => List (List (List Int)) → Int → List (List (List Int)) → Int → Int → Option R64) (fun _ _ _ _ _ => none) (fun _ ih => DF64_1 n ih) m
theorem DL64_1_succ (n : Nat × Nat) (m : Nat) : DL64_1 n (m + 1) = DF64_1 n (DL64_1 n m) := rfl
theorem DL64_1_eq (n : Nat × Nat) (hn : n.2 = 1) : ∀ m, L64_1 n m = DL64_1 n m
  | 0 => by funext slices0 size3 v9 v10 v11; kernel_rfl
  | m + 1 => by
    have ih := DL64_1_eq n hn m
    funext slices0 size3 v9 v10 v11; refine (L64_1_eq n m slices0 size3 v9 v10 v11).trans ?_
    rw [DL64_1_succ]
    unfold DF64_1
    (try simp only [ih, DL64_2_eq n hn, DL64_3_eq n hn]) <;> first | with_reducible rfl | rfl
noncomputable def D64 (n : Nat × Nat) (slices0 : List (List (List Int))) : Option R64 :=
    DL64_1 n n.1 slices0 0 slices0 (slices0.length : Int) 0
theorem S64_D (n : Nat × Nat) (hn : n.2 = 1) : S64 n = D64 n := by
  funext slices0; refine (S64_eq n slices0).trans ?_
  unfold D64
  (try simp only [DL64_2_eq n hn, DL64_3_eq n hn, DL64_1_eq n hn]) <;> first | with_reducible rfl | rfl
/-D 63io1 -/
noncomputable def DF63io1_1 (n : Nat × Nat) (f1 : Int → Int → List Int → Option R63io1) (i2 : Int) (j3 : Int) (u0 : List Int) : Option R63io1 :=
 (bif decide (i2 < j3) then (bif inB j3 u0.length then (idx u0 j3).bind fun x1' =>
 (bif inB i2 u0.length then (idx u0 i2).bind fun x2' =>
 (bif inB i2 u0.length then (idx u0 i2).bind fun x3' =>
 (bif inB j3 (u0.set (Int.toNat i2) x1').length then (idx (u0.set (Int.toNat i2) x1') j3).bind fun x4' =>
              f1 (wr .i64 (i2 + 1)) (wr .i64 (j3 - 1)) ((u0.set (Int.toNat i2) x1').set (Int.toNat j3) x2')
 else none)
 else none)
 else none)
 else none)
 else some ((), u0, ()))
noncomputable def DL63io1_1 (n : Nat × Nat) (m : Nat) : Int → Int → List Int → Option R63io1 := Nat.rec (motive := fun _ => Int → Int → List Int → Option R63io1) (fun _ _ _ => none) (fun _ ih => DF63io1_1 n ih) m
theorem DL63io1_1_succ (n : Nat × Nat) (m : Nat) : DL63io1_1 n (m + 1) = DF63io1_1 n (DL63io1_1 n m) := rfl
theorem DL63io1_1_eq (n : Nat × Nat) (hn : n.2 = 1) : ∀ m, L63io1_1 n m = DL63io1_1 n m
  | 0 => by funext i2 j3 u0; kernel_rfl
  | m + 1 => by
    have ih := DL63io1_1_eq n hn m
    funext i2 j3 u0; refine (L63io1_1_eq n m i2 j3 u0).trans ?_
    rw [DL63io1_1_succ]
    unfold DF63io1_1
    (try simp only [ih]) <;> first | with_reducible rfl | rfl
noncomputable def D63io1 (n : Nat × Nat) (s0 : List Int) : Option R63io1 :=
    DL63io1_1 n n.1 0 (wr .i64 ((s0.length : Int) - 1)) s0
theorem S63io1_D (n : Nat × Nat) (hn : n.2 = 1) : S63io1 n = D63io1 n := by
  funext s0; refine (S63io1_eq n s0).trans ?_
  unfold D63io1
  (try simp only [DL63io1_1_eq n hn]) <;> first | with_reducible rfl | rfl
/-D 15 -/
noncomputable def DL15_4 (n : Nat × Nat) (f1 : Int → Int → List Int → List Int → Int → Int → List Int → List (List Int) → List (List Int) → Option R15) (f2 : Int → Int → List Int → List Int → Int → Int → Int → List Int → Int → Int → List Int → List (List Int) → List (List Int) → List Int → Option R15) (turn2 : Int) (size7 : Int) (pieces8 : List Int) (plan12 : List Int) (v19 : Int) (v127 : Int) (v128 : Int) (v131 : List Int) (v132 : Int) (v133 : Int) (l14 : List Int) (g16 : List (List Int)) (groups18 : List (List Int)) (own20 : List Int) : Option R15 :=
    f2 turn2 size7 pieces8 plan12 v19 v127 v128 v131 v132 (wr .i64 (v133 + 1)) l14 g16 groups18 own20
theorem DL15_4_eq (n : Nat × Nat) (hn : n.2 = 1) (m1 m2 : Nat) : L15_4 n m1 m2 = DL15_4 n (L15_2 n m1) (L15_3 n m1 m2) := by
  funext turn2 size7 pieces8 plan12 v19 v127 v128 v131 v132 v133 l14 g16 groups18 own20; refine ((held_eq hn _).trans (L15_4_raw n m1 m2 turn2 size7 pieces8 plan12 v19 v127 v128 v131 v132 v133 l14 g16 groups18 own20)).trans ?_
  unfold DL15_4
  (try simp only [S17_D n hn, S18_D n hn, S20_D n hn, S22_D n hn, S24_D n hn, S28_D n hn, S48_D n hn, S49_D n hn, S51_D n hn, S64_D n hn, S63io1_D n hn]) <;> first | with_reducible rfl | rfl
noncomputable def DF15_5 (n : Nat × Nat) (f1 : Int → Int → List Int → List Int → Int → Int → List Int → List (List Int) → List (List Int) → Option R15) (f2 : Int → Int → List Int → List Int → Int → Int → Int → Int → Int → Int → List Int → List (List Int) → List (List Int) → List Int → Option R15) (turn2 : Int) (size7 : Int) (pieces8 : List Int) (plan12 : List Int) (v19 : Int) (used23 : Int) (v127 : Int) (v128 : Int) (v147 : Int) (v148 : Int) (l14 : List Int) (g16 : List (List Int)) (groups18 : List (List Int)) (own20 : List Int) : Option R15 :=
 (bif decide (v148 < v147) then (bif inB v148 own20.length then (idx own20 v148).bind fun x30' =>
 (idx pieces8 x30').bind fun x31' =>
        f2 turn2 size7 pieces8 plan12 v19 (wr .i64 (used23 + x31')) v127 v128 v147 (wr .i64 (v148 + 1)) l14 g16 groups18 own20
 else none)
 else (bif inB v19 g16.length then (idx g16 v19).bind fun x32' =>
 (D24 n x32' own20).bind fun r33' =>
 ((bif ((!r33') == false) then (bif inB v19 l14.length then (idx l14 v19).bind fun x34' =>
 some (x34' != (wr .i64 (size7 - used23)))
 else none)
 else some true)).bind fun b35' =>
 (bif b35' then some false
 else (D63io1 n own20).bind fun r36' =>
 (bif Nat.beq r36'.2.1.length own20.length then (bif decide (groups18.length + [r36'.2.1].length ≤ lim) then f1 turn2 size7 pieces8 plan12 v127 (wr .i64 (v128 + 1)) l14 g16 (groups18 ++ [r36'.2.1])
 else none)
 else none))
 else none))
noncomputable def DL15_5 (n : Nat × Nat) (f1 : Int → Int → List Int → List Int → Int → Int → List Int → List (List Int) → List (List Int) → Option R15) (m : Nat) : Int → Int → List Int → List Int → Int → Int → Int → Int → Int → Int → List Int → List (List Int) → List (List Int) → List Int → Option R15 := Nat.rec (motive := fun _ => Int → Int → List Int → List Int → Int → Int → Int → Int → Int → Int → List Int → List (List Int) → List (List Int) → List Int → Option R15) (fun _ _ _ _ _ _ _ _ _ _ _ _ _ _ => none) (fun _ ih => DF15_5 n f1 ih) m
theorem DL15_5_succ (n : Nat × Nat) (f1 : Int → Int → List Int → List Int → Int → Int → List Int → List (List Int) → List (List Int) → Option R15) (m : Nat) : DL15_5 n f1 (m + 1) = DF15_5 n f1 (DL15_5 n f1 m) := rfl
theorem DL15_5_eq (n : Nat × Nat) (hn : n.2 = 1) (m1 : Nat) : ∀ m, L15_5 n m1 m = DL15_5 n (L15_2 n m1) m
  | 0 => by funext turn2 size7 pieces8 plan12 v19 used23 v127 v128 v147 v148 l14 g16 groups18 own20; kernel_rfl
  | m + 1 => by
    have ih := DL15_5_eq n hn m1 m
    funext turn2 size7 pieces8 plan12 v19 used23 v127 v128 v147 v148 l14 g16 groups18 own20; refine (L15_5_eq n m1 m turn2 size7 pieces8 plan12 v19 used23 v127 v128 v147 v148 l14 g16 groups18 own20).trans ?_
    rw [DL15_5_succ]
    unfold DF15_5
    (try simp only [ih, DL15_4_eq n hn, S17_D n hn, S18_D n hn, S20_D n hn, S22_D n hn, S24_D n hn, S28_D n hn, S48_D n hn, S49_D n hn, S51_D n hn, S64_D n hn, S63io1_D n hn]) <;> first | with_reducible rfl | rfl
noncomputable def DF15_3 (n : Nat × Nat) (f1 : Int → Int → List Int → List Int → Int → Int → List Int → List (List Int) → List (List Int) → Option R15) (f2 : Int → Int → List Int → List Int → Int → Int → Int → List Int → Int → Int → List Int → List (List Int) → List (List Int) → List Int → Option R15) (turn2 : Int) (size7 : Int) (pieces8 : List Int) (plan12 : List Int) (v19 : Int) (v127 : Int) (v128 : Int) (v131 : List Int) (v132 : Int) (v133 : Int) (l14 : List Int) (g16 : List (List Int)) (groups18 : List (List Int)) (own20 : List Int) : Option R15 :=
 (bif decide (v133 < v132) then (idx v131 v133).bind fun x29' =>
 (bif (x29' == v19) then (bif decide (own20.length + [v133].length ≤ lim) then DL15_4 n f1 f2 turn2 size7 pieces8 plan12 v19 v127 v128 v131 v132 v133 l14 g16 groups18 (own20 ++ [v133])
 else none)
 else DL15_4 n f1 f2 turn2 size7 pieces8 plan12 v19 v127 v128 v131 v132 v133 l14 g16 groups18 own20)
 else DL15_5 n f1 n.1 turn2 size7 pieces8 plan12 v19 0 v127 v128 (own20.length : Int) 0 l14 g16 groups18 own20)
noncomputable def DL15_3 (n : Nat × Nat) (f1 : Int → Int → List Int → List Int → Int → Int → List Int → List (List Int) → List (List Int) → Option R15) (m : Nat) : Int → Int → List Int → List Int → Int → Int → Int → List Int → Int → Int → List Int → List (List Int) → List (List Int) → List Int → Option R15 := Nat.rec (motive := fun _ => Int → Int → List Int → List Int → Int → Int → Int → List Int → Int → Int → List Int → List (List Int) → List (List Int) → List Int → Option R15) (fun _ _ _ _ _ _ _ _ _ _ _ _ _ _ => none) (fun _ ih => DF15_3 n f1 ih) m
theorem DL15_3_succ (n : Nat × Nat) (f1 : Int → Int → List Int → List Int → Int → Int → List Int → List (List Int) → List (List Int) → Option R15) (m : Nat) : DL15_3 n f1 (m + 1) = DF15_3 n f1 (DL15_3 n f1 m) := rfl
theorem DL15_3_eq (n : Nat × Nat) (hn : n.2 = 1) (m1 : Nat) : ∀ m, L15_3 n m1 m = DL15_3 n (L15_2 n m1) m
  | 0 => by funext turn2 size7 pieces8 plan12 v19 v127 v128 v131 v132 v133 l14 g16 groups18 own20; kernel_rfl
  | m + 1 => by
    have ih := DL15_3_eq n hn m1 m
    funext turn2 size7 pieces8 plan12 v19 v127 v128 v131 v132 v133 l14 g16 groups18 own20; refine (L15_3_eq n m1 m turn2 size7 pieces8 plan12 v19 v127 v128 v131 v132 v133 l14 g16 groups18 own20).trans ?_
    rw [DL15_3_succ]
    unfold DF15_3
    (try simp only [ih, DL15_4_eq n hn, DL15_5_eq n hn, S17_D n hn, S18_D n hn, S20_D n hn, S22_D n hn, S24_D n hn, S28_D n hn, S48_D n hn, S49_D n hn, S51_D n hn, S64_D n hn, S63io1_D n hn]) <;> first | with_reducible rfl | rfl
noncomputable def DF15_2 (n : Nat × Nat) (f1 : Int → Int → List Int → List Int → Int → Int → List Int → List (List Int) → List (List Int) → Option R15) (turn2 : Int) (size7 : Int) (pieces8 : List Int) (plan12 : List Int) (v127 : Int) (v128 : Int) (l14 : List Int) (g16 : List (List Int)) (groups18 : List (List Int)) : Option R15 :=
 (bif decide (v128 < v127) then DL15_3 n f1 n.1 turn2 size7 pieces8 plan12 v128 v127 v128 plan12 (plan12.length : Int) 0 l14 g16 groups18 []
 else (bif decide ((groups18.length : Int) > 0) then (bif (groups18.length : Int) == 0 then none
 else (bif bounds (some (Int.tmod (wr .i64 turn2) (groups18.length : Int))) none none groups18.length then (bif bounds none (some (Int.tmod (wr .i64 turn2) (groups18.length : Int))) none groups18.length then (D64 n [(groups18.drop (0 + (Int.toNat (Int.tmod (wr .i64 turn2) (groups18.length : Int))))).take (groups18.length - (Int.toNat (Int.tmod (wr .i64 turn2) (groups18.length : Int)))), (groups18.drop (0 + 0)).take ((Int.toNat (Int.tmod (wr .i64 turn2) (groups18.length : Int))) - 0)]).bind fun r18' =>
 (D22 n size7 pieces8 r18').bind fun r19' =>
 ((bif ((r19'.2 == 0) == true) then (D24 n r19'.1 plan12).bind fun r20' =>
 some r20'
 else some false)).bind fun b21' =>
 ((bif (b21' == true) then (D17 n).bind fun r22' =>
 some r22'
 else some false)).bind fun b23' =>
 some b23'
 else none)
 else none))
 else (D22 n size7 pieces8 groups18).bind fun r24' =>
 ((bif ((r24'.2 == 0) == true) then (D24 n r24'.1 plan12).bind fun r25' =>
 some r25'
 else some false)).bind fun b26' =>
 ((bif (b26' == true) then (D17 n).bind fun r27' =>
 some r27'
 else some false)).bind fun b28' =>
 some b28'))
noncomputable def DL15_2 (n : Nat × Nat) (m : Nat) : Int → Int → List Int → List Int → Int → Int → List Int → List (List Int) → List (List Int) → Option R15 := Nat.rec (motive := fun _ => Int → Int → List Int → List Int → Int → Int → List Int → List (List Int) → List (List Int) → Option R15) (fun _ _ _ _ _ _ _ _ _ => none) (fun _ ih => DF15_2 n ih) m
theorem DL15_2_succ (n : Nat × Nat) (m : Nat) : DL15_2 n (m + 1) = DF15_2 n (DL15_2 n m) := rfl
theorem DL15_2_eq (n : Nat × Nat) (hn : n.2 = 1) : ∀ m, L15_2 n m = DL15_2 n m
  | 0 => by funext turn2 size7 pieces8 plan12 v127 v128 l14 g16 groups18; kernel_rfl
  | m + 1 => by
    have ih := DL15_2_eq n hn m
    funext turn2 size7 pieces8 plan12 v127 v128 l14 g16 groups18; refine (L15_2_eq n m turn2 size7 pieces8 plan12 v127 v128 l14 g16 groups18).trans ?_
    rw [DL15_2_succ]
    unfold DF15_2
    (try simp only [ih, DL15_4_eq n hn, DL15_5_eq n hn, DL15_3_eq n hn, S17_D n hn, S18_D n hn, S20_D n hn, S22_D n hn, S24_D n hn, S28_D n hn, S48_D n hn, S49_D n hn, S51_D n hn, S64_D n hn, S63io1_D n hn]) <;> first | with_reducible rfl | rfl
noncomputable def DF15_1 (n : Nat × Nat) (f1 : Int → Int → List Int → Int → Int → Int → Int → Int → Int → Int → Int → Int → Int → List Int → Option R15) (turn2 : Int) (size7 : Int) (pieces8 : List Int) (v38 : Int) (v39 : Int) (v4_0 : Int) (v4_1 : Int) (v4_2 : Int) (v4_3 : Int) (v4_4 : Int) (v4_5 : Int) (v4_6 : Int) (v4_7 : Int) (order9 : List Int) : Option R15 :=
 (bif decide (v39 < v38) then (bif inB v39 order9.length then (idx order9 v39).bind fun x2' =>
 (bif inB v39 8 then (idx [v4_0, v4_1, v4_2, v4_3, v4_4, v4_5, v4_6, v4_7] v39).bind fun x3' =>
 (bif (wr .i64 (v39 + 1)) == 0 then none
 else (bif inB (Int.tmod (wr .i64 x3') (wr .i64 (v39 + 1))) (order9.set (Int.toNat v39) v39).length then (idx (order9.set (Int.toNat v39) v39) (Int.tmod (wr .i64 x3') (wr .i64 (v39 + 1)))).bind fun x4' =>
 (bif inB v39 (order9.set (Int.toNat v39) v39).length then (idx (order9.set (Int.toNat v39) v39) v39).bind fun x5' =>
 (bif inB v39 (order9.set (Int.toNat v39) v39).length then (idx (order9.set (Int.toNat v39) v39) v39).bind fun x6' =>
 (bif inB (Int.tmod (wr .i64 x3') (wr .i64 (v39 + 1))) ((order9.set (Int.toNat v39) v39).set (Int.toNat v39) x4').length then (idx ((order9.set (Int.toNat v39) v39).set (Int.toNat v39) x4') (Int.tmod (wr .i64 x3') (wr .i64 (v39 + 1)))).bind fun x7' =>
                    f1 turn2 size7 pieces8 v38 (wr .i64 (v39 + 1)) v4_0 v4_1 v4_2 v4_3 v4_4 v4_5 v4_6 v4_7 (((order9.set (Int.toNat v39) v39).set (Int.toNat v39) x4').set (Int.toNat (Int.tmod (wr .i64 x3') (wr .i64 (v39 + 1)))) x5')
 else none)
 else none)
 else none)
 else none))
 else none)
 else none)
 else (D51 n size7 pieces8 order9).bind fun r8' =>
 (D18 n size7 pieces8 r8'.1).bind fun r9' =>
 (D20 n size7 pieces8 r8'.1).bind fun r10' =>
 ((bif ((r9'.2 != 0) == false) then some (r10'.2 != 0)
 else some true)).bind fun b11' =>
 ((bif (b11' == false) then some ((r9'.1.length : Int) != (r8'.2.length : Int))
 else some true)).bind fun b12' =>
 ((bif (b12' == false) then some ((r10'.1.length : Int) != (r8'.2.length : Int))
 else some true)).bind fun b13' =>
 ((bif (b13' == false) then (D28 n size7 pieces8 r8'.1).bind fun r14' =>
 some (r14' != 0)
 else some true)).bind fun b15' =>
 (bif b15' then some false
 else (D49 n r9'.1).bind fun r16' =>
 (D49 n pieces8).bind fun r17' =>
 (bif ((wr .i64 (r16' + r17')) != (wr .i64 (size7 * (r8'.2.length : Int)))) then some false
 else DL15_2 n n.1 turn2 size7 pieces8 r8'.1 (r8'.2.length : Int) 0 r9'.1 r10'.1 [])))
noncomputable def DL15_1 (n : Nat × Nat) (m : Nat) : Int → Int → List Int → Int → Int → Int → Int → Int → Int → Int → Int → Int → Int → List Int → Option R15 := Nat.rec (motive := fun _ => Int → Int → List Int → Int → Int → Int → Int → Int → Int → Int → Int → Int → Int → List Int → Option R15) (fun _ _ _ _ _ _ _ _ _ _ _ _ _ _ => none) (fun _ ih => DF15_1 n ih) m
theorem DL15_1_succ (n : Nat × Nat) (m : Nat) : DL15_1 n (m + 1) = DF15_1 n (DL15_1 n m) := rfl
theorem DL15_1_eq (n : Nat × Nat) (hn : n.2 = 1) : ∀ m, L15_1 n m = DL15_1 n m
  | 0 => by funext turn2 size7 pieces8 v38 v39 v4_0 v4_1 v4_2 v4_3 v4_4 v4_5 v4_6 v4_7 order9; kernel_rfl
  | m + 1 => by
    have ih := DL15_1_eq n hn m
    funext turn2 size7 pieces8 v38 v39 v4_0 v4_1 v4_2 v4_3 v4_4 v4_5 v4_6 v4_7 order9; refine (L15_1_eq n m turn2 size7 pieces8 v38 v39 v4_0 v4_1 v4_2 v4_3 v4_4 v4_5 v4_6 v4_7 order9).trans ?_
    rw [DL15_1_succ]
    unfold DF15_1
    (try simp only [ih, DL15_4_eq n hn, DL15_5_eq n hn, DL15_3_eq n hn, DL15_2_eq n hn, S17_D n hn, S18_D n hn, S20_D n hn, S22_D n hn, S24_D n hn, S28_D n hn, S48_D n hn, S49_D n hn, S51_D n hn, S64_D n hn, S63io1_D n hn]) <;> first | with_reducible rfl | rfl
noncomputable def D15 (n : Nat × Nat) (s0 : Int × Int × Int × Int × Int × Int × Int × Int × Int × Int × Int) (v1 : Int × Int × Int × Int × Int × Int × Int × Int) (turn2 : Int) : Option R15 :=
 (D48 n s0 8).bind fun r1' =>
 (bif decide (0 ≤ (r1'.2.length : Int)) && decide ((r1'.2.length : Int) ≤ (r1'.2.length : Int)) && decide ((r1'.2.length : Int) ≤ lim) then DL15_1 n n.1 turn2 r1'.1 r1'.2 ((List.replicate (Int.toNat (r1'.2.length : Int)) (0 : Int)).length : Int) 0 v1.1 v1.2.1 v1.2.2.1 v1.2.2.2.1 v1.2.2.2.2.1 v1.2.2.2.2.2.1 v1.2.2.2.2.2.2.1 v1.2.2.2.2.2.2.2 (List.replicate (Int.toNat (r1'.2.length : Int)) (0 : Int))
 else none)
theorem S15_D (n : Nat × Nat) (hn : n.2 = 1) : S15 n = D15 n := by
  funext s0 v1 turn2; refine (S15_eq n s0 v1 turn2).trans ?_
  unfold D15
  (try simp only [DL15_4_eq n hn, DL15_5_eq n hn, DL15_3_eq n hn, DL15_2_eq n hn, DL15_1_eq n hn, S17_D n hn, S18_D n hn, S20_D n hn, S22_D n hn, S24_D n hn, S28_D n hn, S48_D n hn, S49_D n hn, S51_D n hn, S64_D n hn, S63io1_D n hn]) <;> first | with_reducible rfl | rfl
/-D 13 -/
end Go.Proofs.YtgmonagekfjnmaaDoor
set_option linter.unusedVariables false
set_option linter.unusedSimpArgs false
namespace Go.Proofs.YtgmonagekfjnmaaDoor
open Go.Vi
abbrev N : Nat × Nat := (1000000, 1)
theorem works_eq : D17 N = some true := by kernel_rfl
end Go.Proofs.YtgmonagekfjnmaaDoor
set_option linter.unusedVariables false
set_option linter.unusedSimpArgs false
set_option maxRecDepth 100000
namespace Go.Proofs.YtgmonagekfjnmaaDoor
open Go.Vi
noncomputable def c3 : Code := bodyOf Tryd.f3
/-D 16 -/
/-D 72 -/
/-D 27 -/
/-D 67 -/
/-D 68 -/
/-D 29 -/
/-D 19 -/
/-D 21 -/
/-D 73 -/
/-D 74 -/
/-D 23 -/
/-D 3 -/
end Go.Proofs.YtgmonagekfjnmaaDoor
set_option linter.unusedVariables false
set_option linter.unusedSimpArgs false
namespace Go.Proofs.YtgmonagekfjnmaaDoor
open Go.Vi
theorem hN1 : 1000 ≤ N.1 := by decide
theorem wr_ok {x : Int} (h1 : -9223372036854775808 ≤ x) (h2 : x ≤ 9223372036854775807) : wr .i64 x = x := by
  have : wr .i64 x = (x + 9223372036854775808) % 18446744073709551616 - 9223372036854775808 := by
    simp only [wr, IntKind.wrap, IntKind.signed, IntKind.bits]
    simp
    split <;> omega
  rw [this]
  omega
theorem wr_succ {k : Nat} (h : k < 1000000) : wr .i64 ((k : Int) + 1) = ((k + 1 : Nat) : Int) := by
  rw [wr_ok (by omega) (by omega)]; omega
theorem idx_nat {α : Type} {l : List α} {k : Nat} (h : k < l.length) : idx l (k : Int) = some l[k] := by
  unfold idx
  rw [if_pos (by omega), Int.toNat_natCast, List.getElem?_eq_getElem h]
theorem idx_int {α : Type} {l : List α} {k : Nat} {i : Int} (hi : i = k) (h : k < l.length) : idx l i = some l[k] := by
  subst hi
  exact idx_nat h
theorem drop_cons {α : Type} {l : List α} {k : Nat} (h : k < l.length) : l.drop k = l[k] :: l.drop (k + 1) := List.drop_eq_getElem_cons h
theorem inB_nat {k n : Nat} (h : k < n) : inB (k : Int) n = true := by
  unfold inB
  simp [h]
theorem lim_dec {α : Type} {a : Nat} {x : α} (h : a < 1000000) : decide (a + [x].length ≤ lim) = true := decide_eq_true (by simp [lim]; omega)
theorem dlt_t {a b : Nat} (h : a < b) : decide ((a : Int) < (b : Int)) = true := decide_eq_true (by omega)
theorem dlt_f {a b : Nat} (h : ¬ a < b) : decide ((a : Int) < (b : Int)) = false := decide_eq_false (by omega)
theorem take_snoc {α : Type} {l : List α} {k : Nat} (h : k < l.length) : l.take (k + 1) = l.take k ++ [l[k]] := (List.take_append_getElem h).symm
/-- Two lists are the same. -/
theorem same_loop (n : Nat × Nat) (a b : List Int) (hl : a.length = b.length) (hs : a.length < 1000) : ∀ (m k : Nat), k ≤ a.length → a.length - k < m → DL24_1 n m a b (k : Int) = some (decide (a.drop k = b.drop k))
  | 0, k, _, h => by omega
  | m + 1, k, hk, h => by
    rw [DL24_1_succ]
    unfold DF24_1
    by_cases hlt : k < a.length
    · have ih := same_loop n a b hl hs m (k + 1) (by omega) (by omega)
      rw [dlt_t hlt, cond_true, idx_nat hlt, idx_nat (by omega : k < b.length), wr_succ (by omega), ih, drop_cons hlt, drop_cons (by omega : k < b.length)]
      simp only [Option.bind_some, List.cons.injEq]
      by_cases e : a[k] = b[k]
      · simp [e]
      · rw [show (a[k] != b[k]) = true by simpa using e, cond_true]; simp [e]
    · rw [dlt_f hlt, cond_false, List.drop_of_length_le (by omega), List.drop_of_length_le (by omega)]
      simp
theorem same_eq {n : Nat × Nat} (hn : 1000 ≤ n.1) {a b : List Int} (hs : a.length < 900) : D24 n a b = some (decide (a = b)) := by
  unfold D24
  by_cases hl : a.length = b.length
  · rw [show (((a.length : Int)) != (b.length : Int)) = false by simp [hl], cond_false]
    have := same_loop n a b hl (by omega) n.1 0 (by omega) (by omega)
    simpa using this
  · rw [show (((a.length : Int)) != (b.length : Int)) = true by simpa using (by omega : (a.length : Int) ≠ b.length), cond_true]
    rw [decide_eq_false (fun e => hl (by rw [e]))]
/-- The first place at which something holds, or -1. -/
def fnd (q : Int → Bool) : Nat → List Int → Int
  | _, [] => -1
  | k, x :: l => if q x then (k : Int) else fnd q (k + 1) l
theorem fnd_bnd (q : Int → Bool) : ∀ (l : List Int) (k : Nat), fnd q k l = -1 ∧ (∀ x ∈ l, q x = false) ∨ (k ≤ fnd q k l ∧ fnd q k l < k + l.length ∧ ∃ x ∈ l, q x = true)
  | [], k => by simp [fnd]
  | x :: l, k => by
    unfold fnd
    by_cases h : q x = true
    · rw [if_pos h]
      exact .inr ⟨by omega, by simp; omega, x, by simp, h⟩
    · rw [if_neg h]
      rcases fnd_bnd q l (k + 1) with ⟨h1, h2⟩ | ⟨h1, h2, y, hy, hq⟩
      · exact .inl ⟨h1, fun y hy => (List.mem_cons.1 hy).elim (fun e => by rw [e]; simpa using h) (fun hy => h2 y hy)⟩
      · exact .inr ⟨by omega, by simp; omega, y, by simp [hy], hq⟩
theorem fnd_ge (q : Int → Bool) (l : List Int) (k : Nat) : (0 ≤ fnd q k l) ↔ ∃ x ∈ l, q x = true := by
  rcases fnd_bnd q l k with ⟨h1, h2⟩ | ⟨h1, h2, h3⟩
  · constructor
    · intro h; omega
    · rintro ⟨x, hx, hq⟩; rw [h2 x hx] at hq; cases hq
  · exact ⟨fun _ => h3, fun _ => by omega⟩
/-- A job's error. -/
def BadP (sz p : Int) : Prop := p < 1 ∨ sz < p
instance (sz p : Int) : Decidable (BadP sz p) := inferInstanceAs (Decidable (_ ∨ _))
def chk (sz : Int) (ps : List Int) : Int := if sz < 1 ∨ 24 < sz then 1 else if 8 < ps.length then 3 else if ∃ p ∈ ps, BadP sz p then 1 else 0
structure Job (sz : Int) (ps : List Int) : Prop where
  lo : 1 ≤ sz
  hi : sz ≤ 24
  len : ps.length ≤ 8
  ok : ∀ p ∈ ps, 1 ≤ p ∧ p ≤ sz
theorem chk_job {sz : Int} {ps : List Int} : chk sz ps = 0 ↔ Job sz ps := by
  unfold chk
  constructor
  · intro h
    split at h
    · omega
    · split at h
      · omega
      · split at h
        · omega
        · rename_i h1 h2 h3
          refine ⟨by omega, by omega, by omega, fun p hp => ?_⟩
          have : ¬ BadP sz p := fun hb => h3 ⟨p, hp, hb⟩
          unfold BadP at this
          omega
  · intro h
    have := h.lo
    have := h.hi
    have := h.len
    rw [if_neg (by omega), if_neg (by omega), if_neg]
    rintro ⟨p, hp, hb⟩
    have := h.ok p hp
    unfold BadP at hb
    omega
theorem bad_eq (n : Nat × Nat) (p sz : Int) : D76 n p sz = some (decide (BadP sz p)) := by
  unfold D76 BadP
  by_cases h : p < 1
  · rw [decide_eq_true h]; simp [h]
  · rw [decide_eq_false h]; simp [h]
theorem idxf_loop (n : Nat × Nat) (l : List Int) (sz : Int) (hs : l.length < 100000) : ∀ (m k : Nat), k ≤ l.length → l.length - k < m → DL79c76_1 n m l sz (l.length : Int) (k : Int) = some (fnd (fun p => decide (BadP sz p)) k (l.drop k))
  | 0, k, _, h => by omega
  | m + 1, k, hk, h => by
    rw [DL79c76_1_succ]
    unfold DF79c76_1
    by_cases hlt : k < l.length
    · have ih := idxf_loop n l sz hs m (k + 1) (by omega) (by omega)
      rw [dlt_t hlt, cond_true, idx_nat hlt, Option.bind_some, bad_eq, Option.bind_some, wr_succ (by omega), ih, drop_cons hlt]
      generalize l.drop (k + 1) = t at *
      generalize l[k] = x at *
      unfold fnd
      by_cases e : BadP sz x
      · simp [e]
      · simp only [e, decide_false, cond_false, Bool.false_eq_true, if_false]
        cases t <;> rfl
    · rw [dlt_f hlt, cond_false, List.drop_of_length_le (by omega)]
      rfl
theorem anyb_eq {n : Nat × Nat} (l : List Int) (sz : Int) (hs : l.length < n.1) (hs2 : l.length < 100000) : D75c76 n l sz = some (decide (∃ p ∈ l, BadP sz p)) := by
  unfold D75c76 D79c76
  have := idxf_loop n l sz hs2 n.1 0 (by omega) (by omega)
  rw [show ((0 : Nat) : Int) = 0 from rfl, List.drop_zero] at this
  rw [this, Option.bind_some]
  congr 1
  apply decide_eq_decide.2
  have := fnd_ge (fun p => decide (BadP sz p)) l 0
  simp only [decide_eq_true_eq] at this
  exact this
theorem Check_eq {n : Nat × Nat} (hn : 1000 ≤ n.1) (sz : Int) (ps : List Int) : D26 n sz ps = some (chk sz ps) := by
  unfold D26 chk
  by_cases h1 : sz < 1
  · rw [decide_eq_true h1, if_pos (.inl h1)]; rfl
  · rw [decide_eq_false h1]
    by_cases h2 : 24 < sz
    · rw [if_pos (.inr h2), decide_eq_true (show sz > 24 from h2)]; rfl
    · rw [if_neg (by omega), decide_eq_false (show ¬ sz > 24 from h2)]
      simp only [beq_self_eq_true, cond_true, Option.bind_some, cond_false]
      by_cases h3 : 8 < ps.length
      · rw [if_pos h3, decide_eq_true (show (ps.length : Int) > 8 by omega), cond_true]
      · rw [if_neg h3, decide_eq_false (show ¬ (ps.length : Int) > 8 by omega), cond_false, anyb_eq ps sz (by omega) (by omega), Option.bind_some]
        by_cases h4 : ∃ p ∈ ps, BadP sz p
        · rw [if_pos h4, decide_eq_true h4, cond_true]
        · rw [if_neg h4, decide_eq_false h4, cond_false]
/-- How many sheets a plan has. -/
def mny (l : List Int) : Int := l.foldl (fun a s => max a (s + 1)) 0
/-- How much of a sheet is used. -/
def usd : List Int → List Int → Int → Int
  | p :: ps, x :: l, s => (if x = s then p else 0) + usd ps l s
  | _, _, _ => 0
theorem fold_mny : ∀ (l : List Int) (a : Int), a ≤ l.foldl (fun a s => max a (s + 1)) a ∧ (∀ x ∈ l, x < l.foldl (fun a s => max a (s + 1)) a)
  | [], a => by simp
  | x :: l, a => by
    rw [List.foldl_cons]
    obtain ⟨h1, h2⟩ := fold_mny l (max a (x + 1))
    refine ⟨by omega, fun y hy => ?_⟩
    rcases List.mem_cons.1 hy with rfl | hy
    · omega
    · exact h2 y hy
theorem mny_nn (l : List Int) : 0 ≤ mny l := (fold_mny l 0).1
theorem mny_lt {l : List Int} {x : Int} (h : x ∈ l) : x < mny l := (fold_mny l 0).2 x h
theorem mny_snoc (l : List Int) (x : Int) : mny (l ++ [x]) = max (mny l) (x + 1) := by simp [mny, List.foldl_append]
theorem mny_nil : mny [] = 0 := rfl
theorem usd_snoc (s x p : Int) : ∀ {ps l : List Int}, ps.length = l.length → usd (ps ++ [p]) (l ++ [x]) s = usd ps l s + if x = s then p else 0
  | [], [], _ => by simp [usd]
  | q :: ps, y :: l, h => by
    simp only [List.cons_append, usd]
    rw [usd_snoc s x p (by simpa using h)]
    omega
  | [], _ :: _, h => by simp at h
  | _ :: _, [], h => by simp at h
theorem usd_none {s : Int} : ∀ {ps l : List Int}, s ∉ l → usd ps l s = 0
  | [], [], _ => rfl
  | [], _ :: _, _ => rfl
  | _ :: _, [], _ => rfl
  | q :: ps, y :: l, h => by
    simp only [List.mem_cons, not_or] at h
    simp only [usd, if_neg (fun e => h.1 (Eq.symm e)), usd_none h.2]
    omega
theorem usd_nn {s : Int} : ∀ {ps l : List Int}, (∀ p ∈ ps, 0 ≤ p) → 0 ≤ usd ps l s
  | [], _, _ => by simp [usd]
  | _ :: _, [], _ => by simp [usd]
  | q :: ps, y :: l, h => by
    have h1 := h q (by simp)
    have h2 := usd_nn (s := s) (ps := ps) (l := l) (fun p hp => h p (by simp [hp]))
    simp only [usd]
    split <;> omega
theorem usd_le {s : Int} : ∀ {ps l : List Int}, (∀ p ∈ ps, 0 ≤ p ∧ p ≤ 24) → usd ps l s ≤ 24 * ps.length
  | [], _, _ => by simp [usd]
  | _ :: _, [], _ => by simp only [usd, List.length_cons]; omega
  | q :: ps, y :: l, h => by
    have h1 := h q (by simp)
    have h2 := usd_le (s := s) (ps := ps) (l := l) (fun p hp => h p (by simp [hp]))
    simp only [usd, List.length_cons]
    split <;> omega
/-- The error of sheets' order. -/
def oer : Int → List Int → Int
  | _, [] => 0
  | m, x :: l => if x < 0 then 2 else if m < x then 7 else oer (max m (x + 1)) l
/-- What is left of each sheet. -/
def lf (sz : Int) (ps l : List Int) : List Int := (List.range (mny l).toNat).map fun s : Nat => sz - usd ps l (s : Int)
theorem lf_len (sz : Int) (ps l : List Int) : ((lf sz ps l).length : Int) = mny l := by
  have := mny_nn l
  simp [lf]
  omega
theorem lf_get {sz : Int} {ps l : List Int} {s : Nat} (h : s < (lf sz ps l).length) : (lf sz ps l)[s] = sz - usd ps l (s : Int) := by simp [lf]
theorem lf_step (sz p x : Int) {ps l : List Int} (hl : ps.length = l.length) (h0 : 0 ≤ x) (h1 : x ≤ mny l) :
    lf sz (ps ++ [p]) (l ++ [x]) = (if x = mny l then lf sz ps l ++ [sz] else lf sz ps l).set x.toNat (sz - usd ps l x - p) := by
  have hm := mny_nn l
  have hll := lf_len sz ps l
  apply List.ext_getElem
  · have := lf_len sz (ps ++ [p]) (l ++ [x])
    rw [mny_snoc] at this
    rw [List.length_set]
    split
    · simp only [List.length_append, List.length_cons, List.length_nil]; omega
    · omega
  · intro s h2 h3
    rw [lf_get h2, usd_snoc _ _ _ hl, List.getElem_set]
    by_cases e : x.toNat = s
    · rw [if_pos e, if_pos (show x = (s : Int) by omega), show (s : Int) = x by omega]
      omega
    · rw [if_neg e, if_neg (show ¬ x = (s : Int) by omega)]
      rw [List.length_set] at h3
      split at h3
      · rename_i hx
        simp only [List.length_append, List.length_cons, List.length_nil] at h3
        have h4 : s < (lf sz ps l).length := by omega
        simp only [if_pos hx]
        rw [List.getElem_append_left h4, lf_get h4]
        omega
      · rename_i hx
        simp only [if_neg hx]
        rw [lf_get h3]
        omega
theorem neg_eq (n : Nat × Nat) (x : Int) : D93 n x = some (decide (x < 0)) := rfl
theorem idxn_loop (n : Nat × Nat) (l : List Int) (hs : l.length < 1000) : ∀ (m k : Nat), k ≤ l.length → l.length - k < m → DL79c93_1 n m l (l.length : Int) (k : Int) = some (fnd (fun p => decide (p < 0)) k (l.drop k))
  | 0, k, _, h => by omega
  | m + 1, k, hk, h => by
    rw [DL79c93_1_succ]
    unfold DF79c93_1
    by_cases hlt : k < l.length
    · have ih := idxn_loop n l hs m (k + 1) (by omega) (by omega)
      rw [dlt_t hlt, cond_true, idx_nat hlt, Option.bind_some, neg_eq, Option.bind_some, wr_succ (by omega), ih, drop_cons hlt]
      generalize l.drop (k + 1) = t at *
      generalize l[k] = x at *
      unfold fnd
      by_cases e : x < 0
      · simp [e]
      · simp only [e, decide_false, cond_false, Bool.false_eq_true, if_false]
        cases t <;> rfl
    · rw [dlt_f hlt, cond_false, List.drop_of_length_le (by omega)]
      rfl
theorem anyn_eq {n : Nat × Nat} (hn : 1000 ≤ n.1) (l : List Int) (hs : l.length < 900) : D75c93 n l = some (decide (∃ p ∈ l, p < 0)) := by
  unfold D75c93 D79c93
  have := idxn_loop n l (by omega) n.1 0 (by omega) (by omega)
  rw [show ((0 : Nat) : Int) = 0 from rfl, List.drop_zero] at this
  rw [this, Option.bind_some]
  congr 1
  apply decide_eq_decide.2
  have := fnd_ge (fun p => decide (p < 0)) l 0
  simp only [decide_eq_true_eq] at this
  exact this
/-- What is handed back of a plan whose order has an error, or none. -/
def shOut (sz : Int) (ps l : List Int) (e : Int) : List Int × Int := if e ≠ 0 then ([], e) else if ∃ s ∈ lf sz ps l, s < 0 then ([], 15) else (lf sz ps l, 0)
theorem shOut_err {sz : Int} {ps l : List Int} {e : Int} (h : e ≠ 0) : shOut sz ps l e = ([], e) := if_pos h
theorem sheets_loop (n : Nat × Nat) (hn : 1000 ≤ n.1) {sz : Int} {ps l : List Int} (hj : Job sz ps) (hl : l.length = ps.length) : ∀ (m k : Nat), k ≤ l.length → l.length - k < m → mny (l.take k) ≤ k →
    DL66_1 n m sz ps l (l.length : Int) (k : Int) (lf sz (ps.take k) (l.take k)) = some (shOut sz ps l (oer (mny (l.take k)) (l.drop k)))
  | 0, k, _, h, _ => by omega
  | m + 1, k, hk, h, hmk => by
    have h8 := hj.len
    have hlo := hj.lo
    have hhi := hj.hi
    rw [DL66_1_succ]
    unfold DF66_1
    by_cases hlt : k < l.length
    · have hlp : k < ps.length := by omega
      have hp := hj.ok _ (List.getElem_mem hlp)
      have hm0 := mny_nn (l.take k)
      have hll := lf_len sz (ps.take k) (l.take k)
      have ih := sheets_loop n hn hj hl m (k + 1) (by omega) (by omega)
      have hstep := lf_step sz ps[k] l[k] (ps := ps.take k) (l := l.take k) (by simp; omega)
      have hu0 := usd_nn (s := l[k]) (ps := ps.take k) (l := l.take k) (fun p hp => by have := hj.ok p (List.mem_of_mem_take hp); omega)
      have hu1 := usd_le (s := l[k]) (ps := ps.take k) (l := l.take k) (fun p hp => by have := hj.ok p (List.mem_of_mem_take hp); omega)
      rw [List.length_take] at hu1
      rw [← take_snoc hlt, ← take_snoc hlp] at hstep
      have hmn := mny_snoc (l.take k) l[k]
      rw [← take_snoc hlt] at hmn
      have hget : ∀ (q : List Int), q = (if l[k] = mny (l.take k) then lf sz (ps.take k) (l.take k) ++ [sz] else lf sz (ps.take k) (l.take k)) → 0 ≤ l[k] → l[k] ≤ mny (l.take k) → ∃ h : l[k].toNat < q.length, q[l[k].toNat] = sz - usd (ps.take k) (l.take k) l[k] := by
        rintro q rfl h0 h1
        by_cases e : l[k] = mny (l.take k)
        · rw [if_pos e]
          have hz : usd (ps.take k) (l.take k) l[k] = 0 := usd_none (fun hm => by have := mny_lt hm; omega)
          refine ⟨by simp only [List.length_append, List.length_cons, List.length_nil]; omega, ?_⟩
          rw [hz, List.getElem_append_right (by omega)]
          simp
        · rw [if_neg e]
          refine ⟨by omega, ?_⟩
          rw [lf_get, show ((l[k].toNat : Nat) : Int) = l[k] by omega]
      rw [dlt_t hlt, cond_true, idx_nat hlt, Option.bind_some, drop_cons hlt]
      unfold oer
      generalize hL : lf sz (ps.take k) (l.take k) = L at *
      generalize hU : usd (ps.take k) (l.take k) l[k] = u at *
      generalize hx : l[k] = x at *
      by_cases e1 : x < 0
      · rw [decide_eq_true e1, cond_true, if_pos e1, shOut_err (by omega)]
      · rw [decide_eq_false e1, cond_false, if_neg e1, hll]
        by_cases e2 : mny (l.take k) < x
        · rw [decide_eq_true (show x > mny (l.take k) from e2), cond_true, if_pos e2, shOut_err (by omega)]
        · rw [decide_eq_false (show ¬ x > mny (l.take k) from e2), cond_false, if_neg e2]
          have hstep := hstep (by omega) (by omega)
          have ih := ih (by omega)
          rw [hmn] at ih
          have done : ∀ q : List Int, q = (if x = mny (l.take k) then L ++ [sz] else L) → DL66_2 n (DL66_1 n m) sz ps (k : Int) x l (l.length : Int) (k : Int) q = DL66_1 n m sz ps l (l.length : Int) ((k + 1 : Nat) : Int) (lf sz (ps.take (k + 1)) (l.take (k + 1))) := fun q hq => by
            obtain ⟨hql, hqv⟩ := hget q hq (by omega) (by omega)
            unfold DL66_2
            have hxq : x = (x.toNat : Int) := by omega
            have hin : inB x q.length = true := by rw [hxq]; exact inB_nat hql
            rw [hin, cond_true, idx_int hxq hql, Option.bind_some, idx_nat hlp, Option.bind_some, cond_true, Option.bind_some, hqv, wr_succ (by omega), wr_ok (by omega) (by omega), hstep, ← hq]
          by_cases e3 : x = mny (l.take k)
          · rw [show (x == mny (l.take k)) = true by simpa using e3, cond_true, lim_dec (by omega), cond_true, done _ (by rw [if_pos e3]), ih]
          · rw [show (x == mny (l.take k)) = false from beq_false_of_ne e3, cond_false, done _ (by rw [if_neg e3]), ih]
    · have e : k = l.length := by omega
      subst e
      have hll := lf_len sz ps l
      rw [dlt_f hlt, cond_false, List.take_length, List.drop_length, hl, List.take_length]
      rw [List.take_length] at hmk
      rw [anyn_eq hn _ (by omega), Option.bind_some]
      unfold oer shOut
      rw [if_neg (by simp)]
      by_cases e2 : ∃ s ∈ lf sz ps l, s < 0
      · rw [decide_eq_true e2, cond_true, if_pos e2]
      · rw [decide_eq_false e2, cond_false, if_neg e2]
/-- A plan's error. -/
def vld (sz : Int) (ps l : List Int) : Int := if chk sz ps ≠ 0 then chk sz ps else if l.length ≠ ps.length then 5 else if oer 0 l ≠ 0 then oer 0 l else if ∃ x ∈ l, sz < usd ps l x then 15 else 0
def shts (sz : Int) (ps l : List Int) : List Int × Int := if vld sz ps l ≠ 0 then ([], vld sz ps l) else (lf sz ps l, 0)
theorem over_iff {sz : Int} {ps l : List Int} (hj : Job sz ps) (ho : oer 0 l = 0) : (∃ s ∈ lf sz ps l, s < 0) ↔ ∃ x ∈ l, sz < usd ps l x := by
  have hlo := hj.lo
  have hnn : ∀ (l : List Int) (m : Int), oer m l = 0 → ∀ x ∈ l, 0 ≤ x := by
    intro l
    induction l with
    | nil => intro m _ x hx; simp at hx
    | cons y l ih =>
      intro m h x hx
      unfold oer at h
      split at h
      · omega
      · split at h
        · omega
        · rcases List.mem_cons.1 hx with rfl | hx
          · omega
          · exact ih _ h x hx
  constructor
  · rintro ⟨s, hs, h0⟩
    obtain ⟨i, hi, e⟩ := List.getElem_of_mem hs
    rw [lf_get hi] at e
    by_cases hm : (i : Int) ∈ l
    · exact ⟨i, hm, by omega⟩
    · rw [usd_none hm] at e
      omega
  · rintro ⟨x, hx, h0⟩
    have h1 := hnn l 0 ho x hx
    have h2 := mny_lt hx
    have hll := lf_len sz ps l
    have hi : x.toNat < (lf sz ps l).length := by omega
    refine ⟨(lf sz ps l)[x.toNat], List.getElem_mem hi, ?_⟩
    rw [lf_get hi, show ((x.toNat : Nat) : Int) = x by omega]
    omega
theorem shts_err {sz : Int} {ps l : List Int} {e : Int} (h : vld sz ps l = e) (h0 : e ≠ 0) : shts sz ps l = ([], e) := by unfold shts; rw [h, if_pos h0]
theorem sheets_eq {n : Nat × Nat} (hn : 1000 ≤ n.1) (sz : Int) (ps l : List Int) : D66 n sz ps l = some (shts sz ps l) := by
  unfold D66
  rw [Check_eq hn, Option.bind_some]
  by_cases h1 : chk sz ps = 0
  · have hj := chk_job.1 h1
    rw [h1, bne_self_eq_false, cond_false]
    by_cases h2 : l.length = ps.length
    · rw [show ((l.length : Int) != (ps.length : Int)) = false by simp [h2], cond_false]
      have := sheets_loop n hn hj h2 n.1 0 (by omega) (by have := hj.len; omega) (by simp [mny])
      simp only [List.take_zero, List.drop_zero] at this
      rw [show lf sz [] [] = [] from rfl, show ((0 : Nat) : Int) = 0 from rfl, mny_nil] at this
      rw [this]
      congr 1
      by_cases h3 : oer 0 l = 0
      · have hov := over_iff hj h3
        rw [h3]
        unfold shOut
        rw [if_neg (by simp)]
        by_cases h4 : ∃ x ∈ l, sz < usd ps l x
        · rw [if_pos (hov.2 h4), shts_err (e := 15) (by unfold vld; rw [if_neg (by simpa using h1), if_neg (by simpa using h2), if_neg (by simpa using h3), if_pos h4]) (by omega)]
        · rw [if_neg (fun h => h4 (hov.1 h))]
          have e : vld sz ps l = 0 := by unfold vld; rw [if_neg (by simpa using h1), if_neg (by simpa using h2), if_neg (by simpa using h3), if_neg h4]
          unfold shts
          rw [e, if_neg (by simp)]
      · rw [shOut_err h3, shts_err (e := oer 0 l) (by unfold vld; rw [if_neg (by simpa using h1), if_neg (by simpa using h2), if_pos h3]) h3]
    · rw [show ((l.length : Int) != (ps.length : Int)) = true by simpa using (by omega : (l.length : Int) ≠ ps.length), cond_true, shts_err (e := 5) (by unfold vld; rw [if_neg (by simpa using h1), if_pos h2]) (by omega)]
  · rw [show (chk sz ps != 0) = true by simpa using h1, cond_true, shts_err (e := chk sz ps) (by unfold vld; rw [if_pos h1]) h1]
theorem Valid_eq {n : Nat × Nat} (hn : 1000 ≤ n.1) (sz : Int) (ps l : List Int) : D28 n sz ps l = some (vld sz ps l) := by
  unfold D28
  rw [sheets_eq hn, Option.bind_some]
  unfold shts
  split
  · rfl
  · rename_i h
    have h : vld sz ps l = 0 := by simpa using h
    rw [h]
theorem Left_eq {n : Nat × Nat} (hn : 1000 ≤ n.1) (sz : Int) (ps l : List Int) : D18 n sz ps l = some (shts sz ps l) := by
  unfold D18
  rw [sheets_eq hn, Option.bind_some]
theorem bounds_hi {k n : Nat} (h : k ≤ n) : bounds none (some (k : Int)) none n = true := by
  unfold bounds
  simp
  omega
/-- A plan that is one. -/
structure Pln (sz : Int) (ps l : List Int) : Prop where
  job : Job sz ps
  len : l.length = ps.length
  ord : oer 0 l = 0
  fit : ∀ x ∈ l, usd ps l x ≤ sz
theorem vld_pln {sz : Int} {ps l : List Int} : vld sz ps l = 0 ↔ Pln sz ps l := by
  unfold vld
  constructor
  · intro h
    split at h
    · omega
    · rename_i h1
      split at h
      · omega
      · rename_i h2
        split at h
        · omega
        · rename_i h3
          split at h
          · omega
          · rename_i h4
            refine ⟨chk_job.1 (by simpa using h1), by simpa using h2, by simpa using h3, fun x hx => ?_⟩
            have : ¬ sz < usd ps l x := fun hh => h4 ⟨x, hx, hh⟩
            omega
  · intro h
    rw [if_neg (by simpa using chk_job.2 h.job), if_neg (by simpa using h.len), if_neg (by simpa using h.ord), if_neg]
    rintro ⟨x, hx, h0⟩
    have := h.fit x hx
    omega
theorem oer_bnd : ∀ (l : List Int) (m : Int), 0 ≤ m → oer m l = 0 → (∀ x ∈ l, 0 ≤ x ∧ x < m + l.length) ∧ l.foldl (fun a s => max a (s + 1)) m ≤ m + l.length
  | [], m, _, _ => by simp
  | x :: l, m, hm, h => by
    unfold oer at h
    split at h
    · omega
    · split at h
      · omega
      · obtain ⟨h1, h2⟩ := oer_bnd l _ (by omega) h
        rw [List.foldl_cons, List.length_cons]
        refine ⟨fun y hy => ?_, by omega⟩
        rcases List.mem_cons.1 hy with rfl | hy
        · omega
        · have := h1 y hy
          omega
theorem Pln.rng {sz : Int} {ps l : List Int} (h : Pln sz ps l) : ∀ x ∈ l, 0 ≤ x ∧ x ≤ 100000 := fun x hx => by
  have := (oer_bnd l 0 (by omega) h.ord).1 x hx
  have := h.job.len
  have := h.len
  omega
theorem Pln.mny {sz : Int} {ps l : List Int} (h : Pln sz ps l) : mny l ≤ 8 := by
  have h1 := (oer_bnd l 0 (by omega) h.ord).2
  have := h.job.len
  have := h.len
  unfold Proofs.YtgmonagekfjnmaaDoor.mny
  omega
/-- The groups of a plan. -/
def grps (sz : Int) (ps l : List Int) : List (List Int) × Int := if vld sz ps l ≠ 0 then ([], vld sz ps l) else (grp l (mny l).toNat, 0)
theorem Groups_eq {n : Nat × Nat} (hn : 1000 ≤ n.1) (sz : Int) (ps l : List Int) : D20 n sz ps l = some (grps sz ps l) := by
  unfold D20 HF20 grps
  rw [sheets_eq hn, Option.bind_some]
  unfold shts
  by_cases h : vld sz ps l = 0
  · have hp := vld_pln.1 h
    have := hp.mny
    have hll := lf_len sz ps l
    rw [h, if_neg (by simp), if_neg (by simp)]
    simp only [bne_self_eq_false, cond_false]
    have e : (lf sz ps l).length = (mny l).toNat := by omega
    rw [e, decide_eq_true (show (mny l).toNat ≤ 1000000 by omega), decide_eq_true (show l.length ≤ 1000000 by have := hp.len; have := hp.job.len; omega)]
    have : (l.all fun s => decide (0 ≤ s) && decide (s < (((mny l).toNat : Nat) : Int))) = true := List.all_eq_true.2 fun s hs => by
      have h1 := hp.rng s hs
      have h2 := mny_lt hs
      simp
      omega
    rw [this]
    rfl
  · rw [if_pos h, if_pos h]
    simp only [show (vld sz ps l != 0) = true by simpa using h, cond_true]
/-- The groups' numbers, put where their pieces are: an error, or none, and what there is. -/
def pin (g : Int) : List Int → List Int → Int × List Int
  | [], out => (0, out)
  | x :: r, out => if x < 0 ∨ (out.length : Int) ≤ x then (2, out) else if 0 ≤ out.getD x.toNat 0 then (6, out) else pin g r (out.set x.toNat g)
def pot : Int → List (List Int) → List Int → Int × List Int
  | _, [], out => (0, out)
  | g, l :: r, out => if l = [] then (5, out) else if (pin g l out).1 ≠ 0 then pin g l out else pot (g + 1) r (pin g l out).2
theorem pin_len (g : Int) : ∀ (l out : List Int), (pin g l out).2.length = out.length
  | [], out => rfl
  | x :: r, out => by
    unfold pin
    split
    · rfl
    · split
      · rfl
      · rw [pin_len g r, List.length_set]
theorem pot_len : ∀ (gs : List (List Int)) (g : Int) (out : List Int), (pot g gs out).2.length = out.length
  | [], _, _ => rfl
  | l :: r, g, out => by
    unfold pot
    split
    · rfl
    · split
      · exact pin_len g l out
      · rw [pot_len r, pin_len]
/-- Numbers by their first places. -/
def tid : List Int → List Int → List Int
  | _, [] => []
  | met, x :: l => if x ∈ met then fnd (fun y => x == y) 0 met :: tid met l else (met.length : Int) :: tid (met ++ [x]) l
theorem tid_len : ∀ (l met : List Int), (tid met l).length = l.length
  | [], _ => rfl
  | x :: l, met => by
    unfold tid
    split <;> simp [tid_len l]
/-- What the program makes of it. -/
def plnOut (sz : Int) (ps : List Int) (r : Int × List Int) : List Int × Int :=
  if r.1 ≠ 0 then ([], r.1) else if -1 ∈ r.2 then ([], 5) else if vld sz ps (tid [] r.2) ≠ 0 then ([], vld sz ps (tid [] r.2)) else (tid [] r.2, 0)
theorem plnOut_err {sz : Int} {ps : List Int} {r : Int × List Int} (h : r.1 ≠ 0) : plnOut sz ps r = ([], r.1) := if_pos h
theorem find_loop (n : Nat × Nat) (l : List Int) (v : Int) (hs : l.length < 1000) : ∀ (m k : Nat), k ≤ l.length → l.length - k < m → DL95_1 n m l v (l.length : Int) (k : Int) = some (fnd (fun y => v == y) k (l.drop k))
  | 0, k, _, h => by omega
  | m + 1, k, hk, h => by
    rw [DL95_1_succ]
    unfold DF95_1
    by_cases hlt : k < l.length
    · have ih := find_loop n l v hs m (k + 1) (by omega) (by omega)
      rw [dlt_t hlt, cond_true, idx_nat hlt, Option.bind_some, wr_succ (by omega), ih, drop_cons hlt]
      generalize l.drop (k + 1) = t at *
      generalize l[k] = x at *
      unfold fnd
      by_cases e : v = x
      · subst e
        simp
      · rw [show (v == x) = false from beq_false_of_ne e]
        simp only [cond_false, Bool.false_eq_true, if_false]
        cases t <;> rfl
    · rw [dlt_f hlt, cond_false, List.drop_of_length_le (by omega)]
      rfl
theorem find_eq {n : Nat × Nat} (hn : 1000 ≤ n.1) (l : List Int) (v : Int) (hs : l.length < 900) : D95 n l v = some (fnd (fun y => v == y) 0 l) := by
  unfold D95
  have := find_loop n l v (by omega) n.1 0 (by omega) (by omega)
  simpa using this
theorem fnd_mem (v : Int) (l : List Int) : (0 ≤ fnd (fun y => v == y) 0 l) ↔ v ∈ l := by
  rw [fnd_ge]
  simp
theorem contains_eq {n : Nat × Nat} (hn : 1000 ≤ n.1) (l : List Int) (v : Int) (hs : l.length < 900) : D70 n l v = some (decide (v ∈ l)) := by
  unfold D70
  rw [find_eq hn l v hs, Option.bind_some]
  congr 1
  exact decide_eq_decide.2 (fnd_mem v l)
theorem tid_loop (n : Nat × Nat) (hn : 1000 ≤ n.1) (l : List Int) (hs : l.length < 800) : ∀ (m k : Nat) (met out : List Int), k ≤ l.length → l.length - k < m → met.length ≤ k → out.length = k →
    DL71_1 n m l (l.length : Int) (k : Int) met out = some (out ++ tid met (l.drop k))
  | 0, k, _, _, _, h, _, _ => by omega
  | m + 1, k, met, out, hk, h, h1, h2 => by
    rw [DL71_1_succ]
    unfold DF71_1
    by_cases hlt : k < l.length
    · rw [dlt_t hlt, cond_true, idx_nat hlt, Option.bind_some, find_eq hn met _ (by omega), Option.bind_some, drop_cons hlt]
      have hm := fnd_mem l[k] met
      unfold tid
      by_cases e : l[k] ∈ met
      · have hf : ¬ fnd (fun y => l[k] == y) 0 met < 0 := Int.not_lt.2 (hm.2 e)
        rw [if_pos e, decide_eq_false hf, cond_false, lim_dec (by omega), cond_true, wr_succ (by omega), tid_loop n hn l hs m (k + 1) _ _ (by omega) (by omega) (by omega) (by simp; omega), List.append_assoc, List.singleton_append]
      · have hf : fnd (fun y => l[k] == y) 0 met < 0 := Int.not_le.1 (fun h => e (hm.1 h))
        rw [if_neg e, decide_eq_true hf, cond_true, lim_dec (by omega), cond_true, lim_dec (by omega), cond_true, wr_succ (by omega), tid_loop n hn l hs m (k + 1) _ _ (by omega) (by omega) (by simp; omega) (by simp; omega), List.append_assoc, List.singleton_append]
    · rw [dlt_f hlt, cond_false, List.drop_of_length_le (by omega)]
      simp [tid]
theorem tid_eq {n : Nat × Nat} (hn : 1000 ≤ n.1) (l : List Int) (hs : l.length < 800) : D71 n l = some (tid [] l) := by
  unfold D71
  have := tid_loop n hn l hs n.1 0 [] [] (by omega) (by omega) (by simp) (by simp)
  simpa using this
def pinK (K : List Int → Option R22) (r : Int × List Int) : Option R22 := if r.1 ≠ 0 then some ([], r.1) else K r.2
theorem pinK_err {K : List Int → Option R22} {r : Int × List Int} (h : r.1 ≠ 0) : pinK K r = some ([], r.1) := if_pos h
theorem pinK_ok {K : List Int → Option R22} {r : Int × List Int} (h : r.1 = 0) : pinK K r = K r.2 := if_neg (by simpa using h)
theorem pin_loop (n : Nat × Nat) (f1 : Int → List Int → List (List Int) → Int → Int → List Int → Option R22) (sz : Int) {ps : List Int} (g : Int) (v25 : List (List Int)) (v26 v27 : Int) (l : List Int) (hl : l.length < 1000) : ∀ (m k : Nat) (out : List Int), k ≤ l.length → l.length - k < m → out.length = ps.length →
    DL22_2 n f1 m sz ps g v25 v26 v27 l (l.length : Int) (k : Int) out = pinK (fun o => f1 sz ps v25 v26 (wr .i64 (v27 + 1)) o) (pin g (l.drop k) out)
  | 0, k, _, _, h, _ => by omega
  | m + 1, k, out, hk, h, ho => by
    rw [DL22_2_succ]
    unfold DF22_2
    by_cases hlt : k < l.length
    · have ih := fun out (ho : out.length = ps.length) => pin_loop n f1 sz g v25 v26 v27 l hl m (k + 1) out (by omega) (by omega) ho
      rw [dlt_t hlt, cond_true, idx_nat hlt, Option.bind_some, drop_cons hlt]
      unfold pin
      generalize l[k] = x at *
      by_cases e1 : x < 0
      · rw [if_pos (Or.inl e1), pinK_err (by simp), decide_eq_true e1]
        rfl
      · rw [decide_eq_false e1, ← ho]
        by_cases e2 : (out.length : Int) ≤ x
        · rw [if_pos (Or.inr e2), pinK_err (by simp), decide_eq_true (show x ≥ (out.length : Int) from e2)]
          rfl
        · rw [if_neg (by omega), decide_eq_false (show ¬ x ≥ (out.length : Int) from e2)]
          have hx : x = (x.toNat : Int) := by omega
          have hxl : x.toNat < out.length := by omega
          have hin : inB x out.length = true := by rw [hx]; exact inB_nat hxl
          simp only [beq_self_eq_true, cond_true, Option.bind_some, cond_false]
          rw [hin, cond_true, idx_int hx hxl, Option.bind_some, cond_true, Option.bind_some, List.getD_eq_getElem?_getD, List.getElem?_eq_getElem hxl, Option.getD_some]
          by_cases e3 : 0 ≤ out[x.toNat]
          · rw [if_pos e3, pinK_err (by simp), decide_eq_true (show out[x.toNat] ≥ 0 from e3)]
            rfl
          · rw [if_neg e3, decide_eq_false (show ¬ out[x.toNat] ≥ 0 from e3), cond_false, wr_succ (by omega), ih _ (by rw [List.length_set]; exact ho)]
    · rw [dlt_f hlt, cond_false, List.drop_of_length_le (by omega)]
      unfold pin
      rw [pinK_ok rfl]
theorem pot_loop (n : Nat × Nat) (hn : 1000 ≤ n.1) {sz : Int} {ps : List Int} (hj : Job sz ps) (gs : List (List Int)) (hs : gs.length ≤ 40) (hb : ∀ l ∈ gs, l.length ≤ 40) : ∀ (m k : Nat) (out : List Int), k ≤ gs.length → gs.length - k < m → out.length = ps.length →
    DL22_1 n m sz ps gs (gs.length : Int) (k : Int) out = some (plnOut sz ps (pot (k : Int) (gs.drop k) out))
  | 0, k, _, _, h, _ => by omega
  | m + 1, k, out, hk, h, ho => by
    have h8 := hj.len
    rw [DL22_1_succ]
    unfold DF22_1
    by_cases hlt : k < gs.length
    · have hlk := hb _ (List.getElem_mem hlt)
      have ih := fun out (ho : out.length = ps.length) => pot_loop n hn hj gs hs hb m (k + 1) out (by omega) (by omega) ho
      rw [dlt_t hlt, cond_true, idx_nat hlt, Option.bind_some, drop_cons hlt]
      unfold pot
      generalize gs[k] = l at *
      by_cases e1 : l = []
      · rw [if_pos e1, show ((l.length : Int) == 0) = true by simp [e1], cond_true, plnOut_err (by simp)]
      · have hl0 : l.length ≠ 0 := fun h => e1 (List.eq_nil_of_length_eq_zero h)
        have hp := pin_loop n (DL22_1 n m) sz (ps := ps) (k : Int) gs (gs.length : Int) (k : Int) l (by omega) n.1 0 out (by omega) (by omega) ho
        rw [List.drop_zero] at hp
        rw [if_neg e1, show ((l.length : Int) == 0) = false from beq_false_of_ne (by omega), cond_false]
        refine (show DL22_2 n (DL22_1 n m) n.1 sz ps (k : Int) gs (gs.length : Int) (k : Int) l (l.length : Int) 0 out = _ from hp).trans ?_
        by_cases e2 : (pin (k : Int) l out).1 = 0
        · rw [pinK_ok e2, if_neg (by simpa using e2), wr_succ (by omega), ih _ (by rw [pin_len]; exact ho)]
          rw [show ((k + 1 : Nat) : Int) = (k : Int) + 1 by omega]
        · rw [pinK_err e2, if_pos e2, plnOut_err e2]
    · rw [dlt_f hlt, cond_false, List.drop_of_length_le (by omega), contains_eq hn out _ (by omega), Option.bind_some]
      unfold pot plnOut
      rw [if_neg (by simp)]
      by_cases e1 : -1 ∈ out
      · rw [decide_eq_true e1, cond_true, if_pos e1]
      · rw [decide_eq_false e1, cond_false, if_neg e1, tid_eq hn out (by omega), Option.bind_some, Valid_eq hn, Option.bind_some]
        by_cases e2 : vld sz ps (tid [] out) = 0
        · rw [e2, bne_self_eq_false, cond_false, if_neg (by simp)]
        · rw [show (vld sz ps (tid [] out) != 0) = true by simpa using e2, cond_true, if_pos e2]
theorem rep_eq : ∀ k ≤ 8, D69 N [-1] ((k : Nat) : Int) = some (List.replicate k (-1))
  | 0, _ => by kernel_rfl
  | 1, _ => by kernel_rfl
  | 2, _ => by kernel_rfl
  | 3, _ => by kernel_rfl
  | 4, _ => by kernel_rfl
  | 5, _ => by kernel_rfl
  | 6, _ => by kernel_rfl
  | 7, _ => by kernel_rfl
  | 8, _ => by kernel_rfl
  | k + 9, h => by omega
def plnS (sz : Int) (ps : List Int) (gs : List (List Int)) : List Int × Int := if chk sz ps ≠ 0 then ([], chk sz ps) else plnOut sz ps (pot 0 gs (List.replicate ps.length (-1)))
theorem Plan_eq (sz : Int) (ps : List Int) (gs : List (List Int)) (hs : gs.length ≤ 40) (hb : ∀ l ∈ gs, l.length ≤ 40) : D22 N sz ps gs = some (plnS sz ps gs) := by
  unfold D22 plnS
  rw [Check_eq hN1, Option.bind_some]
  by_cases h : chk sz ps = 0
  · have hj := chk_job.1 h
    rw [h, bne_self_eq_false, cond_false, if_neg (by simp), rep_eq _ hj.len, Option.bind_some]
    have := pot_loop N hN1 hj gs hs hb N.1 0 (List.replicate ps.length (-1)) (by omega) (by have : N.1 = 1000000 := rfl; omega) (by simp)
    simpa using this
  · rw [show (chk sz ps != 0) = true by simpa using h, cond_true, if_pos h]
end Go.Proofs.YtgmonagekfjnmaaDoor
/-
  Sheets: the search, for any function that is handed plans.
-/
set_option linter.unusedVariables false
set_option linter.unusedSimpArgs false
namespace Go.Proofs.YtgmonagekfjnmaaDoor
open Go.Vi
/-! All plans with at most so many sheets that begin with some numbers, in ascending order. -/
def rm (sz : Int) (L : List Int) (s : Nat) : Int := L.getD s sz
def up (sz : Int) (L : List Int) (s : Nat) (p : Int) : List Int := (if s = L.length then L ++ [sz] else L).set s (rm sz L s - p)
def pl (sz : Int) (mo : Nat) : List Int → List Int → List Int → List (List Int)
  | [], b, _ => [b]
  | p :: r, b, L => (List.range' 0 (min (L.length + 1) mo)).flatMap fun s => if p ≤ rm sz L s then pl sz mo r (b ++ [(s : Int)]) (up sz L s p) else []
/-! The search's three places. -/
section
variable {V : Type}
abbrev SR (V : Type) := Unit × V × Unit
abbrev FN (V : Type) := Int → List Int → Int → Int → V → List Int → List Int → Option (SR V)
theorem up_len {sz : Int} {L : List Int} {s : Nat} (p : Int) (h1 : s ≤ L.length) : (up sz L s p).length = max L.length (s + 1) := by
  unfold up
  rw [List.length_set]
  split
  · simp; omega
  · omega
theorem rm_get {sz : Int} {L : List Int} {s : Nat} (hs : s < L.length) : rm sz L s = L[s] := by unfold rm; rw [List.getD_eq_getElem?_getD, List.getElem?_eq_getElem hs, Option.getD_some]
theorem up_get {sz : Int} {L : List Int} {s i : Nat} (p : Int) (hi : i < (up sz L s p).length) : (up sz L s p)[i] = if s = i then rm sz L s - p else rm sz L i := by
  unfold up at hi ⊢
  rw [List.getElem_set]
  split
  · rfl
  · rename_i hne
    rw [List.length_set] at hi
    split
    · rename_i he
      simp only [if_pos he, List.length_append, List.length_cons, List.length_nil] at hi
      rw [List.getElem_append_left (by omega)]
      exact (rm_get _).symm
    · rename_i he
      simp only [if_neg he] at hi
      exact (rm_get _).symm
theorem up_mem {sz : Int} {L : List Int} {s : Nat} {p : Int} (h1 : s ≤ L.length) : ∀ x ∈ up sz L s p, x = rm sz L s - p ∨ x ∈ L := fun x hx => by
  obtain ⟨i, hi, e⟩ := List.getElem_of_mem hx
  have hl := up_len (sz := sz) p h1
  rw [up_get p hi] at e
  split at e
  · exact .inl e.symm
  · rename_i hne
    right
    rw [rm_get (by omega)] at e
    rw [← e]
    exact List.getElem_mem _
theorem rm_rng {sz : Int} {L : List Int} (hL : ∀ x ∈ L, 0 ≤ x ∧ x < sz) (h : 0 ≤ sz) (s : Nat) : 0 ≤ rm sz L s ∧ rm sz L s ≤ sz := by
  unfold rm
  by_cases hs : s < L.length
  · rw [List.getD_eq_getElem?_getD, List.getElem?_eq_getElem hs, Option.getD_some]
    have := hL _ (List.getElem_mem hs)
    omega
  · rw [List.getD_eq_getElem?_getD, List.getElem?_eq_none (by omega), Option.getD_none]
    omega
theorem up_rng {sz : Int} {L : List Int} {s : Nat} {p : Int} (hL : ∀ x ∈ L, 0 ≤ x ∧ x < sz) (h : 0 ≤ sz) (h1 : s ≤ L.length) (hp : 1 ≤ p) (hf : p ≤ rm sz L s) : ∀ x ∈ up sz L s p, 0 ≤ x ∧ x < sz := fun x hx => by
  have := rm_rng hL h s
  rcases up_mem h1 x hx with e | e
  · omega
  · exact hL x e
/-! The loop over the sheets for one piece. -/
structure SI (sz : Int) (mo : Nat) (ps : List Int) (b L : List Int) : Prop where
  job : Job sz ps
  le : b.length ≤ ps.length
  lm : L.length ≤ mo
  lb : L.length ≤ b.length
  rng : ∀ x ∈ L, 0 ≤ x ∧ x < sz
  mo : mo ≤ 1000
theorem SI.child {sz : Int} {mo : Nat} {ps b L : List Int} (h : SI sz mo ps b L) (hb : b.length < ps.length) {s : Nat} (h1 : s ≤ L.length) (h2 : s < mo) (hf : ps[b.length] ≤ rm sz L s) : SI sz mo ps (b ++ [(s : Int)]) (up sz L s ps[b.length]) := by
  have hl := up_len (sz := sz) ps[b.length] h1
  have := h.lm
  have := h.lb
  have := h.job.lo
  have hp := h.job.ok _ (List.getElem_mem hb)
  exact ⟨h.job, by simp; omega, by omega, by simp; omega, up_rng h.rng (by omega) h1 hp.1 hf, h.mo⟩
variable {b1 x1 f2 : FN V} {sz : Int} {mo : Nat} {ps b L : List Int}
/-! All of it. -/
variable {C : List Int → V → Option (Bool × List Int × V × Unit)} {c : List Int → V → Bool × V} {q0 : Nat}
end
end Go.Proofs.YtgmonagekfjnmaaDoor
set_option linter.unusedVariables false
set_option linter.unusedSimpArgs false
set_option maxRecDepth 100000
namespace Go.Proofs.YtgmonagekfjnmaaDoor
open Go.Vi
noncomputable def c5 : Code := bodyOf Tryd.f5
/-D 99 -/
/-D 83 -/
/-D 35 -/
/-D 37 -/
/-D 39 -/
/-D 5 -/
end Go.Proofs.YtgmonagekfjnmaaDoor
set_option linter.unusedVariables false
set_option linter.unusedSimpArgs false
namespace Go.Proofs.YtgmonagekfjnmaaDoor
open Go.Vi
/-! How many plans there are at most. -/
/-- What begins a plan. -/
structure Rs (sz : Int) (ps b L : List Int) : Prop where
  job : Job sz ps
  le : b.length ≤ ps.length
  nn : ∀ x ∈ b, 0 ≤ x
  my : mny b ≤ b.length
  left : L = lf sz (ps.take b.length) b
theorem Rs.len {sz : Int} {ps b L : List Int} (h : Rs sz ps b L) : (L.length : Int) = mny b := by rw [h.left]; exact lf_len _ _ _
theorem Rs.rm {sz : Int} {ps b L : List Int} (h : Rs sz ps b L) {s : Nat} (hs : s ≤ L.length) : rm sz L s = sz - usd (ps.take b.length) b s := by
  have hl := h.len
  by_cases e : s < L.length
  · rw [rm_get e]
    have := h.left
    subst this
    exact lf_get e
  · unfold Proofs.YtgmonagekfjnmaaDoor.rm
    rw [List.getD_eq_getElem?_getD, List.getElem?_eq_none (by omega), Option.getD_none, usd_none (fun hm => by have := mny_lt hm; omega)]
    omega
theorem Rs.child {sz : Int} {ps b L : List Int} (h : Rs sz ps b L) (hb : b.length < ps.length) {s : Nat} (hs : s ≤ L.length) : Rs sz ps (b ++ [(s : Int)]) (up sz L s ps[b.length]) := by
  have hl := h.len
  have hmy := h.my
  refine ⟨h.job, by simp; omega, fun x hx => ?_, ?_, ?_⟩
  · rcases List.mem_append.1 hx with hx | hx
    · exact h.nn x hx
    · rw [List.mem_singleton.1 hx]; omega
  · rw [mny_snoc, List.length_append]
    simp only [List.length_cons, List.length_nil]
    omega
  · have := lf_step sz ps[b.length] (s : Int) (ps := ps.take b.length) (l := b) (by simp; omega) (by omega) (by omega)
    rw [← take_snoc hb, ← h.left, ← h.rm hs] at this
    rw [List.length_append, List.length_singleton, this]
    unfold up
    rw [Int.toNat_natCast]
    by_cases e : s = L.length
    · rw [if_pos e, if_pos (by omega)]
    · rw [if_neg e, if_neg (by omega)]
theorem Rs.nil {sz : Int} {ps : List Int} (h : Job sz ps) : Rs sz ps [] [] := ⟨h, by simp, by simp, by simp [mny], rfl⟩
/-! The reference's plans. -/
/-! Plans by their number of sheets. -/
theorem pl_pre {sz : Int} {mo : Nat} : ∀ (r b L q : List Int), q ∈ pl sz mo r b L → ∃ t, t.length = r.length ∧ q = b ++ t
  | [], b, L, q, h => ⟨[], rfl, by simpa [pl] using h⟩
  | p :: r, b, L, q, h => by
    unfold pl at h
    obtain ⟨s, _, hq⟩ := List.mem_flatMap.1 h
    split at hq
    · obtain ⟨t, ht, e⟩ := pl_pre r _ _ q hq
      exact ⟨(s : Int) :: t, by simp [ht], by rw [e]; simp⟩
    · simp at hq
/-- All plans with at most so many sheets. -/
def apl (sz : Int) (ps : List Int) (mo : Nat) : List (List Int) := pl sz mo ps [] []
def fwg (f : Nat → Bool) : Nat → Nat → Nat
  | 0, k => k
  | d + 1, k => if f k then k else fwg f d (k + 1)
/-- The fewest sheets. -/
def fw (sz : Int) (ps : List Int) : Nat := fwg (fun k => !(apl sz ps k).isEmpty) ps.length 0
theorem apl_qlen {sz : Int} {ps : List Int} {mo : Nat} {q : List Int} (h : q ∈ apl sz ps mo) : q.length = ps.length := by
  obtain ⟨t, ht, e⟩ := pl_pre ps [] [] q h
  rw [e, List.nil_append, ht]
theorem usd_app (s : Int) : ∀ (a a' l l' : List Int), a.length = l.length → usd (a ++ a') (l ++ l') s = usd a l s + usd a' l' s
  | [], a', [], l', _ => by simp [usd]
  | p :: a, a', x :: l, l', h => by
    simp only [List.cons_append, usd]
    rw [usd_app s a a' l l' (by simpa using h)]
    omega
  | [], _, _ :: _, _, h => by simp at h
  | _ :: _, _, [], _, h => by simp at h
def okT (sz : Int) (mo : Nat) : List Int → List Int → List Int → Prop
  | _, [], t => t = []
  | L, p :: r, t => ∃ (s : Nat) (t' : List Int), t = (s : Int) :: t' ∧ s ≤ L.length ∧ s < mo ∧ p ≤ rm sz L s ∧ okT sz mo (up sz L s p) r t'
theorem mem_pl {sz : Int} {mo : Nat} : ∀ (r b L q : List Int), q ∈ pl sz mo r b L ↔ ∃ t, q = b ++ t ∧ okT sz mo L r t
  | [], b, L, q => by
    unfold pl okT
    simp
  | p :: r, b, L, q => by
    unfold pl okT
    rw [List.mem_flatMap]
    constructor
    · rintro ⟨s, hs, hq⟩
      have hs := List.mem_range'_1.1 hs
      split at hq
      · rename_i hf
        obtain ⟨t, ht, hk⟩ := (mem_pl r _ _ q).1 hq
        exact ⟨(s : Int) :: t, by rw [ht]; simp, s, t, rfl, by omega, by omega, hf, hk⟩
      · cases hq
    · rintro ⟨t, ht, s, t', rfl, h1, h2, hf, hk⟩
      refine ⟨s, List.mem_range'_1.2 (by omega), ?_⟩
      rw [if_pos hf]
      exact (mem_pl r _ _ q).2 ⟨t', by rw [ht]; simp, hk⟩
theorem okT_iff {sz : Int} {ps : List Int} {mo : Nat} (hj : Job sz ps) : ∀ (r b L t : List Int), Rs sz ps b L → ps.drop b.length = r → (∀ x, usd (ps.take b.length) b x ≤ sz) → mny b ≤ mo → t.length = r.length →
    (okT sz mo L r t ↔ oer (mny b) t = 0 ∧ (∀ x, usd ps (b ++ t) x ≤ sz) ∧ mny (b ++ t) ≤ mo)
  | [], b, L, t, h, hr, hu, hm, ht => by
    have : t = [] := List.length_eq_zero_iff.1 (by simpa using ht)
    subst this
    have hle := h.le
    have hb : b.length = ps.length := by have := List.drop_eq_nil_iff.1 hr; omega
    rw [hb, List.take_length] at hu
    unfold okT oer
    rw [List.append_nil]
    exact ⟨fun _ => ⟨rfl, hu, hm⟩, fun _ => rfl⟩
  | p :: r, b, L, [], h, hr, hu, hm, ht => by simp at ht
  | p :: r, b, L, x :: t, h, hr, hu, hm, ht => by
    have hb : b.length < ps.length := by
      rcases Nat.lt_or_ge b.length ps.length with h | h
      · exact h
      · rw [List.drop_eq_nil_of_le h] at hr; cases hr
    have hp : ps[b.length] = p ∧ ps.drop (b.length + 1) = r := by
      rw [drop_cons hb] at hr
      exact ⟨(List.cons.inj hr).1, (List.cons.inj hr).2⟩
    obtain ⟨hp1, hp2⟩ := hp
    have hlen := h.len
    have hpr := hj.ok _ (List.getElem_mem hb)
    rw [hp1] at hpr
    have hut : ∀ s : Int, usd (ps.take (b.length + 1)) (b ++ [x]) s = usd (ps.take b.length) b s + if x = s then p else 0 := fun s => by
      rw [take_snoc hb, usd_snoc _ _ _ (by simp; omega), hp1]
    have hps : ps = ps.take (b.length + 1) ++ r := by rw [← hp2, List.take_append_drop]
    have hut2 : ∀ s : Int, usd ps (b ++ x :: t) s = usd (ps.take (b.length + 1)) (b ++ [x]) s + usd r t s := fun s => by
      have := usd_app s (ps.take (b.length + 1)) r (b ++ [x]) t (by simp; omega)
      rw [← hps, List.append_assoc, List.singleton_append] at this
      exact this
    have hnn : ∀ s : Int, 0 ≤ usd r t s := fun s => usd_nn (fun q hq => by
      rw [← hp2] at hq
      have := hj.ok q (List.mem_of_mem_drop hq)
      omega)
    have main : ∀ s : Nat, x = (s : Int) → s ≤ L.length → p ≤ rm sz L s → s < mo → (okT sz mo (up sz L s p) r t ↔ oer (mny (b ++ [x])) t = 0 ∧ (∀ y, usd ps ((b ++ [x]) ++ t) y ≤ sz) ∧ mny ((b ++ [x]) ++ t) ≤ mo) := by
      intro s hs h1 hf h2
      subst hs
      have hc := h.child hb h1
      rw [hp1] at hc
      refine okT_iff hj r (b ++ [(s : Int)]) (up sz L s p) t hc (by simp only [List.length_append, List.length_cons, List.length_nil]; exact hp2) (fun y => ?_) (by rw [mny_snoc]; omega) (by simpa using ht)
      rw [List.length_append, List.length_singleton, hut y]
      by_cases e : (s : Int) = y
      · rw [if_pos e, ← e]
        have := h.rm h1
        omega
      · rw [if_neg e]
        have := hu y
        omega
    unfold okT oer
    constructor
    · rintro ⟨s, t', he, h1, h2, hf, hk⟩
      obtain ⟨hx, rfl⟩ := List.cons.inj he
      obtain ⟨m1, m2, m3⟩ := (main s hx h1 hf h2).1 hk
      rw [List.append_assoc, List.singleton_append] at m3
      simp only [List.append_assoc, List.singleton_append] at m2
      rw [if_neg (by omega), if_neg (by omega)]
      rw [mny_snoc] at m1
      exact ⟨m1, m2, m3⟩
    · rintro ⟨m1, m2, m3⟩
      split at m1
      · omega
      · split at m1
        · omega
        · rename_i hx0 hx1
          have hmx : x < mny (b ++ x :: t) := mny_lt (by simp)
          have h1 : x.toNat ≤ L.length := by omega
          have hf : p ≤ rm sz L x.toNat := by
            have e1 := m2 x
            rw [hut2 x, hut x, if_pos rfl] at e1
            have e2 := hnn x
            rw [h.rm h1, show ((x.toNat : Nat) : Int) = x by omega]
            omega
          refine ⟨x.toNat, t, by rw [show ((x.toNat : Nat) : Int) = x by omega], h1, by omega, hf, ?_⟩
          refine (main x.toNat (by omega) h1 hf (by omega)).2 ⟨?_, ?_, ?_⟩
          · rw [mny_snoc]; exact m1
          · simp only [List.append_assoc, List.singleton_append]; exact m2
          · rw [List.append_assoc, List.singleton_append]; exact m3
theorem apl_iff {sz : Int} {ps : List Int} {mo : Nat} (hj : Job sz ps) {q : List Int} : q ∈ apl sz ps mo ↔ Pln sz ps q ∧ mny q ≤ mo := by
  unfold apl
  have hlo := hj.lo
  rw [mem_pl]
  constructor
  · rintro ⟨t, ht, hk⟩
    rw [List.nil_append] at ht
    subst ht
    have hl : q.length = ps.length := apl_qlen (mo := mo) (sz := sz) (by unfold apl; exact (mem_pl ps [] [] q).2 ⟨q, by simp, hk⟩)
    obtain ⟨h1, h2, h3⟩ := (okT_iff hj ps [] [] q (Rs.nil hj) rfl (fun x => by simp [usd]; omega) (by rw [mny_nil]; omega) hl).1 hk
    exact ⟨⟨hj, hl, h1, fun x _ => h2 x⟩, h3⟩
  · rintro ⟨hp, hm⟩
    refine ⟨q, by simp, ?_⟩
    refine (okT_iff hj ps [] [] q (Rs.nil hj) rfl (fun x => by simp [usd]; omega) (by rw [mny_nil]; omega) hp.len).2 ⟨hp.ord, fun x => ?_, hm⟩
    rw [List.nil_append]
    by_cases hx : x ∈ q
    · exact hp.fit x hx
    · rw [usd_none hx]; omega
/-- The first plan with the fewest sheets. -/
def fst (sz : Int) (ps : List Int) : List Int := (apl sz ps (fw sz ps)).headD []
/-- A piece's length. -/
def pc (l : List Int) (i : Int) : Int := l.getD i.toNat 0
theorem idx_pc {l : List Int} {i : Int} (h0 : 0 ≤ i) (h1 : i < l.length) : idx l i = some (pc l i) := by
  rw [idx_int (k := i.toNat) (by omega) (by omega)]
  simp [pc, show i.toNat < l.length by omega]
theorem pc_mem {l : List Int} {i : Int} (h0 : 0 ≤ i) (h1 : i < l.length) : pc l i ∈ l := by
  unfold pc
  rw [List.getD_eq_getElem?_getD, List.getElem?_eq_getElem (by omega), Option.getD_some]
  exact List.getElem_mem _
theorem idx_at {α : Type} {A r : List α} {y : α} {k : Nat} (h : A.length = k) : idx (A ++ y :: r) (k : Int) = some y := by
  rw [idx_nat (by simp; omega)]
  simp [← h]
theorem set_at {α : Type} {A r : List α} {y z : α} {k : Nat} (h : A.length = k) : (A ++ y :: r).set k z = A ++ z :: r := by
  subst h
  induction A with
  | nil => rfl
  | cons a A ih => simp only [List.cons_append, List.length_cons, List.set_cons_succ, ih]
end Go.Proofs.YtgmonagekfjnmaaDoor
set_option linter.unusedVariables false
set_option linter.unusedSimpArgs false
set_option maxRecDepth 100000
namespace Go.Proofs.YtgmonagekfjnmaaDoor
open Go.Vi
/-D 41 -/
/-D 88 -/
/-D 43 -/
/-D 45 -/
/-D 47 -/
/-D 6 -/
end Go.Proofs.YtgmonagekfjnmaaDoor
set_option linter.unusedVariables false
set_option linter.unusedSimpArgs false
namespace Go.Proofs.YtgmonagekfjnmaaDoor
open Go.Vi
/-! Bounds. -/
/-- Each one divides the one before it. -/
def Chn : Int → List Int → Prop
  | _, [] => True
  | s, p :: r => s % p = 0 ∧ Chn p r
instance Chn.dec : ∀ (s : Int) (l : List Int), Decidable (Chn s l)
  | _, [] => .isTrue trivial
  | s, p :: r => by
    unfold Chn
    have := Chn.dec p r
    exact inferInstance
/-- Lengths are a chain. -/
def Cmp (x y : Int) : Prop := x % y = 0 ∨ y % x = 0
def IsC (sz : Int) (ps : List Int) : Prop := (∀ p ∈ ps, sz % p = 0) ∧ ps.Pairwise Cmp
instance (x y : Int) : Decidable (Cmp x y) := inferInstanceAs (Decidable (_ ∨ _))
instance (sz : Int) (ps : List Int) : Decidable (IsC sz ps) := inferInstanceAs (Decidable (_ ∧ _))
theorem tmod_mod {a b : Int} (h : 0 ≤ a) : Int.tmod a b = a % b := Int.tmod_eq_emod_of_nonneg h
end Go.Proofs.YtgmonagekfjnmaaDoor
set_option linter.unusedVariables false
set_option linter.unusedSimpArgs false
set_option maxRecDepth 100000
namespace Go.Proofs.YtgmonagekfjnmaaDoor
open Go.Vi
/-D 50 -/
/-D 91io00111 -/
/-D 101f91io001110 -/
/-D 90c91io001 -/
/-D 52 -/
/-D 7 -/
end Go.Proofs.YtgmonagekfjnmaaDoor
set_option linter.unusedVariables false
set_option linter.unusedSimpArgs false
namespace Go.Proofs.YtgmonagekfjnmaaDoor
open Go.Vi
/-! Numbers by their first places. -/
def dd : List Int → List Int → List Int
  | met, [] => met
  | met, x :: l => dd (if x ∈ met then met else met ++ [x]) l
theorem dd_snoc (x : Int) : ∀ (l met : List Int), dd met (l ++ [x]) = if x ∈ dd met l then dd met l else dd met l ++ [x]
  | [], met => rfl
  | y :: l, met => dd_snoc x l _
theorem dd_pre : ∀ (l met : List Int), ∃ s, dd met l = met ++ s
  | [], met => ⟨[], by simp [dd]⟩
  | y :: l, met => by
    unfold dd
    obtain ⟨s, hs⟩ := dd_pre l (if y ∈ met then met else met ++ [y])
    split at hs
    · rename_i h
      exact ⟨s, by rw [if_pos h]; exact hs⟩
    · rename_i h
      exact ⟨y :: s, by rw [if_neg h, hs]; simp⟩
theorem dd_mem (x : Int) : ∀ (l met : List Int), x ∈ dd met l ↔ x ∈ met ∨ x ∈ l
  | [], met => by simp [dd]
  | y :: l, met => by
    unfold dd
    rw [dd_mem x l]
    split
    · rename_i h
      constructor
      · rintro (h1 | h1)
        · exact .inl h1
        · exact .inr (by simp [h1])
      · rintro (h1 | h1)
        · exact .inl h1
        · rcases List.mem_cons.1 h1 with rfl | h1
          · exact .inl h
          · exact .inr h1
    · simp only [List.mem_append, List.mem_cons, List.not_mem_nil, or_false, or_assoc]
def ps0 (x : Int) (l : List Int) : Int := fnd (fun y => x == y) 0 l
theorem fnd_app {x : Int} : ∀ {a : List Int} (b : List Int) (k : Nat), x ∈ a → fnd (fun y => x == y) k (a ++ b) = fnd (fun y => x == y) k a
  | [], _, _, h => by simp at h
  | y :: a, b, k, h => by
    simp only [List.cons_append, fnd]
    by_cases e : x = y
    · simp [e]
    · rw [if_neg (by simpa using e), if_neg (by simpa using e), fnd_app b (k + 1) ((List.mem_cons.1 h).resolve_left e)]
theorem fnd_new {x : Int} : ∀ {a : List Int} (b : List Int) (k : Nat), x ∉ a → fnd (fun y => x == y) k (a ++ x :: b) = k + a.length
  | [], b, k, _ => by simp [fnd]
  | y :: a, b, k, h => by
    simp only [List.mem_cons, not_or] at h
    simp only [List.cons_append, fnd]
    rw [if_neg (by simpa using h.1), fnd_new b (k + 1) h.2]
    simp only [List.length_cons]
    omega
theorem fnd_lt {x : Int} {a : List Int} (h : x ∈ a) : 0 ≤ ps0 x a ∧ ps0 x a < a.length := by
  unfold ps0
  have h1 := (fnd_mem x a).2 h
  rcases fnd_bnd (fun y => x == y) a 0 with ⟨h2, _⟩ | ⟨h2, h3, _⟩
  · omega
  · omega
theorem tid_map : ∀ (l met : List Int), tid met l = l.map fun x => ps0 x (dd met l)
  | [], met => rfl
  | x :: l, met => by
    unfold tid dd
    split
    · rename_i h
      rw [tid_map l, List.map_cons]
      congr 1
      obtain ⟨s, hs⟩ := dd_pre l met
      unfold ps0
      rw [hs, fnd_app s 0 h]
    · rename_i h
      rw [tid_map l, List.map_cons]
      congr 1
      obtain ⟨s, hs⟩ := dd_pre l (met ++ [x])
      unfold ps0
      rw [hs, List.append_assoc, List.singleton_append, fnd_new s 0 h]
      simp
theorem dd_take (l : List Int) : ∀ k, ∃ s, dd [] l = dd [] (l.take k) ++ s := fun k => by
  have : ∀ (a b met : List Int), dd met (a ++ b) = dd (dd met a) b := by
    intro a
    induction a with
    | nil => intro b met; rfl
    | cons y a ih => intro b met; exact ih b _
  have e := this (l.take k) (l.drop k) []
  rw [List.take_append_drop] at e
  rw [e]
  exact dd_pre _ _
theorem tid_mny (l : List Int) : ∀ k ≤ l.length, mny ((tid [] l).take k) = (dd [] (l.take k)).length
  | 0, _ => by simp [mny, dd]
  | k + 1, hk => by
    have ih := tid_mny l k (by omega)
    have hlt : k < l.length := by omega
    have hlt2 : k < (tid [] l).length := by rw [tid_len]; exact hlt
    rw [take_snoc hlt2, mny_snoc, ih, take_snoc hlt, dd_snoc]
    have e : (tid [] l)[k] = ps0 l[k] (dd [] l) := by simp [tid_map]
    rw [e]
    obtain ⟨s, hs⟩ := dd_take l k
    by_cases h : l[k] ∈ dd [] (l.take k)
    · rw [if_pos h]
      unfold ps0
      rw [hs, fnd_app s 0 h]
      have := fnd_lt h
      unfold ps0 at this
      omega
    · rw [if_neg h]
      obtain ⟨s2, hs2⟩ := dd_take l (k + 1)
      rw [take_snoc hlt, dd_snoc, if_neg h] at hs2
      unfold ps0
      rw [hs2, List.append_assoc, List.singleton_append, fnd_new s2 0 h]
      simp only [List.length_append, List.length_cons, List.length_nil]
      omega
/-! The reference's reading of groups. -/
end Go.Proofs.YtgmonagekfjnmaaDoor
