/- Texts of this claim, joined: G100 to Tf. -/
import Derived.KernelRfl
import Derived.Test.YtgmonagekfjnmaaDoorProg
import Derived.WalkKit
import Derived.Test.YtgmonagekfjnmaaDoorP6
set_option linter.unusedVariables false
set_option linter.unusedSimpArgs false
set_option maxRecDepth 100000
namespace Go.Proofs.YtgmonagekfjnmaaDoor
open Go.Vi
abbrev R100 := Bool
noncomputable def c100 : Code := bodyOf Tryd.f100
noncomputable def an100 : Ann := (.s .l (.s (.s .l (.j [] (.j [0, 3] (.s (.s .l (.j [0, 3] .l .l)) (.s (.j [0, 3] (.s .l (.j [0, 3] .l .l)) .l) .l)) .l) .l)) .l))
def pk100 : List PK := [.c (.int .i64)]
def rk100 : List RK := [.c .bool 2]
noncomputable def rt100 (st : St) : Option R100 := rtG rk100 st
noncomputable def E100 (n : Nat × Nat) : Env := { T := tab, phi := noPhi, eff := fun _ => false, fuel := n.1, hold := n.2 }
noncomputable def kq100_1 (n : Nat × Nat) : St → Option R100 := run (E100 n) (cB (cB c100)) (Ann.snd (Ann.snd an100)) rt100 (fun _ _ => none) rt100
noncomputable def xb100_3 (n : Nat × Nat) : Nat → St → Option R100 := fun j s => bif Nat.beq j 0 then normC [] s (kq100_1 n) else (fun _ _ => none) j s
noncomputable def F100_4 (n : Nat × Nat) : (St → Option R100) → St → Option R100 := fun K s => run (E100 n) (cA (cA (cB (cA (cB c100))))) (Ann.fst (Ann.fst (Ann.snd (Ann.fst (Ann.snd an100))))) (fun s => normC [0, 3] s K) (xb100_3 n) rt100 s
noncomputable def L100_1 (n : Nat × Nat) (m : Nat) (v0 : Int) (d3 : Int) : Option R100 := loopN (F100_4 n) m { tm := [.c (.int .i64 v0), uu, uu, .c (.int .i64 d3), uu, uu, uu, uu, uu, uu, uu, uu, uu], hp := emp }
theorem L100_1_eq (n : Nat × Nat) (m1 : Nat) (v0 : Int) (d3 : Int) : L100_1 n (m1 + 1) v0 d3 =
 (bif decide (d3 < v0) then (bif d3 == 0 then none
 else (bif ((Int.tmod v0 d3) == 0) then some false
 else L100_1 n m1 v0 (wr .i64 (d3 + 1))))
 else some true) := by kernel_rfl
noncomputable def S100 (n : Nat × Nat) (v0 : Int) : Option R100 := run (E100 n) c100 an100 rt100 (fun _ _ => none) rt100 { tm := [.c (.int .i64 v0), uu, uu, uu, uu, uu, uu, uu, uu, uu, uu, uu, uu], hp := emp }
theorem S100_eq (n : Nat × Nat) (v0 : Int) : S100 n v0 =
    L100_1 n n.1 v0 2 := by kernel_rfl
theorem S100_run (n : Nat × Nat) (xs : pksDen pk100) : S100 n xs.1 = runG (E100 n) noScope c100 an100 (rtG rk100) (fun _ _ => none) (rtG rk100) (st0 pk100 xs Tryd.f100.ntmps) := by kernel_rfl
noncomputable def P100 (n : Nat × Nat) := phiOf pk100 rk100 (fun xs => S100 n xs.1)
theorem call100 : CallOK Tryd.prog 100 := callOK_of Tryd.func100 (by kernel_rfl) (by kernel_rfl)
theorem env100 (n : Nat × Nat) : EnvOK Tryd.prog (E100 n) := envOK0 noPhi_ok rfl rfl
theorem par100 (n : Nat × Nat) : EnvPar (E100 n) := envPar0 noPhi_par rfl
theorem FC100 (n : Nat × Nat) : FCs Tryd.prog 100 (P100 n) := phiOf_FCs fun xs r h vs hv => FC.of_runG tabOK eqsOK (env100 n) (par100 n) mixed (fun _ p _ => noScope_ok p.1 p.2) Tryd.func100 (c := c100) (an := an100) (pks := pk100) (rks := rk100) (by kernel_rfl) (by kernel_rfl) hv ((S100_run n xs).symm.trans h)
abbrev R89 := List Int
noncomputable def c89 : Code := bodyOf Tryd.f89
noncomputable def an89 : Ann := (.s .l (.s .l (.s (.s .l (.j [5] (.j [1, 5, 6, 37, 38] (.s (.s .l (.j [1, 5, 6, 37, 38] .l .l)) (.s (.j [1, 5, 6, 37, 38] (.s .l (.s (.j [1, 5, 6, 7, 37, 38] (.j [1, 5, 6, 7, 37, 38] (.s (.s .l (.j [1, 5, 6, 7, 37, 38] .l .l)) (.j [1, 5, 6, 7, 37, 38] .l .l)) .l) .l) (.s (.s .l (.j [1, 5, 6, 7, 37, 38] (.s .l (.j [1, 5, 6, 7, 37, 38] (.j [1, 5, 6, 7, 8, 37, 38] (.s (.s .l (.j [1, 5, 6, 7, 8, 37, 38] .l .l)) (.j [] (.j [1, 5, 6, 7, 8, 37, 38] (.s .l (.j [1, 5, 6, 7, 8, 37, 38] .l .l)) .l) .l)) .l) .l)) .l)) .l))) .l) .l)) .l) .l)) .l)))
def pk89 : List PK := [.c (.int .i64), .c (.int .i64)]
def rk89 : List RK := [.own (.int .i64) 4]
noncomputable def rt89 (st : St) : Option R89 := rtG rk89 st
noncomputable def E89 (n : Nat × Nat) : Env := { T := tab, phi := (consPhi 100 (fun _ => true) (P100 n) noPhi), eff := fun _ => false, fuel := n.1, hold := n.2 }
noncomputable def kq89_1 (n : Nat × Nat) : St → Option R89 := run (E89 n) (cB (cB (cB c89))) (Ann.snd (Ann.snd (Ann.snd an89))) rt89 (fun _ _ => none) rt89
noncomputable def xb89_3 (n : Nat × Nat) : Nat → St → Option R89 := fun j s => bif Nat.beq j 0 then normC [5] s (kq89_1 n) else (fun _ _ => none) j s
noncomputable def F89_4 (n : Nat × Nat) : (St → Option R89) → St → Option R89 := fun K s => run (E89 n) (cA (cA (cB (cA (cB (cB c89)))))) (Ann.fst (Ann.fst (Ann.snd (Ann.fst (Ann.snd (Ann.snd an89)))))) (fun s => normC [1, 5, 6, 37, 38] s K) (xb89_3 n) rt89 s
noncomputable def kq89_7 (n : Nat × Nat) (m1 : Nat) : St → Option R89 := run (E89 n) (cB (cB (cA (cA (cB (cA (cB (cB c89)))))))) (Ann.snd (Ann.snd (Ann.fst (Ann.fst (Ann.snd (Ann.fst (Ann.snd (Ann.snd an89)))))))) (fun s => normC [1, 5, 6, 37, 38] s (loopN (F89_4 n) m1)) (xb89_3 n) rt89
noncomputable def kc89_8 (n : Nat × Nat) (m1 : Nat) : St → Option R89 := fun s => normC [1, 5, 6, 37, 38] s (kq89_7 n m1)
noncomputable def xb89_9 (n : Nat × Nat) (m1 : Nat) : Nat → St → Option R89 := fun j s => bif Nat.beq j 1 then normC [1, 5, 6, 37, 38] s (kq89_7 n m1) else (xb89_3 n) j s
noncomputable def kq89_10 (n : Nat × Nat) (m1 : Nat) : St → Option R89 := run (E89 n) (cB (cB (cA (cA (cB (cA (cA (cB (cA (cB (cB c89))))))))))) (Ann.snd (Ann.snd (Ann.fst (Ann.fst (Ann.snd (Ann.fst (Ann.fst (Ann.snd (Ann.fst (Ann.snd (Ann.snd an89))))))))))) (kc89_8 n m1) (xb89_9 n m1) rt89
noncomputable def xb89_12 (n : Nat × Nat) (m1 : Nat) : Nat → St → Option R89 := fun j s => bif Nat.beq j 2 then normC [1, 5, 6, 7, 37, 38] s (kq89_10 n m1) else (xb89_9 n m1) j s
noncomputable def F89_13 (n : Nat × Nat) (m1 : Nat) : (St → Option R89) → St → Option R89 := fun K s => run (E89 n) (cA (cA (cA (cB (cA (cA (cB (cA (cA (cB (cA (cB (cB c89))))))))))))) (Ann.fst (Ann.fst (Ann.fst (Ann.snd (Ann.fst (Ann.fst (Ann.snd (Ann.fst (Ann.fst (Ann.snd (Ann.fst (Ann.snd (Ann.snd an89))))))))))))) (fun s => normC [1, 5, 6, 7, 37, 38] s K) (xb89_12 n m1) rt89 s
noncomputable def kq89_18 (n : Nat × Nat) (m1 : Nat) : St → Option R89 := run (E89 n) (cB (cB (cB (cA (cA (cB (cA (cA (cB (cA (cB (cB c89)))))))))))) (Ann.snd (Ann.snd (Ann.snd (Ann.fst (Ann.fst (Ann.snd (Ann.fst (Ann.fst (Ann.snd (Ann.fst (Ann.snd (Ann.snd an89)))))))))))) (kc89_8 n m1) (xb89_9 n m1) rt89
noncomputable def kc89_19 (n : Nat × Nat) (m1 : Nat) : St → Option R89 := fun s => normC [1, 5, 6, 7, 37, 38] s (kq89_18 n m1)
noncomputable def xb89_21 (n : Nat × Nat) (m1 : Nat) : Nat → St → Option R89 := fun j s => bif Nat.beq j 4 then normC [1, 5, 6, 7, 37, 38] s (kc89_19 n m1) else (xb89_9 n m1) j s
noncomputable def F89_22 (n : Nat × Nat) (m1 : Nat) : (St → Option R89) → St → Option R89 := fun K s => run (E89 n) (cA (cA (cB (cA (cB (cA (cB (cB (cA (cA (cB (cA (cA (cB (cA (cB (cB c89))))))))))))))))) (Ann.fst (Ann.fst (Ann.snd (Ann.fst (Ann.snd (Ann.fst (Ann.snd (Ann.snd (Ann.fst (Ann.fst (Ann.snd (Ann.fst (Ann.fst (Ann.snd (Ann.fst (Ann.snd (Ann.snd an89))))))))))))))))) (fun s => normC [1, 5, 6, 7, 8, 37, 38] s K) (xb89_21 n m1) rt89 s
noncomputable def kq89_25 (n : Nat × Nat) (m1 m2 : Nat) : St → Option R89 := run (E89 n) (cB (cB (cA (cA (cB (cA (cB (cA (cB (cB (cA (cA (cB (cA (cA (cB (cA (cB (cB c89))))))))))))))))))) (Ann.snd (Ann.snd (Ann.fst (Ann.fst (Ann.snd (Ann.fst (Ann.snd (Ann.fst (Ann.snd (Ann.snd (Ann.fst (Ann.fst (Ann.snd (Ann.fst (Ann.fst (Ann.snd (Ann.fst (Ann.snd (Ann.snd an89))))))))))))))))))) (fun s => normC [1, 5, 6, 7, 8, 37, 38] s (loopN (F89_22 n m1) m2)) (xb89_21 n m1) rt89
noncomputable def L89_1 (n : Nat × Nat) (m : Nat) (v1 : Int) (d6 : Int) (out5 : List Int) : Option R89 := loopN (F89_4 n) m { tm := [uu, .c (.int .i64 v1), uu, uu, uu, .own 5 none false, .c (.int .i64 d6), uu, uu, uu, uu, uu, uu, uu, uu, uu, uu, uu, uu, uu, uu, uu, uu, uu, uu, uu, uu, uu, uu, uu, uu, uu, uu, uu, uu, uu, uu, uu, uu, uu, uu, uu, uu, uu, uu, uu, uu, uu, uu], hp := (upd emp 5 (.arr (.int .i64) out5 false)) }
noncomputable def L89_2 (n : Nat × Nat) (m1 : Nat) (m : Nat) (v1 : Int) (d6 : Int) (p7 : Int) (out5 : List Int) : Option R89 := loopN (F89_13 n m1) m { tm := [uu, .c (.int .i64 v1), uu, uu, uu, .own 5 none false, .c (.int .i64 d6), .c (.int .i64 p7), uu, uu, uu, uu, uu, uu, uu, uu, uu, uu, uu, uu, uu, uu, uu, uu, uu, uu, uu, uu, uu, uu, uu, uu, uu, uu, uu, uu, uu, uu, uu, uu, uu, uu, uu, uu, uu, uu, uu, uu, uu], hp := (upd emp 5 (.arr (.int .i64) out5 false)) }
noncomputable def L89_3 (n : Nat × Nat) (m1 : Nat) (m : Nat) (v1 : Int) (d6 : Int) (p7 : Int) (q8 : Int) (out5 : List Int) : Option R89 := loopN (F89_22 n m1) m { tm := [uu, .c (.int .i64 v1), uu, uu, uu, .own 5 none false, .c (.int .i64 d6), .c (.int .i64 p7), .c (.int .i64 q8), uu, uu, uu, uu, uu, uu, uu, uu, uu, uu, uu, uu, uu, uu, uu, uu, uu, uu, uu, uu, uu, uu, uu, uu, uu, uu, uu, uu, uu, uu, uu, uu, uu, uu, uu, uu, uu, uu, uu, uu], hp := (upd emp 5 (.arr (.int .i64) out5 false)) }
noncomputable def L89_4 (n : Nat × Nat) (m1 m2 : Nat) (v1 : Int) (d6 : Int) (p7 : Int) (q8 : Int) (out5 : List Int) : Option R89 := loopN (fun _ => (kq89_25 n m1 m2)) n.2 { tm := [uu, .c (.int .i64 v1), uu, uu, uu, .own 5 none false, .c (.int .i64 d6), .c (.int .i64 p7), .c (.int .i64 q8), uu, uu, uu, uu, uu, uu, uu, uu, uu, uu, uu, uu, uu, uu, uu, uu, uu, uu, uu, uu, uu, uu, uu, uu, uu, uu, uu, uu, uu, uu, uu, uu, uu, uu, uu, uu, uu, uu, uu, uu], hp := (upd emp 5 (.arr (.int .i64) out5 false)) }
theorem L89_1_eq (n : Nat × Nat) (m1 : Nat) (v1 : Int) (d6 : Int) (out5 : List Int) : L89_1 n (m1 + 1) v1 d6 out5 =
 (bif decide (d6 > 1) then L89_2 n m1 n.1 v1 d6 2 out5
 else some out5) := by kernel_rfl
theorem L89_2_eq (n : Nat × Nat) (m1 m2 : Nat) (v1 : Int) (d6 : Int) (p7 : Int) (out5 : List Int) : L89_2 n m1 (m2 + 1) v1 d6 p7 out5 =
 (bif p7 == 0 then none
 else (bif ((Int.tmod d6 p7) != 0) then L89_2 n m1 m2 v1 d6 (wr .i64 (p7 + 1)) out5
 else (bif 2 == 0 then none
 else (bif ((Int.tmod v1 2) == 1) then L89_3 n m1 n.1 v1 d6 p7 p7 out5
 else (bif p7 == 0 then none
 else (bif decide (out5.length + [wr .i64 (Int.tdiv d6 p7)].length ≤ lim) then (bif 2 == 0 then none
 else L89_1 n m1 (wr .i64 (Int.tdiv v1 2)) (wr .i64 (Int.tdiv d6 p7)) (out5 ++ [wr .i64 (Int.tdiv d6 p7)]))
 else none)))))) := by kernel_rfl
theorem L89_3_eq (n : Nat × Nat) (m1 m2 : Nat) (v1 : Int) (d6 : Int) (p7 : Int) (q8 : Int) (out5 : List Int) : L89_3 n m1 (m2 + 1) v1 d6 p7 q8 out5 =
 (bif decide (q8 ≤ d6) then (bif q8 == 0 then none
 else ((bif (((Int.tmod d6 q8) == 0) == true) then (S100 n q8).bind fun r1' =>
 some r1'
 else some false)).bind fun b2' =>
 (bif b2' then L89_4 n m1 m2 v1 d6 q8 q8 out5
 else L89_4 n m1 m2 v1 d6 p7 q8 out5))
 else (bif p7 == 0 then none
 else (bif decide (out5.length + [wr .i64 (Int.tdiv d6 p7)].length ≤ lim) then (bif 2 == 0 then none
 else L89_1 n m1 (wr .i64 (Int.tdiv v1 2)) (wr .i64 (Int.tdiv d6 p7)) (out5 ++ [wr .i64 (Int.tdiv d6 p7)]))
 else none))) := by kernel_rfl
theorem L89_4_raw (n : Nat × Nat) (m1 m2 : Nat) (v1 : Int) (d6 : Int) (p7 : Int) (q8 : Int) (out5 : List Int) : (kq89_25 n m1 m2) { tm := [uu, .c (.int .i64 v1), uu, uu, uu, .own 5 none false, .c (.int .i64 d6), .c (.int .i64 p7), .c (.int .i64 q8), uu, uu, uu, uu, uu, uu, uu, uu, uu, uu, uu, uu, uu, uu, uu, uu, uu, uu, uu, uu, uu, uu, uu, uu, uu, uu, uu, uu, uu, uu, uu, uu, uu, uu, uu, uu, uu, uu, uu, uu], hp := (upd emp 5 (.arr (.int .i64) out5 false)) } =
    L89_3 n m1 m2 v1 d6 p7 (wr .i64 (q8 + 1)) out5 := by kernel_rfl
noncomputable def S89 (n : Nat × Nat) (size0 : Int) (v1 : Int) : Option R89 := run (E89 n) c89 an89 rt89 (fun _ _ => none) rt89 { tm := [.c (.int .i64 size0), .c (.int .i64 v1), uu, uu, uu, uu, uu, uu, uu, uu, uu, uu, uu, uu, uu, uu, uu, uu, uu, uu, uu, uu, uu, uu, uu, uu, uu, uu, uu, uu, uu, uu, uu, uu, uu, uu, uu, uu, uu, uu, uu, uu, uu, uu, uu, uu, uu, uu, uu], hp := emp }
theorem S89_eq (n : Nat × Nat) (size0 : Int) (v1 : Int) : S89 n size0 v1 =
    L89_1 n n.1 v1 size0 [size0] := by kernel_rfl
theorem S89_run (n : Nat × Nat) (xs : pksDen pk89) : S89 n xs.1 xs.2.1 = runG (E89 n) noScope c89 an89 (rtG rk89) (fun _ _ => none) (rtG rk89) (st0 pk89 xs Tryd.f89.ntmps) := by kernel_rfl
noncomputable def P89 (n : Nat × Nat) := phiOf pk89 rk89 (fun xs => S89 n xs.1 xs.2.1)
theorem call89 : CallOK Tryd.prog 89 := callOK_of Tryd.func89 (by kernel_rfl) (by kernel_rfl)
theorem env89 (n : Nat × Nat) : EnvOK Tryd.prog (E89 n) := envOK0 (consPhi_ok (FC100 n) call100 noPhi_ok) rfl rfl
theorem par89 (n : Nat × Nat) : EnvPar (E89 n) := envPar0 (consPhi_par phiOf_Par1 noPhi_par) rfl
theorem FC89 (n : Nat × Nat) : FCs Tryd.prog 89 (P89 n) := phiOf_FCs fun xs r h vs hv => FC.of_runG tabOK eqsOK (env89 n) (par89 n) mixed (fun _ p _ => noScope_ok p.1 p.2) Tryd.func89 (c := c89) (an := an89) (pks := pk89) (rks := rk89) (by kernel_rfl) (by kernel_rfl) hv ((S89_run n xs).symm.trans h)
/- (headword/headwordlaw09.Strip).made -/
abbrev R48 := Int × List Int
noncomputable def c48 : Code := bodyOf Tryd.f48
noncomputable def an48 : Ann := (.s .l (.s .l (.s .l (.s (.s .l (.j [1, 2, 6, 7] .l (.s .l (.j [1, 2, 6, 7] (.j [1, 2, 6, 7, 27, 28] (.s .l (.s (.j [1, 2, 6, 7, 27, 28] .l .l) (.s (.j [1, 2, 6, 7, 27, 28] .l .l) .l))) .l) .l)))) (.s .l (.s (.s .l (.j [6, 9] (.j [6, 7, 9, 44, 45, 46] (.s .l (.s (.j [6, 7, 9, 44, 45, 46] .l .l) (.s (.j [6, 7, 9, 44, 45, 46] .l .l) .l))) .l) .l)) .l))))))
def pk48 : List PK := [.c (.pair (.int .u8) (.pair (.int .u8) (.pair (.int .u8) (.pair (.int .u8) (.pair (.int .u8) (.pair (.int .u8) (.pair (.int .u8) (.pair (.int .u8) (.pair (.int .u8) (.pair (.int .u8) (.int .u8))))))))))), .c (.int .i64)]
def rk48 : List RK := [.c (.int .i64) 4, .sl (.int .i64) 5]
noncomputable def rt48 (st : St) : Option R48 := rtG rk48 st
noncomputable def E48 (n : Nat × Nat) : Env := { T := tab, phi := (consPhi 89 (fun _ => true) (P89 n) noPhi), eff := fun _ => false, fuel := n.1, hold := n.2 }
noncomputable def kq48_1 (n : Nat × Nat) : St → Option R48 := run (E48 n) (cB (cB (cB (cB c48)))) (Ann.snd (Ann.snd (Ann.snd (Ann.snd an48)))) rt48 (fun _ _ => none) rt48
noncomputable def kc48_2 (n : Nat × Nat) : St → Option R48 := fun s => normC [1, 2, 6, 7] s (kq48_1 n)
noncomputable def kq48_3 (n : Nat × Nat) : St → Option R48 := run (E48 n) (cB (cB (cB (cB (cB (cB c48)))))) (Ann.snd (Ann.snd (Ann.snd (Ann.snd (Ann.snd (Ann.snd an48)))))) rt48 (fun _ _ => none) rt48
noncomputable def xb48_5 (n : Nat × Nat) : Nat → St → Option R48 := fun j s => bif Nat.beq j 2 then normC [6, 9] s (kq48_3 n) else (fun _ _ => none) j s
noncomputable def F48_6 (n : Nat × Nat) : (St → Option R48) → St → Option R48 := fun K s => run (E48 n) (cA (cA (cB (cA (cB (cB (cB (cB (cB c48))))))))) (Ann.fst (Ann.fst (Ann.snd (Ann.fst (Ann.snd (Ann.snd (Ann.snd (Ann.snd (Ann.snd an48))))))))) (fun s => normC [6, 7, 9, 44, 45, 46] s K) (xb48_5 n) rt48 s
noncomputable def xb48_8 (n : Nat × Nat) : Nat → St → Option R48 := fun j s => bif Nat.beq j 0 then normC [1, 2, 6, 7] s (kc48_2 n) else (fun _ _ => none) j s
noncomputable def F48_9 (n : Nat × Nat) : (St → Option R48) → St → Option R48 := fun K s => run (E48 n) (cA (cA (cB (cB (cB (cA (cB (cB (cB c48))))))))) (Ann.fst (Ann.fst (Ann.snd (Ann.snd (Ann.snd (Ann.fst (Ann.snd (Ann.snd (Ann.snd an48))))))))) (fun s => normC [1, 2, 6, 7, 27, 28] s K) (xb48_8 n) rt48 s
noncomputable def L48_1 (n : Nat × Nat) (m : Nat) (size6 : Int) (v44 : List Int) (v45 : Int) (v46 : Int) (lengths7 : List Int) (out9 : List Int) : Option R48 := loopN (F48_6 n) m { tm := [uu, uu, uu, uu, uu, uu, .c (.int .i64 size6), .own 7 none false, uu, .own 9 none false, uu, uu, uu, uu, uu, uu, uu, uu, uu, uu, uu, uu, uu, uu, uu, uu, uu, uu, uu, uu, uu, uu, uu, uu, uu, uu, uu, uu, uu, uu, uu, uu, uu, uu, .c (.sl (.int .u8) v44 false), .c (.int .i64 v45), .c (.int .i64 v46), uu, uu, uu, uu, uu, uu, uu, uu, uu, uu, uu, uu, uu, uu, uu, uu, uu], hp := (upd (upd emp 9 (.arr (.int .i64) out9 false)) 7 (.arr (.int .i64) lengths7 false)) }
noncomputable def L48_2 (n : Nat × Nat) (m : Nat) (most1 : Int) (size6 : Int) (v27 : Int) (v28 : Int) (s2_0 : Int) (s2_1 : Int) (s2_2 : Int) (s2_3 : Int) (s2_4 : Int) (s2_5 : Int) (s2_6 : Int) (s2_7 : Int) (s2_8 : Int) (s2_9 : Int) (s2_10 : Int) (lengths7 : List Int) : Option R48 := loopN (F48_9 n) m { tm := [uu, .c (.int .i64 most1), .ptr 2 0, uu, uu, uu, .c (.int .i64 size6), .own 7 none false, uu, uu, uu, uu, uu, uu, uu, uu, uu, uu, uu, uu, uu, uu, uu, uu, uu, uu, uu, .c (.int .i64 v27), .c (.int .i64 v28), uu, uu, uu, uu, uu, uu, uu, uu, uu, uu, uu, uu, uu, uu, uu, uu, uu, uu, uu, uu, uu, uu, uu, uu, uu, uu, uu, uu, uu, uu, uu, uu, uu, uu, uu], hp := (upd (upd emp 7 (.arr (.int .i64) lengths7 false)) 2 (.box [.int .u8 s2_0, .int .u8 s2_1, .int .u8 s2_2, .int .u8 s2_3, .int .u8 s2_4, .int .u8 s2_5, .int .u8 s2_6, .int .u8 s2_7, .int .u8 s2_8, .int .u8 s2_9, .int .u8 s2_10])) }
theorem L48_1_eq (n : Nat × Nat) (m1 : Nat) (size6 : Int) (v44 : List Int) (v45 : Int) (v46 : Int) (lengths7 : List Int) (out9 : List Int) : L48_1 n (m1 + 1) size6 v44 v45 v46 lengths7 out9 =
 (bif decide (v46 < v45) then (idx v44 v46).bind fun x2' =>
 (bif (lengths7.length : Int) == 0 then none
 else (bif inB (Int.tmod (wr .i64 x2') (lengths7.length : Int)) lengths7.length then (idx lengths7 (Int.tmod (wr .i64 x2') (lengths7.length : Int))).bind fun x3' =>
 (bif decide (out9.length + [x3'].length ≤ lim) then L48_1 n m1 size6 v44 v45 (wr .i64 (v46 + 1)) lengths7 (out9 ++ [x3'])
 else none)
 else none))
 else some (size6, out9)) := by kernel_rfl
theorem L48_2_eq (n : Nat × Nat) (m1 : Nat) (most1 : Int) (size6 : Int) (v27 : Int) (v28 : Int) (s2_0 : Int) (s2_1 : Int) (s2_2 : Int) (s2_3 : Int) (s2_4 : Int) (s2_5 : Int) (s2_6 : Int) (s2_7 : Int) (s2_8 : Int) (s2_9 : Int) (s2_10 : Int) (lengths7 : List Int) : L48_2 n (m1 + 1) most1 size6 v27 v28 s2_0 s2_1 s2_2 s2_3 s2_4 s2_5 s2_6 s2_7 s2_8 s2_9 s2_10 lengths7 =
 (bif decide (v28 < v27) then (bif decide (lengths7.length + [wr .i64 (v28 + 1)].length ≤ lim) then L48_2 n m1 most1 size6 v27 (wr .i64 (v28 + 1)) s2_0 s2_1 s2_2 s2_3 s2_4 s2_5 s2_6 s2_7 s2_8 s2_9 s2_10 (lengths7 ++ [wr .i64 (v28 + 1)])
 else none)
 else (bif (wr .i64 (most1 + 1)) == 0 then none
 else (bif bounds none (some (Int.tmod (wr .i64 s2_1) (wr .i64 (most1 + 1)))) none 8 then L48_1 n n.1 size6 ([s2_3, s2_4, s2_5, s2_6, s2_7, s2_8, s2_9, s2_10].take (Int.toNat (Int.tmod (wr .i64 s2_1) (wr .i64 (most1 + 1))))) (([s2_3, s2_4, s2_5, s2_6, s2_7, s2_8, s2_9, s2_10].take (Int.toNat (Int.tmod (wr .i64 s2_1) (wr .i64 (most1 + 1))))).length : Int) 0 lengths7 []
 else none))) := by kernel_rfl
noncomputable def S48 (n : Nat × Nat) (s0 : Int × Int × Int × Int × Int × Int × Int × Int × Int × Int × Int) (most1 : Int) : Option R48 := run (E48 n) c48 an48 rt48 (fun _ _ => none) rt48 { tm := [.agg [.int .u8 s0.1, .int .u8 s0.2.1, .int .u8 s0.2.2.1, .int .u8 s0.2.2.2.1, .int .u8 s0.2.2.2.2.1, .int .u8 s0.2.2.2.2.2.1, .int .u8 s0.2.2.2.2.2.2.1, .int .u8 s0.2.2.2.2.2.2.2.1, .int .u8 s0.2.2.2.2.2.2.2.2.1, .int .u8 s0.2.2.2.2.2.2.2.2.2.1, .int .u8 s0.2.2.2.2.2.2.2.2.2.2], .c (.int .i64 most1), uu, uu, uu, uu, uu, uu, uu, uu, uu, uu, uu, uu, uu, uu, uu, uu, uu, uu, uu, uu, uu, uu, uu, uu, uu, uu, uu, uu, uu, uu, uu, uu, uu, uu, uu, uu, uu, uu, uu, uu, uu, uu, uu, uu, uu, uu, uu, uu, uu, uu, uu, uu, uu, uu, uu, uu, uu, uu, uu, uu, uu, uu], hp := emp }
theorem S48_eq (n : Nat × Nat) (s0 : Int × Int × Int × Int × Int × Int × Int × Int × Int × Int × Int) (most1 : Int) : S48 n s0 most1 =
 (bif 24 == 0 then none
 else (bif 2 == 0 then none
 else (bif ((Int.tmod s0.2.2.1 2) == 1) then (bif 2 == 0 then none
 else (S89 n (wr .i64 (1 + (Int.tmod (wr .i64 s0.1) 24))) (wr .i64 (Int.tdiv (wr .i64 s0.2.2.1) 2))).bind fun r1' =>
 (bif (wr .i64 (most1 + 1)) == 0 then none
 else (bif bounds none (some (Int.tmod (wr .i64 s0.2.1) (wr .i64 (most1 + 1)))) none 8 then L48_1 n n.1 (wr .i64 (1 + (Int.tmod (wr .i64 s0.1) 24))) ([s0.2.2.2.1, s0.2.2.2.2.1, s0.2.2.2.2.2.1, s0.2.2.2.2.2.2.1, s0.2.2.2.2.2.2.2.1, s0.2.2.2.2.2.2.2.2.1, s0.2.2.2.2.2.2.2.2.2.1, s0.2.2.2.2.2.2.2.2.2.2].take (Int.toNat (Int.tmod (wr .i64 s0.2.1) (wr .i64 (most1 + 1))))) (([s0.2.2.2.1, s0.2.2.2.2.1, s0.2.2.2.2.2.1, s0.2.2.2.2.2.2.1, s0.2.2.2.2.2.2.2.1, s0.2.2.2.2.2.2.2.2.1, s0.2.2.2.2.2.2.2.2.2.1, s0.2.2.2.2.2.2.2.2.2.2].take (Int.toNat (Int.tmod (wr .i64 s0.2.1) (wr .i64 (most1 + 1))))).length : Int) 0 r1' []
 else none)))
 else L48_2 n n.1 most1 (wr .i64 (1 + (Int.tmod (wr .i64 s0.1) 24))) (wr .i64 (1 + (Int.tmod (wr .i64 s0.1) 24))) 0 s0.1 s0.2.1 s0.2.2.1 s0.2.2.2.1 s0.2.2.2.2.1 s0.2.2.2.2.2.1 s0.2.2.2.2.2.2.1 s0.2.2.2.2.2.2.2.1 s0.2.2.2.2.2.2.2.2.1 s0.2.2.2.2.2.2.2.2.2.1 s0.2.2.2.2.2.2.2.2.2.2 []))) := by kernel_rfl
theorem S48_run (n : Nat × Nat) (xs : pksDen pk48) : S48 n xs.1 xs.2.1 = runG (E48 n) noScope c48 an48 (rtG rk48) (fun _ _ => none) (rtG rk48) (st0 pk48 xs Tryd.f48.ntmps) := by kernel_rfl
noncomputable def P48 (n : Nat × Nat) := phiOf pk48 rk48 (fun xs => S48 n xs.1 xs.2.1)
theorem call48 : CallOK Tryd.prog 48 := callOK_of Tryd.func48 (by kernel_rfl) (by kernel_rfl)
theorem env48 (n : Nat × Nat) : EnvOK Tryd.prog (E48 n) := envOK0 (consPhi_ok (FC89 n) call89 noPhi_ok) rfl rfl
theorem par48 (n : Nat × Nat) : EnvPar (E48 n) := envPar0 (consPhi_par phiOf_Par1 noPhi_par) rfl
theorem FC48 (n : Nat × Nat) : FCs Tryd.prog 48 (P48 n) := phiOf_FCs fun xs r h vs hv => FC.of_runG tabOK eqsOK (env48 n) (par48 n) mixed (fun _ p _ => noScope_ok p.1 p.2) Tryd.func48 (c := c48) (an := an48) (pks := pk48) (rks := rk48) (by kernel_rfl) (by kernel_rfl) hv ((S48_run n xs).symm.trans h)
/- slices.Max[[]int,int] -/
abbrev R62 := Int
noncomputable def c62 : Code := bodyOf Tryd.f62
noncomputable def an62 : Ann := (.s .l (.s (.s .l (.j [0] .l .l)) (.s .l (.s (.s .l (.j [3] (.j [0, 3, 4] (.s (.s .l (.j [0, 3, 4] .l .l)) (.s (.j [0, 3, 4] .l .l) .l)) .l) .l)) .l))))
def pk62 : List PK := [.c (.sl (.int .i64))]
def rk62 : List RK := [.c (.int .i64) 2]
noncomputable def rt62 (st : St) : Option R62 := rtG rk62 st
noncomputable def E62 (n : Nat × Nat) : Env := { T := tab, phi := noPhi, eff := fun _ => false, fuel := n.1, hold := n.2 }
noncomputable def kq62_3 (n : Nat × Nat) : St → Option R62 := run (E62 n) (cB (cB (cB (cB c62)))) (Ann.snd (Ann.snd (Ann.snd (Ann.snd an62)))) rt62 (fun _ _ => none) rt62
noncomputable def xb62_5 (n : Nat × Nat) : Nat → St → Option R62 := fun j s => bif Nat.beq j 0 then normC [3] s (kq62_3 n) else (fun _ _ => none) j s
noncomputable def F62_6 (n : Nat × Nat) : (St → Option R62) → St → Option R62 := fun K s => run (E62 n) (cA (cA (cB (cA (cB (cB (cB c62))))))) (Ann.fst (Ann.fst (Ann.snd (Ann.fst (Ann.snd (Ann.snd (Ann.snd an62))))))) (fun s => normC [0, 3, 4] s K) (xb62_5 n) rt62 s
noncomputable def L62_1 (n : Nat × Nat) (m : Nat) (x0 : List Int) (m3 : Int) (i4 : Int) : Option R62 := loopN (F62_6 n) m { tm := [.c (.sl (.int .i64) x0 false), uu, uu, .c (.int .i64 m3), .c (.int .i64 i4), uu, uu, uu, uu, uu, uu, uu, uu, uu, uu, uu, uu, uu, uu, uu, uu, uu, uu, uu, uu], hp := emp }
theorem L62_1_eq (n : Nat × Nat) (m1 : Nat) (x0 : List Int) (m3 : Int) (i4 : Int) : L62_1 n (m1 + 1) x0 m3 i4 =
 (bif decide (i4 < (x0.length : Int)) then (idx x0 i4).bind fun x2' =>
      L62_1 n m1 x0 (if x2' > m3 then x2' else m3) (wr .i64 (i4 + 1))
 else some m3) := by kernel_rfl
noncomputable def S62 (n : Nat × Nat) (x0 : List Int) : Option R62 := run (E62 n) c62 an62 rt62 (fun _ _ => none) rt62 { tm := [.c (.sl (.int .i64) x0 false), uu, uu, uu, uu, uu, uu, uu, uu, uu, uu, uu, uu, uu, uu, uu, uu, uu, uu, uu, uu, uu, uu, uu, uu], hp := emp }
theorem S62_eq (n : Nat × Nat) (x0 : List Int) : S62 n x0 =
 (bif decide ((x0.length : Int) < 1) then none
 else (idx x0 0).bind fun x1' =>
      L62_1 n n.1 x0 x1' 1) := by kernel_rfl
theorem S62_run (n : Nat × Nat) (xs : pksDen pk62) : S62 n xs.1 = runG (E62 n) noScope c62 an62 (rtG rk62) (fun _ _ => none) (rtG rk62) (st0 pk62 xs Tryd.f62.ntmps) := by kernel_rfl
noncomputable def P62 (n : Nat × Nat) := phiOf pk62 rk62 (fun xs => S62 n xs.1)
theorem call62 : CallOK Tryd.prog 62 := callOK_of Tryd.func62 (by kernel_rfl) (by kernel_rfl)
theorem env62 (n : Nat × Nat) : EnvOK Tryd.prog (E62 n) := envOK0 noPhi_ok rfl rfl
theorem par62 (n : Nat × Nat) : EnvPar (E62 n) := envPar0 noPhi_par rfl
theorem FC62 (n : Nat × Nat) : FCs Tryd.prog 62 (P62 n) := phiOf_FCs fun xs r h vs hv => FC.of_runG tabOK eqsOK (env62 n) (par62 n) mixed (fun _ p _ => noScope_ok p.1 p.2) Tryd.func62 (c := c62) (an := an62) (pks := pk62) (rks := rk62) (by kernel_rfl) (by kernel_rfl) hv ((S62_run n xs).symm.trans h)
abbrev R14 := Bool
noncomputable def c14 : Code := bodyOf Tryd.f14
noncomputable def an14 : Ann := (.s .l (.s .l (.s .l (.s (.s .l (.j [2, 7, 8, 9, 74, 75, 76, 77, 83, 84, 85, 110, 111, 112, 115, 116, 117, 120] (.j [2, 4, 7, 8, 9, 26, 27, 74, 75, 76, 77, 83, 84, 85, 110, 111, 112, 115, 116, 117, 120] (.s .l (.s (.j [2, 4, 7, 8, 9, 26, 27, 74, 75, 76, 77, 83, 84, 85, 110, 111, 112, 115, 116, 117, 120] .l .l) (.s (.j [2, 4, 7, 8, 9, 26, 27, 74, 75, 76, 77, 83, 84, 85, 110, 111, 112, 115, 116, 117, 120] .l .l) .l))) .l) .l)) (.s .l (.s .l (.s .l (.s (.s .l (.j [2, 7, 8, 9, 11, 13, 74, 75, 76, 77, 83, 84, 85, 110, 111, 112, 115, 116, 117, 120] (.j [2, 7, 8, 9, 11, 12, 13, 40, 41, 42, 74, 75, 76, 77, 83, 84, 85, 110, 111, 112, 115, 116, 117, 120] (.s .l (.s (.j [2, 7, 8, 9, 11, 12, 13, 40, 41, 42, 74, 75, 76, 77, 83, 84, 85, 110, 111, 112, 115, 116, 117, 120] .l .l) (.j [] (.j [2, 7, 8, 9, 11, 12, 13, 40, 41, 42, 74, 75, 76, 77, 83, 84, 85, 110, 111, 112, 115, 116, 117, 120] (.s .l (.j [2, 7, 8, 9, 11, 12, 13, 40, 41, 42, 74, 75, 76, 77, 83, 84, 85, 110, 111, 112, 115, 116, 117, 120] (.s .l (.j [2, 7, 8, 9, 11, 12, 13, 40, 41, 42, 74, 75, 76, 77, 83, 84, 85, 110, 111, 112, 115, 116, 117, 120] .l (.s .l (.j [2, 7, 8, 9, 11, 12, 13, 40, 41, 42, 74, 75, 76, 77, 83, 84, 85, 110, 111, 112, 115, 116, 117, 120] .l (.s .l (.j [2, 7, 8, 9, 11, 12, 13, 40, 41, 42, 74, 75, 76, 77, 83, 84, 85, 110, 111, 112, 115, 116, 117, 120] .l .l)))))) .l)) .l) .l))) .l) .l)) (.s (.s .l (.j [2, 7, 8, 9, 11, 83, 84, 85, 110, 111, 112, 115, 116, 117, 120] .l .l)) (.s (.s .l (.j [7, 8, 9, 11, 110, 111, 112, 115, 116, 117, 120] .l .l)) .l))))))))))
def pk14 : List PK := [.c (.pair (.int .u8) (.pair (.int .u8) (.pair (.int .u8) (.pair (.int .u8) (.pair (.int .u8) (.pair (.int .u8) (.pair (.int .u8) (.pair (.int .u8) (.pair (.int .u8) (.pair (.int .u8) (.int .u8))))))))))), .c (.pair (.int .i8) (.pair (.int .i8) (.pair (.int .i8) (.pair (.int .i8) (.pair (.int .i8) (.pair (.int .i8) (.pair (.int .i8) (.int .i8)))))))), .c (.int .u8)]
def rk14 : List RK := [.c .bool 6]
noncomputable def rt14 (st : St) : Option R14 := rtG rk14 st
noncomputable def E14 (n : Nat × Nat) : Env := { T := tab, phi := (consPhi 17 (fun _ => true) (P17 n) (consPhi 18 (fun _ => true) (P18 n) (consPhi 20 (fun _ => true) (P20 n) (consPhi 28 (fun _ => true) (P28 n) (consPhi 48 (fun _ => true) (P48 n) (consPhi 62 (fun _ => true) (P62 n) noPhi)))))), eff := fun g => Nat.beq g 20 || Nat.beq g 48, fuel := n.1, hold := n.2 }
noncomputable def kq14_1 (n : Nat × Nat) : St → Option R14 := run (E14 n) (cB (cB (cB (cB c14)))) (Ann.snd (Ann.snd (Ann.snd (Ann.snd an14)))) rt14 (fun _ _ => none) rt14
noncomputable def xb14_3 (n : Nat × Nat) : Nat → St → Option R14 := fun j s => bif Nat.beq j 0 then normC [2, 7, 8, 9, 74, 75, 76, 77, 83, 84, 85, 110, 111, 112, 115, 116, 117, 120] s (kq14_1 n) else (fun _ _ => none) j s
noncomputable def F14_4 (n : Nat × Nat) : (St → Option R14) → St → Option R14 := fun K s => run (E14 n) (cA (cA (cB (cA (cB (cB (cB c14))))))) (Ann.fst (Ann.fst (Ann.snd (Ann.fst (Ann.snd (Ann.snd (Ann.snd an14))))))) (fun s => normC [2, 4, 7, 8, 9, 26, 27, 74, 75, 76, 77, 83, 84, 85, 110, 111, 112, 115, 116, 117, 120] s K) (xb14_3 n) rt14 s
noncomputable def kq14_10 (n : Nat × Nat) : St → Option R14 := run (E14 n) (cB (cB (cB (cB (cB (cB (cB (cB c14)))))))) (Ann.snd (Ann.snd (Ann.snd (Ann.snd (Ann.snd (Ann.snd (Ann.snd (Ann.snd an14)))))))) rt14 (fun _ _ => none) rt14
noncomputable def xb14_12 (n : Nat × Nat) : Nat → St → Option R14 := fun j s => bif Nat.beq j 2 then normC [2, 7, 8, 9, 11, 13, 74, 75, 76, 77, 83, 84, 85, 110, 111, 112, 115, 116, 117, 120] s (kq14_10 n) else (fun _ _ => none) j s
noncomputable def F14_13 (n : Nat × Nat) : (St → Option R14) → St → Option R14 := fun K s => run (E14 n) (cA (cA (cB (cA (cB (cB (cB (cB (cB (cB (cB c14))))))))))) (Ann.fst (Ann.fst (Ann.snd (Ann.fst (Ann.snd (Ann.snd (Ann.snd (Ann.snd (Ann.snd (Ann.snd (Ann.snd an14))))))))))) (fun s => normC [2, 7, 8, 9, 11, 12, 13, 40, 41, 42, 74, 75, 76, 77, 83, 84, 85, 110, 111, 112, 115, 116, 117, 120] s K) (xb14_12 n) rt14 s
noncomputable def kq14_16 (n : Nat × Nat) (m1 : Nat) : St → Option R14 := run (E14 n) (cB (cB (cB (cA (cA (cB (cA (cB (cB (cB (cB (cB (cB (cB c14)))))))))))))) (Ann.snd (Ann.snd (Ann.snd (Ann.fst (Ann.fst (Ann.snd (Ann.fst (Ann.snd (Ann.snd (Ann.snd (Ann.snd (Ann.snd (Ann.snd (Ann.snd an14)))))))))))))) (fun s => normC [2, 7, 8, 9, 11, 12, 13, 40, 41, 42, 74, 75, 76, 77, 83, 84, 85, 110, 111, 112, 115, 116, 117, 120] s (loopN (F14_13 n) m1)) (xb14_12 n) rt14
noncomputable def L14_1 (n : Nat × Nat) (m : Nat) (cut2 : Int) (size7 : Int) (pieces8 : List Int) (v26 : Int) (v27 : Int) (v4_0 : Int) (v4_1 : Int) (v4_2 : Int) (v4_3 : Int) (v4_4 : Int) (v4_5 : Int) (v4_6 : Int) (v4_7 : Int) (plan9 : List Int) : Option R14 := loopN (F14_4 n) m { tm := [uu, uu, .c (.int .u8 cut2), uu, .ptr 4 0, uu, uu, .c (.int .i64 size7), .c (.sl (.int .i64) pieces8 false), .own 9 none false, uu, uu, uu, uu, uu, uu, uu, uu, uu, uu, uu, uu, uu, uu, uu, uu, .c (.int .i64 v26), .c (.int .i64 v27), uu, uu, uu, uu, uu, uu, uu, uu, uu, uu, uu, uu, uu, uu, uu, uu, uu, uu, uu, uu, uu, uu, uu, uu, uu, uu, uu, uu, uu, uu, uu, uu, uu, uu, uu, uu, uu, uu, uu, uu, uu, uu, uu, uu, uu, uu, uu, uu, uu, uu, uu, uu, uu, uu, uu, uu, uu, uu, uu, uu, uu, uu, uu, uu, uu, uu, uu, uu, uu, uu, uu, uu, uu, uu, uu, uu, uu, uu, uu, uu, uu, uu, uu, uu, uu, uu, uu, uu, uu, uu, uu, uu, uu, uu], hp := (upd (upd emp 9 (.arr (.int .i64) plan9 false)) 4 (.box [.int .i8 v4_0, .int .i8 v4_1, .int .i8 v4_2, .int .i8 v4_3, .int .i8 v4_4, .int .i8 v4_5, .int .i8 v4_6, .int .i8 v4_7])) }
noncomputable def L14_2 (n : Nat × Nat) (m : Nat) (cut2 : Int) (size7 : Int) (pieces8 : List Int) (want11 : Int) (most12 : Int) (v41 : Int) (v42 : Int) (plan9 : List Int) (used13_0 : Int) (used13_1 : Int) (used13_2 : Int) (used13_3 : Int) (used13_4 : Int) (used13_5 : Int) (used13_6 : Int) (used13_7 : Int) : Option R14 := loopN (F14_13 n) m { tm := [uu, uu, .c (.int .u8 cut2), uu, uu, uu, uu, .c (.int .i64 size7), .c (.sl (.int .i64) pieces8 false), .own 9 none false, uu, .c (.int .i64 want11), .c (.int .i64 most12), .ptr 13 0, uu, uu, uu, uu, uu, uu, uu, uu, uu, uu, uu, uu, uu, uu, uu, uu, uu, uu, uu, uu, uu, uu, uu, uu, uu, uu, .own 9 none false, .c (.int .i64 v41), .c (.int .i64 v42), uu, uu, uu, uu, uu, uu, uu, uu, uu, uu, uu, uu, uu, uu, uu, uu, uu, uu, uu, uu, uu, uu, uu, uu, uu, uu, uu, uu, uu, uu, uu, uu, uu, uu, uu, uu, uu, uu, uu, uu, uu, uu, uu, uu, uu, uu, uu, uu, uu, uu, uu, uu, uu, uu, uu, uu, uu, uu, uu, uu, uu, uu, uu, uu, uu, uu, uu, uu, uu, uu, uu, uu, uu, uu, uu, uu, uu, uu, uu], hp := (upd (upd emp 13 (.box [.int .i64 used13_0, .int .i64 used13_1, .int .i64 used13_2, .int .i64 used13_3, .int .i64 used13_4, .int .i64 used13_5, .int .i64 used13_6, .int .i64 used13_7])) 9 (.arr (.int .i64) plan9 false)) }
noncomputable def L14_3 (n : Nat × Nat) (m1 : Nat) (cut2 : Int) (size7 : Int) (pieces8 : List Int) (want11 : Int) (most12 : Int) (v41 : Int) (v42 : Int) (plan9 : List Int) (used13_0 : Int) (used13_1 : Int) (used13_2 : Int) (used13_3 : Int) (used13_4 : Int) (used13_5 : Int) (used13_6 : Int) (used13_7 : Int) : Option R14 := loopN (fun _ => (kq14_16 n m1)) n.2 { tm := [uu, uu, .c (.int .u8 cut2), uu, uu, uu, uu, .c (.int .i64 size7), .c (.sl (.int .i64) pieces8 false), .own 9 none false, uu, .c (.int .i64 want11), .c (.int .i64 most12), .ptr 13 0, uu, uu, uu, uu, uu, uu, uu, uu, uu, uu, uu, uu, uu, uu, uu, uu, uu, uu, uu, uu, uu, uu, uu, uu, uu, uu, .own 9 none false, .c (.int .i64 v41), .c (.int .i64 v42), uu, uu, uu, uu, uu, uu, uu, uu, uu, uu, uu, uu, uu, uu, uu, uu, uu, uu, uu, uu, uu, uu, uu, uu, uu, uu, uu, uu, uu, uu, uu, uu, uu, uu, uu, uu, uu, uu, uu, uu, uu, uu, uu, uu, uu, uu, uu, uu, uu, uu, uu, uu, uu, uu, uu, uu, uu, uu, uu, uu, uu, uu, uu, uu, uu, uu, uu, uu, uu, uu, uu, uu, uu, uu, uu, uu, uu, uu, uu], hp := (upd (upd emp 13 (.box [.int .i64 used13_0, .int .i64 used13_1, .int .i64 used13_2, .int .i64 used13_3, .int .i64 used13_4, .int .i64 used13_5, .int .i64 used13_6, .int .i64 used13_7])) 9 (.arr (.int .i64) plan9 false)) }
theorem L14_1_eq (n : Nat × Nat) (m1 : Nat) (cut2 : Int) (size7 : Int) (pieces8 : List Int) (v26 : Int) (v27 : Int) (v4_0 : Int) (v4_1 : Int) (v4_2 : Int) (v4_3 : Int) (v4_4 : Int) (v4_5 : Int) (v4_6 : Int) (v4_7 : Int) (plan9 : List Int) : L14_1 n (m1 + 1) cut2 size7 pieces8 v26 v27 v4_0 v4_1 v4_2 v4_3 v4_4 v4_5 v4_6 v4_7 plan9 =
 (bif decide (v27 < v26) then (bif inB v27 8 then (idx [v4_0, v4_1, v4_2, v4_3, v4_4, v4_5, v4_6, v4_7] v27).bind fun x2' =>
 (bif 4 == 0 then none
 else (bif decide (plan9.length + [(if (Int.tmod (wr .i64 x2') 4) > (-1) then (Int.tmod (wr .i64 x2') 4) else (-1))].length ≤ lim) then L14_1 n m1 cut2 size7 pieces8 v26 (wr .i64 (v27 + 1)) v4_0 v4_1 v4_2 v4_3 v4_4 v4_5 v4_6 v4_7 (plan9 ++ [(if (Int.tmod (wr .i64 x2') 4) > (-1) then (Int.tmod (wr .i64 x2') 4) else (-1))])
 else none))
 else none)
 else L14_2 n n.1 cut2 size7 pieces8 0 (-1) (plan9.length : Int) 0 plan9 0 0 0 0 0 0 0 0) := by kernel_rfl
theorem L14_2_eq (n : Nat × Nat) (m1 : Nat) (cut2 : Int) (size7 : Int) (pieces8 : List Int) (want11 : Int) (most12 : Int) (v41 : Int) (v42 : Int) (plan9 : List Int) (used13_0 : Int) (used13_1 : Int) (used13_2 : Int) (used13_3 : Int) (used13_4 : Int) (used13_5 : Int) (used13_6 : Int) (used13_7 : Int) : L14_2 n (m1 + 1) cut2 size7 pieces8 want11 most12 v41 v42 plan9 used13_0 used13_1 used13_2 used13_3 used13_4 used13_5 used13_6 used13_7 =
 (bif decide (v42 < v41) then (bif inB v42 plan9.length then (idx plan9 v42).bind fun x3' =>
 (bif (want11 != 0) then L14_3 n m1 cut2 size7 pieces8 want11 most12 v41 v42 plan9 used13_0 used13_1 used13_2 used13_3 used13_4 used13_5 used13_6 used13_7
 else (bif decide (x3' < 0) then L14_3 n m1 cut2 size7 pieces8 2 most12 v41 v42 plan9 used13_0 used13_1 used13_2 used13_3 used13_4 used13_5 used13_6 used13_7
 else (bif decide (x3' > wr .i64 (most12 + 1)) then L14_3 n m1 cut2 size7 pieces8 7 most12 v41 v42 plan9 used13_0 used13_1 used13_2 used13_3 used13_4 used13_5 used13_6 used13_7
 else (bif inB x3' 8 then (idx [used13_0, used13_1, used13_2, used13_3, used13_4, used13_5, used13_6, used13_7] x3').bind fun x4' =>
 (idx pieces8 v42).bind fun x5' =>
 (bif inB x3' 8 then L14_3 n m1 cut2 size7 pieces8 want11 (if x3' > most12 then x3' else most12) v41 v42 plan9 (bif (x3' == 0) then wr .i64 (x4' + x5') else used13_0) (bif (x3' == 1) then wr .i64 (x4' + x5') else used13_1) (bif (x3' == 2) then wr .i64 (x4' + x5') else used13_2) (bif (x3' == 3) then wr .i64 (x4' + x5') else used13_3) (bif (x3' == 4) then wr .i64 (x4' + x5') else used13_4) (bif (x3' == 5) then wr .i64 (x4' + x5') else used13_5) (bif (x3' == 6) then wr .i64 (x4' + x5') else used13_6) (bif (x3' == 7) then wr .i64 (x4' + x5') else used13_7)
 else none)
 else none))))
 else none)
 else (bif ((want11 == 0) == true) then (bif bounds none none none 8 then (S62 n [used13_0, used13_1, used13_2, used13_3, used13_4, used13_5, used13_6, used13_7]).bind fun r7' =>
 (bif decide (r7' > size7) then (bif 16 == 0 then none
 else ((bif (((Int.tmod cut2 16) == 0) == true) then some (decide ((plan9.length : Int) > 0))
 else some false)).bind fun b8' =>
 (bif b8' then (bif bounds (some 1) none none plan9.length then (S18 n size7 pieces8 ((plan9.drop (0 + (Int.toNat 1))).take (plan9.length - (Int.toNat 1)))).bind fun r9' =>
 (S20 n size7 pieces8 ((plan9.drop (0 + (Int.toNat 1))).take (plan9.length - (Int.toNat 1)))).bind fun r10' =>
 (S28 n size7 pieces8 ((plan9.drop (0 + (Int.toNat 1))).take (plan9.length - (Int.toNat 1)))).bind fun r11' =>
 ((bif ((r11' == 5) == true) then some (r9'.2 == 5)
 else some false)).bind fun b12' =>
 ((bif (b12' == true) then some (r10'.2 == 5)
 else some false)).bind fun b13' =>
 ((bif (b13' == true) then (S17 n).bind fun r14' =>
 some r14'
 else some false)).bind fun b15' =>
 some b15'
 else none)
 else (S18 n size7 pieces8 plan9).bind fun r16' =>
 (S20 n size7 pieces8 plan9).bind fun r17' =>
 (S28 n size7 pieces8 plan9).bind fun r18' =>
 ((bif ((r18' == 15) == true) then some (r16'.2 == 15)
 else some false)).bind fun b19' =>
 ((bif (b19' == true) then some (r17'.2 == 15)
 else some false)).bind fun b20' =>
 ((bif (b20' == true) then (S17 n).bind fun r21' =>
 some r21'
 else some false)).bind fun b22' =>
 some b22'))
 else (bif 16 == 0 then none
 else ((bif (((Int.tmod cut2 16) == 0) == true) then some (decide ((plan9.length : Int) > 0))
 else some false)).bind fun b23' =>
 (bif b23' then (bif bounds (some 1) none none plan9.length then (S18 n size7 pieces8 ((plan9.drop (0 + (Int.toNat 1))).take (plan9.length - (Int.toNat 1)))).bind fun r24' =>
 (S20 n size7 pieces8 ((plan9.drop (0 + (Int.toNat 1))).take (plan9.length - (Int.toNat 1)))).bind fun r25' =>
 (S28 n size7 pieces8 ((plan9.drop (0 + (Int.toNat 1))).take (plan9.length - (Int.toNat 1)))).bind fun r26' =>
 ((bif ((r26' == 5) == true) then some (r24'.2 == 5)
 else some false)).bind fun b27' =>
 ((bif (b27' == true) then some (r25'.2 == 5)
 else some false)).bind fun b28' =>
 ((bif (b28' == true) then (S17 n).bind fun r29' =>
 some r29'
 else some false)).bind fun b30' =>
 some b30'
 else none)
 else (S18 n size7 pieces8 plan9).bind fun r31' =>
 (S20 n size7 pieces8 plan9).bind fun r32' =>
 (S28 n size7 pieces8 plan9).bind fun r33' =>
 ((bif ((r33' == want11) == true) then some (r31'.2 == want11)
 else some false)).bind fun b34' =>
 ((bif (b34' == true) then some (r32'.2 == want11)
 else some false)).bind fun b35' =>
 ((bif (b35' == true) then (S17 n).bind fun r36' =>
 some r36'
 else some false)).bind fun b37' =>
 some b37')))
 else none)
 else (bif false then (bif 16 == 0 then none
 else ((bif (((Int.tmod cut2 16) == 0) == true) then some (decide ((plan9.length : Int) > 0))
 else some false)).bind fun b38' =>
 (bif b38' then (bif bounds (some 1) none none plan9.length then (S18 n size7 pieces8 ((plan9.drop (0 + (Int.toNat 1))).take (plan9.length - (Int.toNat 1)))).bind fun r39' =>
 (S20 n size7 pieces8 ((plan9.drop (0 + (Int.toNat 1))).take (plan9.length - (Int.toNat 1)))).bind fun r40' =>
 (S28 n size7 pieces8 ((plan9.drop (0 + (Int.toNat 1))).take (plan9.length - (Int.toNat 1)))).bind fun r41' =>
 ((bif ((r41' == 5) == true) then some (r39'.2 == 5)
 else some false)).bind fun b42' =>
 ((bif (b42' == true) then some (r40'.2 == 5)
 else some false)).bind fun b43' =>
 ((bif (b43' == true) then (S17 n).bind fun r44' =>
 some r44'
 else some false)).bind fun b45' =>
 some b45'
 else none)
 else (S18 n size7 pieces8 plan9).bind fun r46' =>
 (S20 n size7 pieces8 plan9).bind fun r47' =>
 (S28 n size7 pieces8 plan9).bind fun r48' =>
 ((bif ((r48' == 15) == true) then some (r46'.2 == 15)
 else some false)).bind fun b49' =>
 ((bif (b49' == true) then some (r47'.2 == 15)
 else some false)).bind fun b50' =>
 ((bif (b50' == true) then (S17 n).bind fun r51' =>
 some r51'
 else some false)).bind fun b52' =>
 some b52'))
 else (bif 16 == 0 then none
 else ((bif (((Int.tmod cut2 16) == 0) == true) then some (decide ((plan9.length : Int) > 0))
 else some false)).bind fun b53' =>
 (bif b53' then (bif bounds (some 1) none none plan9.length then (S18 n size7 pieces8 ((plan9.drop (0 + (Int.toNat 1))).take (plan9.length - (Int.toNat 1)))).bind fun r54' =>
 (S20 n size7 pieces8 ((plan9.drop (0 + (Int.toNat 1))).take (plan9.length - (Int.toNat 1)))).bind fun r55' =>
 (S28 n size7 pieces8 ((plan9.drop (0 + (Int.toNat 1))).take (plan9.length - (Int.toNat 1)))).bind fun r56' =>
 ((bif ((r56' == 5) == true) then some (r54'.2 == 5)
 else some false)).bind fun b57' =>
 ((bif (b57' == true) then some (r55'.2 == 5)
 else some false)).bind fun b58' =>
 ((bif (b58' == true) then (S17 n).bind fun r59' =>
 some r59'
 else some false)).bind fun b60' =>
 some b60'
 else none)
 else (S18 n size7 pieces8 plan9).bind fun r61' =>
 (S20 n size7 pieces8 plan9).bind fun r62' =>
 (S28 n size7 pieces8 plan9).bind fun r63' =>
 ((bif ((r63' == want11) == true) then some (r61'.2 == want11)
 else some false)).bind fun b64' =>
 ((bif (b64' == true) then some (r62'.2 == want11)
 else some false)).bind fun b65' =>
 ((bif (b65' == true) then (S17 n).bind fun r66' =>
 some r66'
 else some false)).bind fun b67' =>
 some b67'))))) := by kernel_rfl
theorem L14_3_raw (n : Nat × Nat) (m1 : Nat) (cut2 : Int) (size7 : Int) (pieces8 : List Int) (want11 : Int) (most12 : Int) (v41 : Int) (v42 : Int) (plan9 : List Int) (used13_0 : Int) (used13_1 : Int) (used13_2 : Int) (used13_3 : Int) (used13_4 : Int) (used13_5 : Int) (used13_6 : Int) (used13_7 : Int) : (kq14_16 n m1) { tm := [uu, uu, .c (.int .u8 cut2), uu, uu, uu, uu, .c (.int .i64 size7), .c (.sl (.int .i64) pieces8 false), .own 9 none false, uu, .c (.int .i64 want11), .c (.int .i64 most12), .ptr 13 0, uu, uu, uu, uu, uu, uu, uu, uu, uu, uu, uu, uu, uu, uu, uu, uu, uu, uu, uu, uu, uu, uu, uu, uu, uu, uu, .own 9 none false, .c (.int .i64 v41), .c (.int .i64 v42), uu, uu, uu, uu, uu, uu, uu, uu, uu, uu, uu, uu, uu, uu, uu, uu, uu, uu, uu, uu, uu, uu, uu, uu, uu, uu, uu, uu, uu, uu, uu, uu, uu, uu, uu, uu, uu, uu, uu, uu, uu, uu, uu, uu, uu, uu, uu, uu, uu, uu, uu, uu, uu, uu, uu, uu, uu, uu, uu, uu, uu, uu, uu, uu, uu, uu, uu, uu, uu, uu, uu, uu, uu, uu, uu, uu, uu, uu, uu], hp := (upd (upd emp 13 (.box [.int .i64 used13_0, .int .i64 used13_1, .int .i64 used13_2, .int .i64 used13_3, .int .i64 used13_4, .int .i64 used13_5, .int .i64 used13_6, .int .i64 used13_7])) 9 (.arr (.int .i64) plan9 false)) } =
    L14_2 n m1 cut2 size7 pieces8 want11 most12 v41 (wr .i64 (v42 + 1)) plan9 used13_0 used13_1 used13_2 used13_3 used13_4 used13_5 used13_6 used13_7 := by kernel_rfl
noncomputable def S14 (n : Nat × Nat) (s0 : Int × Int × Int × Int × Int × Int × Int × Int × Int × Int × Int) (v1 : Int × Int × Int × Int × Int × Int × Int × Int) (cut2 : Int) : Option R14 := run (E14 n) c14 an14 rt14 (fun _ _ => none) rt14 { tm := [.agg [.int .u8 s0.1, .int .u8 s0.2.1, .int .u8 s0.2.2.1, .int .u8 s0.2.2.2.1, .int .u8 s0.2.2.2.2.1, .int .u8 s0.2.2.2.2.2.1, .int .u8 s0.2.2.2.2.2.2.1, .int .u8 s0.2.2.2.2.2.2.2.1, .int .u8 s0.2.2.2.2.2.2.2.2.1, .int .u8 s0.2.2.2.2.2.2.2.2.2.1, .int .u8 s0.2.2.2.2.2.2.2.2.2.2], .agg [.int .i8 v1.1, .int .i8 v1.2.1, .int .i8 v1.2.2.1, .int .i8 v1.2.2.2.1, .int .i8 v1.2.2.2.2.1, .int .i8 v1.2.2.2.2.2.1, .int .i8 v1.2.2.2.2.2.2.1, .int .i8 v1.2.2.2.2.2.2.2], .c (.int .u8 cut2), uu, uu, uu, uu, uu, uu, uu, uu, uu, uu, uu, uu, uu, uu, uu, uu, uu, uu, uu, uu, uu, uu, uu, uu, uu, uu, uu, uu, uu, uu, uu, uu, uu, uu, uu, uu, uu, uu, uu, uu, uu, uu, uu, uu, uu, uu, uu, uu, uu, uu, uu, uu, uu, uu, uu, uu, uu, uu, uu, uu, uu, uu, uu, uu, uu, uu, uu, uu, uu, uu, uu, uu, uu, uu, uu, uu, uu, uu, uu, uu, uu, uu, uu, uu, uu, uu, uu, uu, uu, uu, uu, uu, uu, uu, uu, uu, uu, uu, uu, uu, uu, uu, uu, uu, uu, uu, uu, uu, uu, uu, uu, uu, uu, uu, uu, uu, uu, uu, uu], hp := emp }
theorem S14_eq (n : Nat × Nat) (s0 : Int × Int × Int × Int × Int × Int × Int × Int × Int × Int × Int) (v1 : Int × Int × Int × Int × Int × Int × Int × Int) (cut2 : Int) : S14 n s0 v1 cut2 =
 (S48 n s0 8).bind fun r1' =>
    L14_1 n n.1 cut2 r1'.1 r1'.2 (r1'.2.length : Int) 0 v1.1 v1.2.1 v1.2.2.1 v1.2.2.2.1 v1.2.2.2.2.1 v1.2.2.2.2.2.1 v1.2.2.2.2.2.2.1 v1.2.2.2.2.2.2.2 [] := by kernel_rfl
theorem S14_run (n : Nat × Nat) (xs : pksDen pk14) : S14 n xs.1 xs.2.1 xs.2.2.1 = runG (E14 n) noScope c14 an14 (rtG rk14) (fun _ _ => none) (rtG rk14) (st0 pk14 xs Tryd.f14.ntmps) := by kernel_rfl
noncomputable def P14 (n : Nat × Nat) := phiOf pk14 rk14 (fun xs => S14 n xs.1 xs.2.1 xs.2.2.1)
theorem env14 (n : Nat × Nat) : EnvOK Tryd.prog (E14 n) := envOK0 (consPhi_ok (FC17 n) call17 (consPhi_ok (FC18 n) call18 (consPhi_ok (FC20 n) call20 (consPhi_ok (FC28 n) call28 (consPhi_ok (FC48 n) call48 (consPhi_ok (FC62 n) call62 noPhi_ok)))))) rfl rfl
theorem par14 (n : Nat × Nat) : EnvPar (E14 n) := envPar0 (consPhi_par phiOf_Par1 (consPhi_par phiOf_Par1 (consPhi_par phiOf_Par1 (consPhi_par phiOf_Par1 (consPhi_par phiOf_Par1 (consPhi_par phiOf_Par1 noPhi_par)))))) rfl
theorem FC14 (n : Nat × Nat) : FCs Tryd.prog 14 (P14 n) := phiOf_FCs fun xs r h vs hv => FC.of_runG tabOK eqsOK (env14 n) (par14 n) mixed (fun _ p _ => noScope_ok p.1 p.2) Tryd.func14 (c := c14) (an := an14) (pks := pk14) (rks := rk14) (by kernel_rfl) (by kernel_rfl) hv ((S14_run n xs).symm.trans h)
/-D 100 -/
noncomputable def DF100_1 (n : Nat × Nat) (f1 : Int → Int → Option R100) (v0 : Int) (d3 : Int) : Option R100 :=
 (bif decide (d3 < v0) then (bif d3 == 0 then none
 else (bif ((Int.tmod v0 d3) == 0) then some false
 else f1 v0 (wr .i64 (d3 + 1))))
 else some true)
noncomputable def DL100_1 (n : Nat × Nat) (m : Nat) : Int → Int → Option R100 := Nat.rec (motive := fun _ => Int → Int → Option R100) (fun _ _ => none) (fun _ ih => DF100_1 n ih) m
theorem DL100_1_succ (n : Nat × Nat) (m : Nat) : DL100_1 n (m + 1) = DF100_1 n (DL100_1 n m) := rfl
theorem DL100_1_eq (n : Nat × Nat) (hn : n.2 = 1) : ∀ m, L100_1 n m = DL100_1 n m
  | 0 => by funext v0 d3; kernel_rfl
  | m + 1 => by
    have ih := DL100_1_eq n hn m
    funext v0 d3; refine (L100_1_eq n m v0 d3).trans ?_
    rw [DL100_1_succ]
    unfold DF100_1
    (try simp only [ih]) <;> first | with_reducible rfl | rfl
noncomputable def D100 (n : Nat × Nat) (v0 : Int) : Option R100 :=
    DL100_1 n n.1 v0 2
theorem S100_D (n : Nat × Nat) (hn : n.2 = 1) : S100 n = D100 n := by
  funext v0; refine (S100_eq n v0).trans ?_
  unfold D100
  (try simp only [DL100_1_eq n hn]) <;> first | with_reducible rfl | rfl
/-D 89 -/
noncomputable def DL89_4 (n : Nat × Nat) (f1 : Int → Int → List Int → Option R89) (f2 : Int → Int → Int → Int → List Int → Option R89) (v1 : Int) (d6 : Int) (p7 : Int) (q8 : Int) (out5 : List Int) : Option R89 :=
    f2 v1 d6 p7 (wr .i64 (q8 + 1)) out5
theorem DL89_4_eq (n : Nat × Nat) (hn : n.2 = 1) (m1 m2 : Nat) : L89_4 n m1 m2 = DL89_4 n (L89_1 n m1) (L89_3 n m1 m2) := by
  funext v1 d6 p7 q8 out5; refine ((held_eq hn _).trans (L89_4_raw n m1 m2 v1 d6 p7 q8 out5)).trans ?_
  unfold DL89_4
  (try simp only [S100_D n hn]) <;> first | with_reducible rfl | rfl
noncomputable def DF89_3 (n : Nat × Nat) (f1 : Int → Int → List Int → Option R89) (f2 : Int → Int → Int → Int → List Int → Option R89) (v1 : Int) (d6 : Int) (p7 : Int) (q8 : Int) (out5 : List Int) : Option R89 :=
 (bif decide (q8 ≤ d6) then (bif q8 == 0 then none
 else ((bif (((Int.tmod d6 q8) == 0) == true) then (D100 n q8).bind fun r1' =>
 some r1'
 else some false)).bind fun b2' =>
 (bif b2' then DL89_4 n f1 f2 v1 d6 q8 q8 out5
 else DL89_4 n f1 f2 v1 d6 p7 q8 out5))
 else (bif p7 == 0 then none
 else (bif decide (out5.length + [wr .i64 (Int.tdiv d6 p7)].length ≤ lim) then (bif 2 == 0 then none
 else f1 (wr .i64 (Int.tdiv v1 2)) (wr .i64 (Int.tdiv d6 p7)) (out5 ++ [wr .i64 (Int.tdiv d6 p7)]))
 else none)))
noncomputable def DL89_3 (n : Nat × Nat) (f1 : Int → Int → List Int → Option R89) (m : Nat) : Int → Int → Int → Int → List Int → Option R89 := Nat.rec (motive := fun _ => Int → Int → Int → Int → List Int → Option R89) (fun _ _ _ _ _ => none) (fun _ ih => DF89_3 n f1 ih) m
theorem DL89_3_succ (n : Nat × Nat) (f1 : Int → Int → List Int → Option R89) (m : Nat) : DL89_3 n f1 (m + 1) = DF89_3 n f1 (DL89_3 n f1 m) := rfl
theorem DL89_3_eq (n : Nat × Nat) (hn : n.2 = 1) (m1 : Nat) : ∀ m, L89_3 n m1 m = DL89_3 n (L89_1 n m1) m
  | 0 => by funext v1 d6 p7 q8 out5; kernel_rfl
  | m + 1 => by
    have ih := DL89_3_eq n hn m1 m
    funext v1 d6 p7 q8 out5; refine (L89_3_eq n m1 m v1 d6 p7 q8 out5).trans ?_
    rw [DL89_3_succ]
    unfold DF89_3
    (try simp only [ih, DL89_4_eq n hn, S100_D n hn]) <;> first | with_reducible rfl | rfl
noncomputable def DF89_2 (n : Nat × Nat) (f1 : Int → Int → List Int → Option R89) (f2 : Int → Int → Int → List Int → Option R89) (v1 : Int) (d6 : Int) (p7 : Int) (out5 : List Int) : Option R89 :=
 (bif p7 == 0 then none
 else (bif ((Int.tmod d6 p7) != 0) then f2 v1 d6 (wr .i64 (p7 + 1)) out5
 else (bif 2 == 0 then none
 else (bif ((Int.tmod v1 2) == 1) then DL89_3 n f1 n.1 v1 d6 p7 p7 out5
 else (bif p7 == 0 then none
 else (bif decide (out5.length + [wr .i64 (Int.tdiv d6 p7)].length ≤ lim) then (bif 2 == 0 then none
 else f1 (wr .i64 (Int.tdiv v1 2)) (wr .i64 (Int.tdiv d6 p7)) (out5 ++ [wr .i64 (Int.tdiv d6 p7)]))
 else none))))))
noncomputable def DL89_2 (n : Nat × Nat) (f1 : Int → Int → List Int → Option R89) (m : Nat) : Int → Int → Int → List Int → Option R89 := Nat.rec (motive := fun _ => Int → Int → Int → List Int → Option R89) (fun _ _ _ _ => none) (fun _ ih => DF89_2 n f1 ih) m
theorem DL89_2_succ (n : Nat × Nat) (f1 : Int → Int → List Int → Option R89) (m : Nat) : DL89_2 n f1 (m + 1) = DF89_2 n f1 (DL89_2 n f1 m) := rfl
theorem DL89_2_eq (n : Nat × Nat) (hn : n.2 = 1) (m1 : Nat) : ∀ m, L89_2 n m1 m = DL89_2 n (L89_1 n m1) m
  | 0 => by funext v1 d6 p7 out5; kernel_rfl
  | m + 1 => by
    have ih := DL89_2_eq n hn m1 m
    funext v1 d6 p7 out5; refine (L89_2_eq n m1 m v1 d6 p7 out5).trans ?_
    rw [DL89_2_succ]
    unfold DF89_2
    (try simp only [ih, DL89_4_eq n hn, DL89_3_eq n hn, S100_D n hn]) <;> first | with_reducible rfl | rfl
noncomputable def DF89_1 (n : Nat × Nat) (f1 : Int → Int → List Int → Option R89) (v1 : Int) (d6 : Int) (out5 : List Int) : Option R89 :=
 (bif decide (d6 > 1) then DL89_2 n f1 n.1 v1 d6 2 out5
 else some out5)
noncomputable def DL89_1 (n : Nat × Nat) (m : Nat) : Int → Int → List Int → Option R89 := Nat.rec (motive := fun _ => Int → Int → List Int → Option R89) (fun _ _ _ => none) (fun _ ih => DF89_1 n ih) m
theorem DL89_1_succ (n : Nat × Nat) (m : Nat) : DL89_1 n (m + 1) = DF89_1 n (DL89_1 n m) := rfl
theorem DL89_1_eq (n : Nat × Nat) (hn : n.2 = 1) : ∀ m, L89_1 n m = DL89_1 n m
  | 0 => by funext v1 d6 out5; kernel_rfl
  | m + 1 => by
    have ih := DL89_1_eq n hn m
    funext v1 d6 out5; refine (L89_1_eq n m v1 d6 out5).trans ?_
    rw [DL89_1_succ]
    unfold DF89_1
    (try simp only [ih, DL89_4_eq n hn, DL89_3_eq n hn, DL89_2_eq n hn, S100_D n hn]) <;> first | with_reducible rfl | rfl
noncomputable def D89 (n : Nat × Nat) (size0 : Int) (v1 : Int) : Option R89 :=
    DL89_1 n n.1 v1 size0 [size0]
theorem S89_D (n : Nat × Nat) (hn : n.2 = 1) : S89 n = D89 n := by
  funext size0 v1; refine (S89_eq n size0 v1).trans ?_
  unfold D89
  (try simp only [DL89_4_eq n hn, DL89_3_eq n hn, DL89_2_eq n hn, DL89_1_eq n hn, S100_D n hn]) <;> first | with_reducible rfl | rfl
/-D 48 -/
noncomputable def DF48_1 (n : Nat × Nat) (f1 : Int → List Int → Int → Int → List Int → List Int → Option R48) (size6 : Int) (v44 : List Int) (v45 : Int) (v46 : Int) (lengths7 : List Int) (out9 : List Int) : Option R48 :=
 (bif decide (v46 < v45) then (idx v44 v46).bind fun x2' =>
 (bif (lengths7.length : Int) == 0 then none
 else (bif inB (Int.tmod (wr .i64 x2') (lengths7.length : Int)) lengths7.length then (idx lengths7 (Int.tmod (wr .i64 x2') (lengths7.length : Int))).bind fun x3' =>
 (bif decide (out9.length + [x3'].length ≤ lim) then f1 size6 v44 v45 (wr .i64 (v46 + 1)) lengths7 (out9 ++ [x3'])
 else none)
 else none))
 else some (size6, out9))
noncomputable def DL48_1 (n : Nat × Nat) (m : Nat) : Int → List Int → Int → Int → List Int → List Int → Option R48 := Nat.rec (motive := fun _ => Int → List Int → Int → Int → List Int → List Int → Option R48) (fun _ _ _ _ _ _ => none) (fun _ ih => DF48_1 n ih) m
theorem DL48_1_succ (n : Nat × Nat) (m : Nat) : DL48_1 n (m + 1) = DF48_1 n (DL48_1 n m) := rfl
theorem DL48_1_eq (n : Nat × Nat) (hn : n.2 = 1) : ∀ m, L48_1 n m = DL48_1 n m
  | 0 => by funext size6 v44 v45 v46 lengths7 out9; kernel_rfl
  | m + 1 => by
    have ih := DL48_1_eq n hn m
    funext size6 v44 v45 v46 lengths7 out9; refine (L48_1_eq n m size6 v44 v45 v46 lengths7 out9).trans ?_
    rw [DL48_1_succ]
    unfold DF48_1
    (try simp only [ih, S89_D n hn]) <;> first | with_reducible rfl | rfl
noncomputable def DF48_2 (n : Nat × Nat) (f1 : Int → Int → Int → Int → Int → Int → Int → Int → Int → Int → Int → Int → Int → Int → Int → List Int → Option R48) (most1 : Int) (size6 : Int) (v27 : Int) (v28 : Int) (s2_0 : Int) (s2_1 : Int) (s2_2 : Int) (s2_3 : Int) (s2_4 : Int) (s2_5 : Int) (s2_6 : Int) (s2_7 : Int) (s2_8 : Int) (s2_9 : Int) (s2_10 : Int) (lengths7 : List Int) : Option R48 :=
 (bif decide (v28 < v27) then (bif decide (lengths7.length + [wr .i64 (v28 + 1)].length ≤ lim) then f1 most1 size6 v27 (wr .i64 (v28 + 1)) s2_0 s2_1 s2_2 s2_3 s2_4 s2_5 s2_6 s2_7 s2_8 s2_9 s2_10 (lengths7 ++ [wr .i64 (v28 + 1)])
 else none)
 else (bif (wr .i64 (most1 + 1)) == 0 then none
 else (bif bounds none (some (Int.tmod (wr .i64 s2_1) (wr .i64 (most1 + 1)))) none 8 then DL48_1 n n.1 size6 ([s2_3, s2_4, s2_5, s2_6, s2_7, s2_8, s2_9, s2_10].take (Int.toNat (Int.tmod (wr .i64 s2_1) (wr .i64 (most1 + 1))))) (([s2_3, s2_4, s2_5, s2_6, s2_7, s2_8, s2_9, s2_10].take (Int.toNat (Int.tmod (wr .i64 s2_1) (wr .i64 (most1 + 1))))).length : Int) 0 lengths7 []
 else none)))
noncomputable def DL48_2 (n : Nat × Nat) (m : Nat) : Int → Int → Int → Int → Int → Int → Int → Int → Int → Int → Int → Int → Int → Int → Int → List Int → Option R48 := Nat.rec (motive := fun _ => Int → Int → Int → Int → Int → Int → Int → Int → Int → Int → Int → Int → Int → Int → Int → List Int → Option R48) (fun _ _ _ _ _ _ _ _ _ _ _ _ _ _ _ _ => none) (fun _ ih => DF48_2 n ih) m
theorem DL48_2_succ (n : Nat × Nat) (m : Nat) : DL48_2 n (m + 1) = DF48_2 n (DL48_2 n m) := rfl
theorem DL48_2_eq (n : Nat × Nat) (hn : n.2 = 1) : ∀ m, L48_2 n m = DL48_2 n m
  | 0 => by funext most1 size6 v27 v28 s2_0 s2_1 s2_2 s2_3 s2_4 s2_5 s2_6 s2_7 s2_8 s2_9 s2_10 lengths7; kernel_rfl
  | m + 1 => by
    have ih := DL48_2_eq n hn m
    funext most1 size6 v27 v28 s2_0 s2_1 s2_2 s2_3 s2_4 s2_5 s2_6 s2_7 s2_8 s2_9 s2_10 lengths7; refine (L48_2_eq n m most1 size6 v27 v28 s2_0 s2_1 s2_2 s2_3 s2_4 s2_5 s2_6 s2_7 s2_8 s2_9 s2_10 lengths7).trans ?_
    rw [DL48_2_succ]
    unfold DF48_2
    (try simp only [ih, DL48_1_eq n hn, S89_D n hn]) <;> first | with_reducible rfl | rfl
noncomputable def D48 (n : Nat × Nat) (s0 : Int × Int × Int × Int × Int × Int × Int × Int × Int × Int × Int) (most1 : Int) : Option R48 :=
 (bif 24 == 0 then none
 else (bif 2 == 0 then none
 else (bif ((Int.tmod s0.2.2.1 2) == 1) then (bif 2 == 0 then none
 else (D89 n (wr .i64 (1 + (Int.tmod (wr .i64 s0.1) 24))) (wr .i64 (Int.tdiv (wr .i64 s0.2.2.1) 2))).bind fun r1' =>
 (bif (wr .i64 (most1 + 1)) == 0 then none
 else (bif bounds none (some (Int.tmod (wr .i64 s0.2.1) (wr .i64 (most1 + 1)))) none 8 then DL48_1 n n.1 (wr .i64 (1 + (Int.tmod (wr .i64 s0.1) 24))) ([s0.2.2.2.1, s0.2.2.2.2.1, s0.2.2.2.2.2.1, s0.2.2.2.2.2.2.1, s0.2.2.2.2.2.2.2.1, s0.2.2.2.2.2.2.2.2.1, s0.2.2.2.2.2.2.2.2.2.1, s0.2.2.2.2.2.2.2.2.2.2].take (Int.toNat (Int.tmod (wr .i64 s0.2.1) (wr .i64 (most1 + 1))))) (([s0.2.2.2.1, s0.2.2.2.2.1, s0.2.2.2.2.2.1, s0.2.2.2.2.2.2.1, s0.2.2.2.2.2.2.2.1, s0.2.2.2.2.2.2.2.2.1, s0.2.2.2.2.2.2.2.2.2.1, s0.2.2.2.2.2.2.2.2.2.2].take (Int.toNat (Int.tmod (wr .i64 s0.2.1) (wr .i64 (most1 + 1))))).length : Int) 0 r1' []
 else none)))
 else DL48_2 n n.1 most1 (wr .i64 (1 + (Int.tmod (wr .i64 s0.1) 24))) (wr .i64 (1 + (Int.tmod (wr .i64 s0.1) 24))) 0 s0.1 s0.2.1 s0.2.2.1 s0.2.2.2.1 s0.2.2.2.2.1 s0.2.2.2.2.2.1 s0.2.2.2.2.2.2.1 s0.2.2.2.2.2.2.2.1 s0.2.2.2.2.2.2.2.2.1 s0.2.2.2.2.2.2.2.2.2.1 s0.2.2.2.2.2.2.2.2.2.2 [])))
theorem S48_D (n : Nat × Nat) (hn : n.2 = 1) : S48 n = D48 n := by
  funext s0 most1; refine (S48_eq n s0 most1).trans ?_
  unfold D48
  (try simp only [DL48_1_eq n hn, DL48_2_eq n hn, S89_D n hn]) <;> first | with_reducible rfl | rfl
/-D 62 -/
noncomputable def DF62_1 (n : Nat × Nat) (f1 : List Int → Int → Int → Option R62) (x0 : List Int) (m3 : Int) (i4 : Int) : Option R62 :=
 (bif decide (i4 < (x0.length : Int)) then (idx x0 i4).bind fun x2' =>
      f1 x0 (if x2' > m3 then x2' else m3) (wr .i64 (i4 + 1))
 else some m3)
noncomputable def DL62_1 (n : Nat × Nat) (m : Nat) : List Int → Int → Int → Option R62 := Nat.rec (motive := fun _ => List Int → Int → Int → Option R62) (fun _ _ _ => none) (fun _ ih => DF62_1 n ih) m
theorem DL62_1_succ (n : Nat × Nat) (m : Nat) : DL62_1 n (m + 1) = DF62_1 n (DL62_1 n m) := rfl
theorem DL62_1_eq (n : Nat × Nat) (hn : n.2 = 1) : ∀ m, L62_1 n m = DL62_1 n m
  | 0 => by funext x0 m3 i4; kernel_rfl
  | m + 1 => by
    have ih := DL62_1_eq n hn m
    funext x0 m3 i4; refine (L62_1_eq n m x0 m3 i4).trans ?_
    rw [DL62_1_succ]
    unfold DF62_1
    (try simp only [ih]) <;> first | with_reducible rfl | rfl
noncomputable def D62 (n : Nat × Nat) (x0 : List Int) : Option R62 :=
 (bif decide ((x0.length : Int) < 1) then none
 else (idx x0 0).bind fun x1' =>
      DL62_1 n n.1 x0 x1' 1)
theorem S62_D (n : Nat × Nat) (hn : n.2 = 1) : S62 n = D62 n := by
  funext x0; refine (S62_eq n x0).trans ?_
  unfold D62
  (try simp only [DL62_1_eq n hn]) <;> first | with_reducible rfl | rfl
/-D 14 -/
noncomputable def DL14_3 (n : Nat × Nat) (f1 : Int → Int → List Int → Int → Int → Int → Int → List Int → Int → Int → Int → Int → Int → Int → Int → Int → Option R14) (cut2 : Int) (size7 : Int) (pieces8 : List Int) (want11 : Int) (most12 : Int) (v41 : Int) (v42 : Int) (plan9 : List Int) (used13_0 : Int) (used13_1 : Int) (used13_2 : Int) (used13_3 : Int) (used13_4 : Int) (used13_5 : Int) (used13_6 : Int) (used13_7 : Int) : Option R14 :=
    f1 cut2 size7 pieces8 want11 most12 v41 (wr .i64 (v42 + 1)) plan9 used13_0 used13_1 used13_2 used13_3 used13_4 used13_5 used13_6 used13_7
theorem DL14_3_eq (n : Nat × Nat) (hn : n.2 = 1) (m1 : Nat) : L14_3 n m1 = DL14_3 n (L14_2 n m1) := by
  funext cut2 size7 pieces8 want11 most12 v41 v42 plan9 used13_0 used13_1 used13_2 used13_3 used13_4 used13_5 used13_6 used13_7; refine ((held_eq hn _).trans (L14_3_raw n m1 cut2 size7 pieces8 want11 most12 v41 v42 plan9 used13_0 used13_1 used13_2 used13_3 used13_4 used13_5 used13_6 used13_7)).trans ?_
  unfold DL14_3
  (try simp only [S17_D n hn, S18_D n hn, S20_D n hn, S28_D n hn, S48_D n hn, S62_D n hn]) <;> first | with_reducible rfl | rfl
noncomputable def DF14_2 (n : Nat × Nat) (f1 : Int → Int → List Int → Int → Int → Int → Int → List Int → Int → Int → Int → Int → Int → Int → Int → Int → Option R14) (cut2 : Int) (size7 : Int) (pieces8 : List Int) (want11 : Int) (most12 : Int) (v41 : Int) (v42 : Int) (plan9 : List Int) (used13_0 : Int) (used13_1 : Int) (used13_2 : Int) (used13_3 : Int) (used13_4 : Int) (used13_5 : Int) (used13_6 : Int) (used13_7 : Int) : Option R14 :=
 (bif decide (v42 < v41) then (bif inB v42 plan9.length then (idx plan9 v42).bind fun x3' =>
 (bif (want11 != 0) then DL14_3 n f1 cut2 size7 pieces8 want11 most12 v41 v42 plan9 used13_0 used13_1 used13_2 used13_3 used13_4 used13_5 used13_6 used13_7
 else (bif decide (x3' < 0) then DL14_3 n f1 cut2 size7 pieces8 2 most12 v41 v42 plan9 used13_0 used13_1 used13_2 used13_3 used13_4 used13_5 used13_6 used13_7
 else (bif decide (x3' > wr .i64 (most12 + 1)) then DL14_3 n f1 cut2 size7 pieces8 7 most12 v41 v42 plan9 used13_0 used13_1 used13_2 used13_3 used13_4 used13_5 used13_6 used13_7
 else (bif inB x3' 8 then (idx [used13_0, used13_1, used13_2, used13_3, used13_4, used13_5, used13_6, used13_7] x3').bind fun x4' =>
 (idx pieces8 v42).bind fun x5' =>
 (bif inB x3' 8 then DL14_3 n f1 cut2 size7 pieces8 want11 (if x3' > most12 then x3' else most12) v41 v42 plan9 (bif (x3' == 0) then wr .i64 (x4' + x5') else used13_0) (bif (x3' == 1) then wr .i64 (x4' + x5') else used13_1) (bif (x3' == 2) then wr .i64 (x4' + x5') else used13_2) (bif (x3' == 3) then wr .i64 (x4' + x5') else used13_3) (bif (x3' == 4) then wr .i64 (x4' + x5') else used13_4) (bif (x3' == 5) then wr .i64 (x4' + x5') else used13_5) (bif (x3' == 6) then wr .i64 (x4' + x5') else used13_6) (bif (x3' == 7) then wr .i64 (x4' + x5') else used13_7)
 else none)
 else none))))
 else none)
 else (bif ((want11 == 0) == true) then (bif bounds none none none 8 then (D62 n [used13_0, used13_1, used13_2, used13_3, used13_4, used13_5, used13_6, used13_7]).bind fun r7' =>
 (bif decide (r7' > size7) then (bif 16 == 0 then none
 else ((bif (((Int.tmod cut2 16) == 0) == true) then some (decide ((plan9.length : Int) > 0))
 else some false)).bind fun b8' =>
 (bif b8' then (bif bounds (some 1) none none plan9.length then (D18 n size7 pieces8 ((plan9.drop (0 + (Int.toNat 1))).take (plan9.length - (Int.toNat 1)))).bind fun r9' =>
 (D20 n size7 pieces8 ((plan9.drop (0 + (Int.toNat 1))).take (plan9.length - (Int.toNat 1)))).bind fun r10' =>
 (D28 n size7 pieces8 ((plan9.drop (0 + (Int.toNat 1))).take (plan9.length - (Int.toNat 1)))).bind fun r11' =>
 ((bif ((r11' == 5) == true) then some (r9'.2 == 5)
 else some false)).bind fun b12' =>
 ((bif (b12' == true) then some (r10'.2 == 5)
 else some false)).bind fun b13' =>
 ((bif (b13' == true) then (D17 n).bind fun r14' =>
 some r14'
 else some false)).bind fun b15' =>
 some b15'
 else none)
 else (D18 n size7 pieces8 plan9).bind fun r16' =>
 (D20 n size7 pieces8 plan9).bind fun r17' =>
 (D28 n size7 pieces8 plan9).bind fun r18' =>
 ((bif ((r18' == 15) == true) then some (r16'.2 == 15)
 else some false)).bind fun b19' =>
 ((bif (b19' == true) then some (r17'.2 == 15)
 else some false)).bind fun b20' =>
 ((bif (b20' == true) then (D17 n).bind fun r21' =>
 some r21'
 else some false)).bind fun b22' =>
 some b22'))
 else (bif 16 == 0 then none
 else ((bif (((Int.tmod cut2 16) == 0) == true) then some (decide ((plan9.length : Int) > 0))
 else some false)).bind fun b23' =>
 (bif b23' then (bif bounds (some 1) none none plan9.length then (D18 n size7 pieces8 ((plan9.drop (0 + (Int.toNat 1))).take (plan9.length - (Int.toNat 1)))).bind fun r24' =>
 (D20 n size7 pieces8 ((plan9.drop (0 + (Int.toNat 1))).take (plan9.length - (Int.toNat 1)))).bind fun r25' =>
 (D28 n size7 pieces8 ((plan9.drop (0 + (Int.toNat 1))).take (plan9.length - (Int.toNat 1)))).bind fun r26' =>
 ((bif ((r26' == 5) == true) then some (r24'.2 == 5)
 else some false)).bind fun b27' =>
 ((bif (b27' == true) then some (r25'.2 == 5)
 else some false)).bind fun b28' =>
 ((bif (b28' == true) then (D17 n).bind fun r29' =>
 some r29'
 else some false)).bind fun b30' =>
 some b30'
 else none)
 else (D18 n size7 pieces8 plan9).bind fun r31' =>
 (D20 n size7 pieces8 plan9).bind fun r32' =>
 (D28 n size7 pieces8 plan9).bind fun r33' =>
 ((bif ((r33' == want11) == true) then some (r31'.2 == want11)
 else some false)).bind fun b34' =>
 ((bif (b34' == true) then some (r32'.2 == want11)
 else some false)).bind fun b35' =>
 ((bif (b35' == true) then (D17 n).bind fun r36' =>
 some r36'
 else some false)).bind fun b37' =>
 some b37')))
 else none)
 else (bif false then (bif 16 == 0 then none
 else ((bif (((Int.tmod cut2 16) == 0) == true) then some (decide ((plan9.length : Int) > 0))
 else some false)).bind fun b38' =>
 (bif b38' then (bif bounds (some 1) none none plan9.length then (D18 n size7 pieces8 ((plan9.drop (0 + (Int.toNat 1))).take (plan9.length - (Int.toNat 1)))).bind fun r39' =>
 (D20 n size7 pieces8 ((plan9.drop (0 + (Int.toNat 1))).take (plan9.length - (Int.toNat 1)))).bind fun r40' =>
 (D28 n size7 pieces8 ((plan9.drop (0 + (Int.toNat 1))).take (plan9.length - (Int.toNat 1)))).bind fun r41' =>
 ((bif ((r41' == 5) == true) then some (r39'.2 == 5)
 else some false)).bind fun b42' =>
 ((bif (b42' == true) then some (r40'.2 == 5)
 else some false)).bind fun b43' =>
 ((bif (b43' == true) then (D17 n).bind fun r44' =>
 some r44'
 else some false)).bind fun b45' =>
 some b45'
 else none)
 else (D18 n size7 pieces8 plan9).bind fun r46' =>
 (D20 n size7 pieces8 plan9).bind fun r47' =>
 (D28 n size7 pieces8 plan9).bind fun r48' =>
 ((bif ((r48' == 15) == true) then some (r46'.2 == 15)
 else some false)).bind fun b49' =>
 ((bif (b49' == true) then some (r47'.2 == 15)
 else some false)).bind fun b50' =>
 ((bif (b50' == true) then (D17 n).bind fun r51' =>
 some r51'
 else some false)).bind fun b52' =>
 some b52'))
 else (bif 16 == 0 then none
 else ((bif (((Int.tmod cut2 16) == 0) == true) then some (decide ((plan9.length : Int) > 0))
 else some false)).bind fun b53' =>
 (bif b53' then (bif bounds (some 1) none none plan9.length then (D18 n size7 pieces8 ((plan9.drop (0 + (Int.toNat 1))).take (plan9.length - (Int.toNat 1)))).bind fun r54' =>
 (D20 n size7 pieces8 ((plan9.drop (0 + (Int.toNat 1))).take (plan9.length - (Int.toNat 1)))).bind fun r55' =>
 (D28 n size7 pieces8 ((plan9.drop (0 + (Int.toNat 1))).take (plan9.length - (Int.toNat 1)))).bind fun r56' =>
 ((bif ((r56' == 5) == true) then some (r54'.2 == 5)
 else some false)).bind fun b57' =>
 ((bif (b57' == true) then some (r55'.2 == 5)
 else some false)).bind fun b58' =>
 ((bif (b58' == true) then (D17 n).bind fun r59' =>
 some r59'
 else some false)).bind fun b60' =>
 some b60'
 else none)
 else (D18 n size7 pieces8 plan9).bind fun r61' =>
 (D20 n size7 pieces8 plan9).bind fun r62' =>
 (D28 n size7 pieces8 plan9).bind fun r63' =>
 ((bif ((r63' == want11) == true) then some (r61'.2 == want11)
 else some false)).bind fun b64' =>
 ((bif (b64' == true) then some (r62'.2 == want11)
 else some false)).bind fun b65' =>
 ((bif (b65' == true) then (D17 n).bind fun r66' =>
 some r66'
 else some false)).bind fun b67' =>
 some b67')))))
noncomputable def DL14_2 (n : Nat × Nat) (m : Nat) : Int → Int → List Int → Int → Int → Int → Int → List Int → Int → Int → Int → Int → Int → Int → Int → Int → Option R14 := Nat.rec (motive := fun _ => Int → Int → List Int → Int → Int → Int → Int → List Int → Int → Int → Int → Int → Int → Int → Int → Int → Option R14) (fun _ _ _ _ _ _ _ _ _ _ _ _ _ _ _ _ => none) (fun _ ih => DF14_2 n ih) m
theorem DL14_2_succ (n : Nat × Nat) (m : Nat) : DL14_2 n (m + 1) = DF14_2 n (DL14_2 n m) := rfl
theorem DL14_2_eq (n : Nat × Nat) (hn : n.2 = 1) : ∀ m, L14_2 n m = DL14_2 n m
  | 0 => by funext cut2 size7 pieces8 want11 most12 v41 v42 plan9 used13_0 used13_1 used13_2 used13_3 used13_4 used13_5 used13_6 used13_7; kernel_rfl
  | m + 1 => by
    have ih := DL14_2_eq n hn m
    funext cut2 size7 pieces8 want11 most12 v41 v42 plan9 used13_0 used13_1 used13_2 used13_3 used13_4 used13_5 used13_6 used13_7; refine (L14_2_eq n m cut2 size7 pieces8 want11 most12 v41 v42 plan9 used13_0 used13_1 used13_2 used13_3 used13_4 used13_5 used13_6 used13_7).trans ?_
    rw [DL14_2_succ]
    unfold DF14_2
    (try simp only [ih, DL14_3_eq n hn, S17_D n hn, S18_D n hn, S20_D n hn, S28_D n hn, S48_D n hn, S62_D n hn]) <;> first | with_reducible rfl | rfl
noncomputable def DF14_1 (n : Nat × Nat) (f1 : Int → Int → List Int → Int → Int → Int → Int → Int → Int → Int → Int → Int → Int → List Int → Option R14) (cut2 : Int) (size7 : Int) (pieces8 : List Int) (v26 : Int) (v27 : Int) (v4_0 : Int) (v4_1 : Int) (v4_2 : Int) (v4_3 : Int) (v4_4 : Int) (v4_5 : Int) (v4_6 : Int) (v4_7 : Int) (plan9 : List Int) : Option R14 :=
 (bif decide (v27 < v26) then (bif inB v27 8 then (idx [v4_0, v4_1, v4_2, v4_3, v4_4, v4_5, v4_6, v4_7] v27).bind fun x2' =>
 (bif 4 == 0 then none
 else (bif decide (plan9.length + [(if (Int.tmod (wr .i64 x2') 4) > (-1) then (Int.tmod (wr .i64 x2') 4) else (-1))].length ≤ lim) then f1 cut2 size7 pieces8 v26 (wr .i64 (v27 + 1)) v4_0 v4_1 v4_2 v4_3 v4_4 v4_5 v4_6 v4_7 (plan9 ++ [(if (Int.tmod (wr .i64 x2') 4) > (-1) then (Int.tmod (wr .i64 x2') 4) else (-1))])
 else none))
 else none)
 else DL14_2 n n.1 cut2 size7 pieces8 0 (-1) (plan9.length : Int) 0 plan9 0 0 0 0 0 0 0 0)
noncomputable def DL14_1 (n : Nat × Nat) (m : Nat) : Int → Int → List Int → Int → Int → Int → Int → Int → Int → Int → Int → Int → Int → List Int → Option R14 := Nat.rec (motive := fun _ => Int → Int → List Int → Int → Int → Int → Int → Int → Int → Int → Int → Int → Int → List Int → Option R14) (fun _ _ _ _ _ _ _ _ _ _ _ _ _ _ => none) (fun _ ih => DF14_1 n ih) m
theorem DL14_1_succ (n : Nat × Nat) (m : Nat) : DL14_1 n (m + 1) = DF14_1 n (DL14_1 n m) := rfl
theorem DL14_1_eq (n : Nat × Nat) (hn : n.2 = 1) : ∀ m, L14_1 n m = DL14_1 n m
  | 0 => by funext cut2 size7 pieces8 v26 v27 v4_0 v4_1 v4_2 v4_3 v4_4 v4_5 v4_6 v4_7 plan9; kernel_rfl
  | m + 1 => by
    have ih := DL14_1_eq n hn m
    funext cut2 size7 pieces8 v26 v27 v4_0 v4_1 v4_2 v4_3 v4_4 v4_5 v4_6 v4_7 plan9; refine (L14_1_eq n m cut2 size7 pieces8 v26 v27 v4_0 v4_1 v4_2 v4_3 v4_4 v4_5 v4_6 v4_7 plan9).trans ?_
    rw [DL14_1_succ]
    unfold DF14_1
    (try simp only [ih, DL14_3_eq n hn, DL14_2_eq n hn, S17_D n hn, S18_D n hn, S20_D n hn, S28_D n hn, S48_D n hn, S62_D n hn]) <;> first | with_reducible rfl | rfl
noncomputable def D14 (n : Nat × Nat) (s0 : Int × Int × Int × Int × Int × Int × Int × Int × Int × Int × Int) (v1 : Int × Int × Int × Int × Int × Int × Int × Int) (cut2 : Int) : Option R14 :=
 (D48 n s0 8).bind fun r1' =>
    DL14_1 n n.1 cut2 r1'.1 r1'.2 (r1'.2.length : Int) 0 v1.1 v1.2.1 v1.2.2.1 v1.2.2.2.1 v1.2.2.2.2.1 v1.2.2.2.2.2.1 v1.2.2.2.2.2.2.1 v1.2.2.2.2.2.2.2 []
theorem S14_D (n : Nat × Nat) (hn : n.2 = 1) : S14 n = D14 n := by
  funext s0 v1 cut2; refine (S14_eq n s0 v1 cut2).trans ?_
  unfold D14
  (try simp only [DL14_3_eq n hn, DL14_2_eq n hn, DL14_1_eq n hn, S17_D n hn, S18_D n hn, S20_D n hn, S28_D n hn, S48_D n hn, S62_D n hn]) <;> first | with_reducible rfl | rfl
/-D 13 -/
end Go.Proofs.YtgmonagekfjnmaaDoor
set_option linter.unusedVariables false
set_option linter.unusedSimpArgs false
namespace Go.Proofs.YtgmonagekfjnmaaDoor
open Go.Vi
abbrev N : Nat × Nat := (1000000, 1)
theorem works_eq : D17 N = some true := by kernel_rfl
end Go.Proofs.YtgmonagekfjnmaaDoor
set_option linter.unusedVariables false
set_option linter.unusedSimpArgs false
set_option maxRecDepth 100000
namespace Go.Proofs.YtgmonagekfjnmaaDoor
open Go.Vi
noncomputable def c3 : Code := bodyOf Tryd.f3
/-D 16 -/
/-D 72 -/
/-D 27 -/
/-D 67 -/
/-D 68 -/
/-D 29 -/
/-D 19 -/
/-D 21 -/
/-D 73 -/
/-D 74 -/
/-D 23 -/
/-D 3 -/
end Go.Proofs.YtgmonagekfjnmaaDoor
set_option linter.unusedVariables false
set_option linter.unusedSimpArgs false
namespace Go.Proofs.YtgmonagekfjnmaaDoor
open Go.Vi
theorem hN1 : 1000 ≤ N.1 := by decide
theorem wr_ok {x : Int} (h1 : -9223372036854775808 ≤ x) (h2 : x ≤ 9223372036854775807) : wr .i64 x = x := by
  have : wr .i64 x = (x + 9223372036854775808) % 18446744073709551616 - 9223372036854775808 := by
    simp only [wr, IntKind.wrap, IntKind.signed, IntKind.bits]
    simp
    split <;> omega
  rw [this]
  omega
theorem wr_succ {k : Nat} (h : k < 1000000) : wr .i64 ((k : Int) + 1) = ((k + 1 : Nat) : Int) := by
  rw [wr_ok (by omega) (by omega)]; omega
theorem idx_nat {α : Type} {l : List α} {k : Nat} (h : k < l.length) : idx l (k : Int) = some l[k] := by
  unfold idx
  rw [if_pos (by omega), Int.toNat_natCast, List.getElem?_eq_getElem h]
theorem idx_int {α : Type} {l : List α} {k : Nat} {i : Int} (hi : i = k) (h : k < l.length) : idx l i = some l[k] := by
  subst hi
  exact idx_nat h
theorem drop_cons {α : Type} {l : List α} {k : Nat} (h : k < l.length) : l.drop k = l[k] :: l.drop (k + 1) := List.drop_eq_getElem_cons h
theorem inB_nat {k n : Nat} (h : k < n) : inB (k : Int) n = true := by
  unfold inB
  simp [h]
theorem lim_dec {α : Type} {a : Nat} {x : α} (h : a < 1000000) : decide (a + [x].length ≤ lim) = true := decide_eq_true (by simp [lim]; omega)
theorem dlt_t {a b : Nat} (h : a < b) : decide ((a : Int) < (b : Int)) = true := decide_eq_true (by omega)
theorem dlt_f {a b : Nat} (h : ¬ a < b) : decide ((a : Int) < (b : Int)) = false := decide_eq_false (by omega)
theorem take_snoc {α : Type} {l : List α} {k : Nat} (h : k < l.length) : l.take (k + 1) = l.take k ++ [l[k]] := (List.take_append_getElem h).symm
theorem max_if (a b : Int) : (if b > a then b else a) = max a b := by
  by_cases h : b > a
  · rw [if_pos h, Int.max_eq_right (by omega)]
  · rw [if_neg h, Int.max_eq_left (by omega)]
/-- The first place at which something holds, or -1. -/
def fnd (q : Int → Bool) : Nat → List Int → Int
  | _, [] => -1
  | k, x :: l => if q x then (k : Int) else fnd q (k + 1) l
theorem fnd_bnd (q : Int → Bool) : ∀ (l : List Int) (k : Nat), fnd q k l = -1 ∧ (∀ x ∈ l, q x = false) ∨ (k ≤ fnd q k l ∧ fnd q k l < k + l.length ∧ ∃ x ∈ l, q x = true)
  | [], k => by simp [fnd]
  | x :: l, k => by
    unfold fnd
    by_cases h : q x = true
    · rw [if_pos h]
      exact .inr ⟨by omega, by simp; omega, x, by simp, h⟩
    · rw [if_neg h]
      rcases fnd_bnd q l (k + 1) with ⟨h1, h2⟩ | ⟨h1, h2, y, hy, hq⟩
      · exact .inl ⟨h1, fun y hy => (List.mem_cons.1 hy).elim (fun e => by rw [e]; simpa using h) (fun hy => h2 y hy)⟩
      · exact .inr ⟨by omega, by simp; omega, y, by simp [hy], hq⟩
theorem fnd_ge (q : Int → Bool) (l : List Int) (k : Nat) : (0 ≤ fnd q k l) ↔ ∃ x ∈ l, q x = true := by
  rcases fnd_bnd q l k with ⟨h1, h2⟩ | ⟨h1, h2, h3⟩
  · constructor
    · intro h; omega
    · rintro ⟨x, hx, hq⟩; rw [h2 x hx] at hq; cases hq
  · exact ⟨fun _ => h3, fun _ => by omega⟩
/-- A job's error. -/
def BadP (sz p : Int) : Prop := p < 1 ∨ sz < p
instance (sz p : Int) : Decidable (BadP sz p) := inferInstanceAs (Decidable (_ ∨ _))
def chk (sz : Int) (ps : List Int) : Int := if sz < 1 ∨ 24 < sz then 1 else if 8 < ps.length then 3 else if ∃ p ∈ ps, BadP sz p then 1 else 0
structure Job (sz : Int) (ps : List Int) : Prop where
  lo : 1 ≤ sz
  hi : sz ≤ 24
  len : ps.length ≤ 8
  ok : ∀ p ∈ ps, 1 ≤ p ∧ p ≤ sz
theorem chk_job {sz : Int} {ps : List Int} : chk sz ps = 0 ↔ Job sz ps := by
  unfold chk
  constructor
  · intro h
    split at h
    · omega
    · split at h
      · omega
      · split at h
        · omega
        · rename_i h1 h2 h3
          refine ⟨by omega, by omega, by omega, fun p hp => ?_⟩
          have : ¬ BadP sz p := fun hb => h3 ⟨p, hp, hb⟩
          unfold BadP at this
          omega
  · intro h
    have := h.lo
    have := h.hi
    have := h.len
    rw [if_neg (by omega), if_neg (by omega), if_neg]
    rintro ⟨p, hp, hb⟩
    have := h.ok p hp
    unfold BadP at hb
    omega
theorem bad_eq (n : Nat × Nat) (p sz : Int) : D76 n p sz = some (decide (BadP sz p)) := by
  unfold D76 BadP
  by_cases h : p < 1
  · rw [decide_eq_true h]; simp [h]
  · rw [decide_eq_false h]; simp [h]
theorem idxf_loop (n : Nat × Nat) (l : List Int) (sz : Int) (hs : l.length < 100000) : ∀ (m k : Nat), k ≤ l.length → l.length - k < m → DL79c76_1 n m l sz (l.length : Int) (k : Int) = some (fnd (fun p => decide (BadP sz p)) k (l.drop k))
  | 0, k, _, h => by omega
  | m + 1, k, hk, h => by
    rw [DL79c76_1_succ]
    unfold DF79c76_1
    by_cases hlt : k < l.length
    · have ih := idxf_loop n l sz hs m (k + 1) (by omega) (by omega)
      rw [dlt_t hlt, cond_true, idx_nat hlt, Option.bind_some, bad_eq, Option.bind_some, wr_succ (by omega), ih, drop_cons hlt]
      generalize l.drop (k + 1) = t at *
      generalize l[k] = x at *
      unfold fnd
      by_cases e : BadP sz x
      · simp [e]
      · simp only [e, decide_false, cond_false, Bool.false_eq_true, if_false]
        cases t <;> rfl
    · rw [dlt_f hlt, cond_false, List.drop_of_length_le (by omega)]
      rfl
theorem anyb_eq {n : Nat × Nat} (l : List Int) (sz : Int) (hs : l.length < n.1) (hs2 : l.length < 100000) : D75c76 n l sz = some (decide (∃ p ∈ l, BadP sz p)) := by
  unfold D75c76 D79c76
  have := idxf_loop n l sz hs2 n.1 0 (by omega) (by omega)
  rw [show ((0 : Nat) : Int) = 0 from rfl, List.drop_zero] at this
  rw [this, Option.bind_some]
  congr 1
  apply decide_eq_decide.2
  have := fnd_ge (fun p => decide (BadP sz p)) l 0
  simp only [decide_eq_true_eq] at this
  exact this
theorem Check_eq {n : Nat × Nat} (hn : 1000 ≤ n.1) (sz : Int) (ps : List Int) : D26 n sz ps = some (chk sz ps) := by
  unfold D26 chk
  by_cases h1 : sz < 1
  · rw [decide_eq_true h1, if_pos (.inl h1)]; rfl
  · rw [decide_eq_false h1]
    by_cases h2 : 24 < sz
    · rw [if_pos (.inr h2), decide_eq_true (show sz > 24 from h2)]; rfl
    · rw [if_neg (by omega), decide_eq_false (show ¬ sz > 24 from h2)]
      simp only [beq_self_eq_true, cond_true, Option.bind_some, cond_false]
      by_cases h3 : 8 < ps.length
      · rw [if_pos h3, decide_eq_true (show (ps.length : Int) > 8 by omega), cond_true]
      · rw [if_neg h3, decide_eq_false (show ¬ (ps.length : Int) > 8 by omega), cond_false, anyb_eq ps sz (by omega) (by omega), Option.bind_some]
        by_cases h4 : ∃ p ∈ ps, BadP sz p
        · rw [if_pos h4, decide_eq_true h4, cond_true]
        · rw [if_neg h4, decide_eq_false h4, cond_false]
/-- How many sheets a plan has. -/
def mny (l : List Int) : Int := l.foldl (fun a s => max a (s + 1)) 0
/-- How much of a sheet is used. -/
def usd : List Int → List Int → Int → Int
  | p :: ps, x :: l, s => (if x = s then p else 0) + usd ps l s
  | _, _, _ => 0
theorem fold_mny : ∀ (l : List Int) (a : Int), a ≤ l.foldl (fun a s => max a (s + 1)) a ∧ (∀ x ∈ l, x < l.foldl (fun a s => max a (s + 1)) a)
  | [], a => by simp
  | x :: l, a => by
    rw [List.foldl_cons]
    obtain ⟨h1, h2⟩ := fold_mny l (max a (x + 1))
    refine ⟨by omega, fun y hy => ?_⟩
    rcases List.mem_cons.1 hy with rfl | hy
    · omega
    · exact h2 y hy
theorem mny_nn (l : List Int) : 0 ≤ mny l := (fold_mny l 0).1
theorem mny_lt {l : List Int} {x : Int} (h : x ∈ l) : x < mny l := (fold_mny l 0).2 x h
theorem mny_snoc (l : List Int) (x : Int) : mny (l ++ [x]) = max (mny l) (x + 1) := by simp [mny, List.foldl_append]
theorem mny_nil : mny [] = 0 := rfl
theorem usd_snoc (s x p : Int) : ∀ {ps l : List Int}, ps.length = l.length → usd (ps ++ [p]) (l ++ [x]) s = usd ps l s + if x = s then p else 0
  | [], [], _ => by simp [usd]
  | q :: ps, y :: l, h => by
    simp only [List.cons_append, usd]
    rw [usd_snoc s x p (by simpa using h)]
    omega
  | [], _ :: _, h => by simp at h
  | _ :: _, [], h => by simp at h
theorem usd_none {s : Int} : ∀ {ps l : List Int}, s ∉ l → usd ps l s = 0
  | [], [], _ => rfl
  | [], _ :: _, _ => rfl
  | _ :: _, [], _ => rfl
  | q :: ps, y :: l, h => by
    simp only [List.mem_cons, not_or] at h
    simp only [usd, if_neg (fun e => h.1 (Eq.symm e)), usd_none h.2]
    omega
theorem usd_nn {s : Int} : ∀ {ps l : List Int}, (∀ p ∈ ps, 0 ≤ p) → 0 ≤ usd ps l s
  | [], _, _ => by simp [usd]
  | _ :: _, [], _ => by simp [usd]
  | q :: ps, y :: l, h => by
    have h1 := h q (by simp)
    have h2 := usd_nn (s := s) (ps := ps) (l := l) (fun p hp => h p (by simp [hp]))
    simp only [usd]
    split <;> omega
theorem usd_le {s : Int} : ∀ {ps l : List Int}, (∀ p ∈ ps, 0 ≤ p ∧ p ≤ 24) → usd ps l s ≤ 24 * ps.length
  | [], _, _ => by simp [usd]
  | _ :: _, [], _ => by simp only [usd, List.length_cons]; omega
  | q :: ps, y :: l, h => by
    have h1 := h q (by simp)
    have h2 := usd_le (s := s) (ps := ps) (l := l) (fun p hp => h p (by simp [hp]))
    simp only [usd, List.length_cons]
    split <;> omega
/-- The error of sheets' order. -/
def oer : Int → List Int → Int
  | _, [] => 0
  | m, x :: l => if x < 0 then 2 else if m < x then 7 else oer (max m (x + 1)) l
/-- What is left of each sheet. -/
def lf (sz : Int) (ps l : List Int) : List Int := (List.range (mny l).toNat).map fun s : Nat => sz - usd ps l (s : Int)
theorem lf_len (sz : Int) (ps l : List Int) : ((lf sz ps l).length : Int) = mny l := by
  have := mny_nn l
  simp [lf]
  omega
theorem lf_get {sz : Int} {ps l : List Int} {s : Nat} (h : s < (lf sz ps l).length) : (lf sz ps l)[s] = sz - usd ps l (s : Int) := by simp [lf]
theorem lf_step (sz p x : Int) {ps l : List Int} (hl : ps.length = l.length) (h0 : 0 ≤ x) (h1 : x ≤ mny l) :
    lf sz (ps ++ [p]) (l ++ [x]) = (if x = mny l then lf sz ps l ++ [sz] else lf sz ps l).set x.toNat (sz - usd ps l x - p) := by
  have hm := mny_nn l
  have hll := lf_len sz ps l
  apply List.ext_getElem
  · have := lf_len sz (ps ++ [p]) (l ++ [x])
    rw [mny_snoc] at this
    rw [List.length_set]
    split
    · simp only [List.length_append, List.length_cons, List.length_nil]; omega
    · omega
  · intro s h2 h3
    rw [lf_get h2, usd_snoc _ _ _ hl, List.getElem_set]
    by_cases e : x.toNat = s
    · rw [if_pos e, if_pos (show x = (s : Int) by omega), show (s : Int) = x by omega]
      omega
    · rw [if_neg e, if_neg (show ¬ x = (s : Int) by omega)]
      rw [List.length_set] at h3
      split at h3
      · rename_i hx
        simp only [List.length_append, List.length_cons, List.length_nil] at h3
        have h4 : s < (lf sz ps l).length := by omega
        simp only [if_pos hx]
        rw [List.getElem_append_left h4, lf_get h4]
        omega
      · rename_i hx
        simp only [if_neg hx]
        rw [lf_get h3]
        omega
theorem neg_eq (n : Nat × Nat) (x : Int) : D93 n x = some (decide (x < 0)) := rfl
theorem idxn_loop (n : Nat × Nat) (l : List Int) (hs : l.length < 1000) : ∀ (m k : Nat), k ≤ l.length → l.length - k < m → DL79c93_1 n m l (l.length : Int) (k : Int) = some (fnd (fun p => decide (p < 0)) k (l.drop k))
  | 0, k, _, h => by omega
  | m + 1, k, hk, h => by
    rw [DL79c93_1_succ]
    unfold DF79c93_1
    by_cases hlt : k < l.length
    · have ih := idxn_loop n l hs m (k + 1) (by omega) (by omega)
      rw [dlt_t hlt, cond_true, idx_nat hlt, Option.bind_some, neg_eq, Option.bind_some, wr_succ (by omega), ih, drop_cons hlt]
      generalize l.drop (k + 1) = t at *
      generalize l[k] = x at *
      unfold fnd
      by_cases e : x < 0
      · simp [e]
      · simp only [e, decide_false, cond_false, Bool.false_eq_true, if_false]
        cases t <;> rfl
    · rw [dlt_f hlt, cond_false, List.drop_of_length_le (by omega)]
      rfl
theorem anyn_eq {n : Nat × Nat} (hn : 1000 ≤ n.1) (l : List Int) (hs : l.length < 900) : D75c93 n l = some (decide (∃ p ∈ l, p < 0)) := by
  unfold D75c93 D79c93
  have := idxn_loop n l (by omega) n.1 0 (by omega) (by omega)
  rw [show ((0 : Nat) : Int) = 0 from rfl, List.drop_zero] at this
  rw [this, Option.bind_some]
  congr 1
  apply decide_eq_decide.2
  have := fnd_ge (fun p => decide (p < 0)) l 0
  simp only [decide_eq_true_eq] at this
  exact this
/-- What is handed back of a plan whose order has an error, or none. -/
def shOut (sz : Int) (ps l : List Int) (e : Int) : List Int × Int := if e ≠ 0 then ([], e) else if ∃ s ∈ lf sz ps l, s < 0 then ([], 15) else (lf sz ps l, 0)
theorem shOut_err {sz : Int} {ps l : List Int} {e : Int} (h : e ≠ 0) : shOut sz ps l e = ([], e) := if_pos h
theorem sheets_loop (n : Nat × Nat) (hn : 1000 ≤ n.1) {sz : Int} {ps l : List Int} (hj : Job sz ps) (hl : l.length = ps.length) : ∀ (m k : Nat), k ≤ l.length → l.length - k < m → mny (l.take k) ≤ k →
    DL66_1 n m sz ps l (l.length : Int) (k : Int) (lf sz (ps.take k) (l.take k)) = some (shOut sz ps l (oer (mny (l.take k)) (l.drop k)))
  | 0, k, _, h, _ => by omega
  | m + 1, k, hk, h, hmk => by
    have h8 := hj.len
    have hlo := hj.lo
    have hhi := hj.hi
    rw [DL66_1_succ]
    unfold DF66_1
    by_cases hlt : k < l.length
    · have hlp : k < ps.length := by omega
      have hp := hj.ok _ (List.getElem_mem hlp)
      have hm0 := mny_nn (l.take k)
      have hll := lf_len sz (ps.take k) (l.take k)
      have ih := sheets_loop n hn hj hl m (k + 1) (by omega) (by omega)
      have hstep := lf_step sz ps[k] l[k] (ps := ps.take k) (l := l.take k) (by simp; omega)
      have hu0 := usd_nn (s := l[k]) (ps := ps.take k) (l := l.take k) (fun p hp => by have := hj.ok p (List.mem_of_mem_take hp); omega)
      have hu1 := usd_le (s := l[k]) (ps := ps.take k) (l := l.take k) (fun p hp => by have := hj.ok p (List.mem_of_mem_take hp); omega)
      rw [List.length_take] at hu1
      rw [← take_snoc hlt, ← take_snoc hlp] at hstep
      have hmn := mny_snoc (l.take k) l[k]
      rw [← take_snoc hlt] at hmn
      have hget : ∀ (q : List Int), q = (if l[k] = mny (l.take k) then lf sz (ps.take k) (l.take k) ++ [sz] else lf sz (ps.take k) (l.take k)) → 0 ≤ l[k] → l[k] ≤ mny (l.take k) → ∃ h : l[k].toNat < q.length, q[l[k].toNat] = sz - usd (ps.take k) (l.take k) l[k] := by
        rintro q rfl h0 h1
        by_cases e : l[k] = mny (l.take k)
        · rw [if_pos e]
          have hz : usd (ps.take k) (l.take k) l[k] = 0 := usd_none (fun hm => by have := mny_lt hm; omega)
          refine ⟨by simp only [List.length_append, List.length_cons, List.length_nil]; omega, ?_⟩
          rw [hz, List.getElem_append_right (by omega)]
          simp
        · rw [if_neg e]
          refine ⟨by omega, ?_⟩
          rw [lf_get, show ((l[k].toNat : Nat) : Int) = l[k] by omega]
      rw [dlt_t hlt, cond_true, idx_nat hlt, Option.bind_some, drop_cons hlt]
      unfold oer
      generalize hL : lf sz (ps.take k) (l.take k) = L at *
      generalize hU : usd (ps.take k) (l.take k) l[k] = u at *
      generalize hx : l[k] = x at *
      by_cases e1 : x < 0
      · rw [decide_eq_true e1, cond_true, if_pos e1, shOut_err (by omega)]
      · rw [decide_eq_false e1, cond_false, if_neg e1, hll]
        by_cases e2 : mny (l.take k) < x
        · rw [decide_eq_true (show x > mny (l.take k) from e2), cond_true, if_pos e2, shOut_err (by omega)]
        · rw [decide_eq_false (show ¬ x > mny (l.take k) from e2), cond_false, if_neg e2]
          have hstep := hstep (by omega) (by omega)
          have ih := ih (by omega)
          rw [hmn] at ih
          have done : ∀ q : List Int, q = (if x = mny (l.take k) then L ++ [sz] else L) → DL66_2 n (DL66_1 n m) sz ps (k : Int) x l (l.length : Int) (k : Int) q = DL66_1 n m sz ps l (l.length : Int) ((k + 1 : Nat) : Int) (lf sz (ps.take (k + 1)) (l.take (k + 1))) := fun q hq => by
            obtain ⟨hql, hqv⟩ := hget q hq (by omega) (by omega)
            unfold DL66_2
            have hxq : x = (x.toNat : Int) := by omega
            have hin : inB x q.length = true := by rw [hxq]; exact inB_nat hql
            rw [hin, cond_true, idx_int hxq hql, Option.bind_some, idx_nat hlp, Option.bind_some, cond_true, Option.bind_some, hqv, wr_succ (by omega), wr_ok (by omega) (by omega), hstep, ← hq]
          by_cases e3 : x = mny (l.take k)
          · rw [show (x == mny (l.take k)) = true by simpa using e3, cond_true, lim_dec (by omega), cond_true, done _ (by rw [if_pos e3]), ih]
          · rw [show (x == mny (l.take k)) = false from beq_false_of_ne e3, cond_false, done _ (by rw [if_neg e3]), ih]
    · have e : k = l.length := by omega
      subst e
      have hll := lf_len sz ps l
      rw [dlt_f hlt, cond_false, List.take_length, List.drop_length, hl, List.take_length]
      rw [List.take_length] at hmk
      rw [anyn_eq hn _ (by omega), Option.bind_some]
      unfold oer shOut
      rw [if_neg (by simp)]
      by_cases e2 : ∃ s ∈ lf sz ps l, s < 0
      · rw [decide_eq_true e2, cond_true, if_pos e2]
      · rw [decide_eq_false e2, cond_false, if_neg e2]
/-- A plan's error. -/
def vld (sz : Int) (ps l : List Int) : Int := if chk sz ps ≠ 0 then chk sz ps else if l.length ≠ ps.length then 5 else if oer 0 l ≠ 0 then oer 0 l else if ∃ x ∈ l, sz < usd ps l x then 15 else 0
def shts (sz : Int) (ps l : List Int) : List Int × Int := if vld sz ps l ≠ 0 then ([], vld sz ps l) else (lf sz ps l, 0)
theorem over_iff {sz : Int} {ps l : List Int} (hj : Job sz ps) (ho : oer 0 l = 0) : (∃ s ∈ lf sz ps l, s < 0) ↔ ∃ x ∈ l, sz < usd ps l x := by
  have hlo := hj.lo
  have hnn : ∀ (l : List Int) (m : Int), oer m l = 0 → ∀ x ∈ l, 0 ≤ x := by
    intro l
    induction l with
    | nil => intro m _ x hx; simp at hx
    | cons y l ih =>
      intro m h x hx
      unfold oer at h
      split at h
      · omega
      · split at h
        · omega
        · rcases List.mem_cons.1 hx with rfl | hx
          · omega
          · exact ih _ h x hx
  constructor
  · rintro ⟨s, hs, h0⟩
    obtain ⟨i, hi, e⟩ := List.getElem_of_mem hs
    rw [lf_get hi] at e
    by_cases hm : (i : Int) ∈ l
    · exact ⟨i, hm, by omega⟩
    · rw [usd_none hm] at e
      omega
  · rintro ⟨x, hx, h0⟩
    have h1 := hnn l 0 ho x hx
    have h2 := mny_lt hx
    have hll := lf_len sz ps l
    have hi : x.toNat < (lf sz ps l).length := by omega
    refine ⟨(lf sz ps l)[x.toNat], List.getElem_mem hi, ?_⟩
    rw [lf_get hi, show ((x.toNat : Nat) : Int) = x by omega]
    omega
theorem shts_err {sz : Int} {ps l : List Int} {e : Int} (h : vld sz ps l = e) (h0 : e ≠ 0) : shts sz ps l = ([], e) := by unfold shts; rw [h, if_pos h0]
theorem sheets_eq {n : Nat × Nat} (hn : 1000 ≤ n.1) (sz : Int) (ps l : List Int) : D66 n sz ps l = some (shts sz ps l) := by
  unfold D66
  rw [Check_eq hn, Option.bind_some]
  by_cases h1 : chk sz ps = 0
  · have hj := chk_job.1 h1
    rw [h1, bne_self_eq_false, cond_false]
    by_cases h2 : l.length = ps.length
    · rw [show ((l.length : Int) != (ps.length : Int)) = false by simp [h2], cond_false]
      have := sheets_loop n hn hj h2 n.1 0 (by omega) (by have := hj.len; omega) (by simp [mny])
      simp only [List.take_zero, List.drop_zero] at this
      rw [show lf sz [] [] = [] from rfl, show ((0 : Nat) : Int) = 0 from rfl, mny_nil] at this
      rw [this]
      congr 1
      by_cases h3 : oer 0 l = 0
      · have hov := over_iff hj h3
        rw [h3]
        unfold shOut
        rw [if_neg (by simp)]
        by_cases h4 : ∃ x ∈ l, sz < usd ps l x
        · rw [if_pos (hov.2 h4), shts_err (e := 15) (by unfold vld; rw [if_neg (by simpa using h1), if_neg (by simpa using h2), if_neg (by simpa using h3), if_pos h4]) (by omega)]
        · rw [if_neg (fun h => h4 (hov.1 h))]
          have e : vld sz ps l = 0 := by unfold vld; rw [if_neg (by simpa using h1), if_neg (by simpa using h2), if_neg (by simpa using h3), if_neg h4]
          unfold shts
          rw [e, if_neg (by simp)]
      · rw [shOut_err h3, shts_err (e := oer 0 l) (by unfold vld; rw [if_neg (by simpa using h1), if_neg (by simpa using h2), if_pos h3]) h3]
    · rw [show ((l.length : Int) != (ps.length : Int)) = true by simpa using (by omega : (l.length : Int) ≠ ps.length), cond_true, shts_err (e := 5) (by unfold vld; rw [if_neg (by simpa using h1), if_pos h2]) (by omega)]
  · rw [show (chk sz ps != 0) = true by simpa using h1, cond_true, shts_err (e := chk sz ps) (by unfold vld; rw [if_pos h1]) h1]
theorem Valid_eq {n : Nat × Nat} (hn : 1000 ≤ n.1) (sz : Int) (ps l : List Int) : D28 n sz ps l = some (vld sz ps l) := by
  unfold D28
  rw [sheets_eq hn, Option.bind_some]
  unfold shts
  split
  · rfl
  · rename_i h
    have h : vld sz ps l = 0 := by simpa using h
    rw [h]
theorem Left_eq {n : Nat × Nat} (hn : 1000 ≤ n.1) (sz : Int) (ps l : List Int) : D18 n sz ps l = some (shts sz ps l) := by
  unfold D18
  rw [sheets_eq hn, Option.bind_some]
theorem bounds_hi {k n : Nat} (h : k ≤ n) : bounds none (some (k : Int)) none n = true := by
  unfold bounds
  simp
  omega
/-- A plan that is one. -/
structure Pln (sz : Int) (ps l : List Int) : Prop where
  job : Job sz ps
  len : l.length = ps.length
  ord : oer 0 l = 0
  fit : ∀ x ∈ l, usd ps l x ≤ sz
theorem vld_pln {sz : Int} {ps l : List Int} : vld sz ps l = 0 ↔ Pln sz ps l := by
  unfold vld
  constructor
  · intro h
    split at h
    · omega
    · rename_i h1
      split at h
      · omega
      · rename_i h2
        split at h
        · omega
        · rename_i h3
          split at h
          · omega
          · rename_i h4
            refine ⟨chk_job.1 (by simpa using h1), by simpa using h2, by simpa using h3, fun x hx => ?_⟩
            have : ¬ sz < usd ps l x := fun hh => h4 ⟨x, hx, hh⟩
            omega
  · intro h
    rw [if_neg (by simpa using chk_job.2 h.job), if_neg (by simpa using h.len), if_neg (by simpa using h.ord), if_neg]
    rintro ⟨x, hx, h0⟩
    have := h.fit x hx
    omega
theorem oer_bnd : ∀ (l : List Int) (m : Int), 0 ≤ m → oer m l = 0 → (∀ x ∈ l, 0 ≤ x ∧ x < m + l.length) ∧ l.foldl (fun a s => max a (s + 1)) m ≤ m + l.length
  | [], m, _, _ => by simp
  | x :: l, m, hm, h => by
    unfold oer at h
    split at h
    · omega
    · split at h
      · omega
      · obtain ⟨h1, h2⟩ := oer_bnd l _ (by omega) h
        rw [List.foldl_cons, List.length_cons]
        refine ⟨fun y hy => ?_, by omega⟩
        rcases List.mem_cons.1 hy with rfl | hy
        · omega
        · have := h1 y hy
          omega
theorem Pln.rng {sz : Int} {ps l : List Int} (h : Pln sz ps l) : ∀ x ∈ l, 0 ≤ x ∧ x ≤ 100000 := fun x hx => by
  have := (oer_bnd l 0 (by omega) h.ord).1 x hx
  have := h.job.len
  have := h.len
  omega
theorem Pln.mny {sz : Int} {ps l : List Int} (h : Pln sz ps l) : mny l ≤ 8 := by
  have h1 := (oer_bnd l 0 (by omega) h.ord).2
  have := h.job.len
  have := h.len
  unfold Proofs.YtgmonagekfjnmaaDoor.mny
  omega
/-- The groups of a plan. -/
def grps (sz : Int) (ps l : List Int) : List (List Int) × Int := if vld sz ps l ≠ 0 then ([], vld sz ps l) else (grp l (mny l).toNat, 0)
theorem Groups_eq {n : Nat × Nat} (hn : 1000 ≤ n.1) (sz : Int) (ps l : List Int) : D20 n sz ps l = some (grps sz ps l) := by
  unfold D20 HF20 grps
  rw [sheets_eq hn, Option.bind_some]
  unfold shts
  by_cases h : vld sz ps l = 0
  · have hp := vld_pln.1 h
    have := hp.mny
    have hll := lf_len sz ps l
    rw [h, if_neg (by simp), if_neg (by simp)]
    simp only [bne_self_eq_false, cond_false]
    have e : (lf sz ps l).length = (mny l).toNat := by omega
    rw [e, decide_eq_true (show (mny l).toNat ≤ 1000000 by omega), decide_eq_true (show l.length ≤ 1000000 by have := hp.len; have := hp.job.len; omega)]
    have : (l.all fun s => decide (0 ≤ s) && decide (s < (((mny l).toNat : Nat) : Int))) = true := List.all_eq_true.2 fun s hs => by
      have h1 := hp.rng s hs
      have h2 := mny_lt hs
      simp
      omega
    rw [this]
    rfl
  · rw [if_pos h, if_pos h]
    simp only [show (vld sz ps l != 0) = true by simpa using h, cond_true]
end Go.Proofs.YtgmonagekfjnmaaDoor
set_option linter.unusedVariables false
set_option linter.unusedSimpArgs false
set_option maxRecDepth 100000
namespace Go.Proofs.YtgmonagekfjnmaaDoor
open Go.Vi
/-D 91io00111 -/
/-D 101f91io001110 -/
/-D 90c91io001 -/
/-D 52 -/
/-D 53 -/
/-D 8 -/
end Go.Proofs.YtgmonagekfjnmaaDoor
set_option linter.unusedVariables false
set_option linter.unusedSimpArgs false
namespace Go.Proofs.YtgmonagekfjnmaaDoor
open Go.Vi
def goodC (s : Int) : Option (List Int) → Bool
  | some l => decide (l.length ≤ 20) && !l.isEmpty && l.all fun p => decide (1 ≤ p) && decide (s % p = 0) && l.all fun q => decide (p % q = 0) || decide (q % p = 0)
  | none => false
theorem chain_all : ∀ s : Fin 25, ∀ b : Fin 128, 1 ≤ s.val → goodC s.val (D89 N s.val b.val) = true := by decide +kernel
/-- The groups' numbers, put where their pieces are: an error, or none, and what there is. -/
def pin (g : Int) : List Int → List Int → Int × List Int
  | [], out => (0, out)
  | x :: r, out => if x < 0 ∨ (out.length : Int) ≤ x then (2, out) else if 0 ≤ out.getD x.toNat 0 then (6, out) else pin g r (out.set x.toNat g)
end Go.Proofs.YtgmonagekfjnmaaDoor
/-
  Sheets: the search, for any function that is handed plans.
-/
set_option linter.unusedVariables false
set_option linter.unusedSimpArgs false
namespace Go.Proofs.YtgmonagekfjnmaaDoor
open Go.Vi
/-! All plans with at most so many sheets that begin with some numbers, in ascending order. -/
def rm (sz : Int) (L : List Int) (s : Nat) : Int := L.getD s sz
def up (sz : Int) (L : List Int) (s : Nat) (p : Int) : List Int := (if s = L.length then L ++ [sz] else L).set s (rm sz L s - p)
def pl (sz : Int) (mo : Nat) : List Int → List Int → List Int → List (List Int)
  | [], b, _ => [b]
  | p :: r, b, L => (List.range' 0 (min (L.length + 1) mo)).flatMap fun s => if p ≤ rm sz L s then pl sz mo r (b ++ [(s : Int)]) (up sz L s p) else []
/-! The search's three places. -/
section
variable {V : Type}
abbrev SR (V : Type) := Unit × V × Unit
abbrev FN (V : Type) := Int → List Int → Int → Int → V → List Int → List Int → Option (SR V)
theorem rm_get {sz : Int} {L : List Int} {s : Nat} (hs : s < L.length) : rm sz L s = L[s] := by unfold rm; rw [List.getD_eq_getElem?_getD, List.getElem?_eq_getElem hs, Option.getD_some]
/-! The loop over the sheets for one piece. -/
structure SI (sz : Int) (mo : Nat) (ps : List Int) (b L : List Int) : Prop where
  job : Job sz ps
  le : b.length ≤ ps.length
  lm : L.length ≤ mo
  lb : L.length ≤ b.length
  rng : ∀ x ∈ L, 0 ≤ x ∧ x < sz
  mo : mo ≤ 1000
variable {b1 x1 f2 : FN V} {sz : Int} {mo : Nat} {ps b L : List Int}
/-! All of it. -/
variable {C : List Int → V → Option (Bool × List Int × V × Unit)} {c : List Int → V → Bool × V} {q0 : Nat}
end
end Go.Proofs.YtgmonagekfjnmaaDoor
set_option linter.unusedVariables false
set_option linter.unusedSimpArgs false
set_option maxRecDepth 100000
namespace Go.Proofs.YtgmonagekfjnmaaDoor
open Go.Vi
noncomputable def c5 : Code := bodyOf Tryd.f5
/-D 99 -/
/-D 83 -/
/-D 35 -/
/-D 37 -/
/-D 39 -/
/-D 5 -/
end Go.Proofs.YtgmonagekfjnmaaDoor
set_option linter.unusedVariables false
set_option linter.unusedSimpArgs false
namespace Go.Proofs.YtgmonagekfjnmaaDoor
open Go.Vi
/-! How many plans there are at most. -/
/-- What begins a plan. -/
structure Rs (sz : Int) (ps b L : List Int) : Prop where
  job : Job sz ps
  le : b.length ≤ ps.length
  nn : ∀ x ∈ b, 0 ≤ x
  my : mny b ≤ b.length
  left : L = lf sz (ps.take b.length) b
theorem Rs.len {sz : Int} {ps b L : List Int} (h : Rs sz ps b L) : (L.length : Int) = mny b := by rw [h.left]; exact lf_len _ _ _
theorem Rs.rm {sz : Int} {ps b L : List Int} (h : Rs sz ps b L) {s : Nat} (hs : s ≤ L.length) : rm sz L s = sz - usd (ps.take b.length) b s := by
  have hl := h.len
  by_cases e : s < L.length
  · rw [rm_get e]
    have := h.left
    subst this
    exact lf_get e
  · unfold Proofs.YtgmonagekfjnmaaDoor.rm
    rw [List.getD_eq_getElem?_getD, List.getElem?_eq_none (by omega), Option.getD_none, usd_none (fun hm => by have := mny_lt hm; omega)]
    omega
theorem Rs.nil {sz : Int} {ps : List Int} (h : Job sz ps) : Rs sz ps [] [] := ⟨h, by simp, by simp, by simp [mny], rfl⟩
/-! The reference's plans. -/
/-! Plans by their number of sheets. -/
end Go.Proofs.YtgmonagekfjnmaaDoor
set_option linter.unusedVariables false
set_option linter.unusedSimpArgs false
set_option maxRecDepth 100000
namespace Go.Proofs.YtgmonagekfjnmaaDoor
open Go.Vi
/-D 41 -/
/-D 88 -/
/-D 43 -/
/-D 45 -/
/-D 47 -/
/-D 6 -/
end Go.Proofs.YtgmonagekfjnmaaDoor
set_option linter.unusedVariables false
set_option linter.unusedSimpArgs false
namespace Go.Proofs.YtgmonagekfjnmaaDoor
open Go.Vi
/-! Bounds. -/
/-- Each one divides the one before it. -/
def Chn : Int → List Int → Prop
  | _, [] => True
  | s, p :: r => s % p = 0 ∧ Chn p r
instance Chn.dec : ∀ (s : Int) (l : List Int), Decidable (Chn s l)
  | _, [] => .isTrue trivial
  | s, p :: r => by
    unfold Chn
    have := Chn.dec p r
    exact inferInstance
/-- Lengths are a chain. -/
def Cmp (x y : Int) : Prop := x % y = 0 ∨ y % x = 0
def IsC (sz : Int) (ps : List Int) : Prop := (∀ p ∈ ps, sz % p = 0) ∧ ps.Pairwise Cmp
instance (x y : Int) : Decidable (Cmp x y) := inferInstanceAs (Decidable (_ ∨ _))
instance (sz : Int) (ps : List Int) : Decidable (IsC sz ps) := inferInstanceAs (Decidable (_ ∧ _))
theorem tmod_mod {a b : Int} (h : 0 ≤ a) : Int.tmod a b = a % b := Int.tmod_eq_emod_of_nonneg h
abbrev Stp := Int × Int × Int × Int × Int × Int × Int × Int × Int × Int × Int
abbrev ShS : Sh := .pair (.int .u8) (.pair (.int .u8) (.pair (.int .u8) (.pair (.int .u8) (.pair (.int .u8) (.pair (.int .u8) (.pair (.int .u8) (.pair (.int .u8) (.pair (.int .u8) (.pair (.int .u8) (.int .u8))))))))))
def By (x : Int) : Prop := 0 ≤ x ∧ x ≤ 255
structure StpOk (s : Stp) : Prop where
  size : By s.1
  many : By s.2.1
  chain : By s.2.2.1
  cuts : ∀ x ∈ [s.2.2.2.1, s.2.2.2.2.1, s.2.2.2.2.2.1, s.2.2.2.2.2.2.1, s.2.2.2.2.2.2.2.1, s.2.2.2.2.2.2.2.2.1, s.2.2.2.2.2.2.2.2.2.1, s.2.2.2.2.2.2.2.2.2.2], By x
theorem u8_rng {x : Int} (h : (Lit.int .u8 x).wf = true) : 0 ≤ x ∧ x ≤ 255 := by
  simpa [Lit.wf, IntKind.min, IntKind.max, IntKind.signed, IntKind.bits] using h
theorem by_wf {x : Int} (h : Wf (.int .u8) x) : By x := u8_rng h
theorem stp_ok {s : Stp} (h : Wf ShS s) : StpOk s := by
  obtain ⟨ha, hb, hc, h1, h2, h3, h4, h5, h6, h7, h8⟩ := h
  refine ⟨by_wf ha, by_wf hb, by_wf hc, fun x hx => ?_⟩
  simp only [List.mem_cons, List.not_mem_nil, or_false] at hx
  rcases hx with e | e | e | e | e | e | e | e <;> subst e
  · exact by_wf h1
  · exact by_wf h2
  · exact by_wf h3
  · exact by_wf h4
  · exact by_wf h5
  · exact by_wf h6
  · exact by_wf h7
  · exact by_wf h8
theorem pick_loop (n : Nat × Nat) (sz : Int) {cs lens : List Int} (hc : ∀ x ∈ cs, By x) (hl : lens ≠ []) (hll : lens.length ≤ 100) (h8 : cs.length ≤ 8) : ∀ (m k : Nat) (out : List Int), k ≤ cs.length → cs.length - k < m → out.length = k → (∀ x ∈ out, x ∈ lens) →
    ∃ ps, DL48_1 n m sz cs (cs.length : Int) (k : Int) lens out = some (sz, ps) ∧ ps.length = cs.length ∧ ∀ x ∈ ps, x ∈ lens
  | 0, k, out, _, h, _, _ => by omega
  | m + 1, k, out, hk, h, ho, hm => by
    rw [DL48_1_succ]
    unfold DF48_1
    have hpos : 0 < lens.length := List.length_pos_iff.2 hl
    by_cases hlt : k < cs.length
    · have hx := hc _ (List.getElem_mem hlt)
      unfold By at hx
      have hmod := Int.emod_nonneg cs[k] (show (lens.length : Int) ≠ 0 by omega)
      have hmod2 := Int.emod_lt_of_pos cs[k] (show (0 : Int) < lens.length by omega)
      have hi : (cs[k] % (lens.length : Int)).toNat < lens.length := by omega
      have hi2 : cs[k] % (lens.length : Int) = (((cs[k] % (lens.length : Int)).toNat : Nat) : Int) := by omega
      rw [dlt_t hlt, cond_true, idx_nat hlt, Option.bind_some, beq_false_of_ne (show (lens.length : Int) ≠ 0 by omega), cond_false, wr_ok (by omega) (by omega), tmod_mod hx.1, hi2, inB_nat hi, cond_true, idx_nat hi, Option.bind_some, lim_dec (by omega), cond_true, wr_succ (by omega)]
      exact pick_loop n sz hc hl hll h8 m (k + 1) _ (by omega) (by omega) (by simp [ho]) (fun x hx => by
        rcases List.mem_append.1 hx with hx | hx
        · exact hm x hx
        · rw [List.mem_singleton.1 hx]; exact List.getElem_mem _)
    · rw [dlt_f hlt, cond_false]
      exact ⟨out, rfl, by omega, hm⟩
theorem cuts_take {s : Stp} (h : StpOk s) {k : Nat} : ∀ x ∈ [s.2.2.2.1, s.2.2.2.2.1, s.2.2.2.2.2.1, s.2.2.2.2.2.2.1, s.2.2.2.2.2.2.2.1, s.2.2.2.2.2.2.2.2.1, s.2.2.2.2.2.2.2.2.2.1, s.2.2.2.2.2.2.2.2.2.2].take k, By x := fun x hx => h.cuts x (List.mem_of_mem_take hx)
theorem many_ok {s : Stp} (h : StpOk s) {most : Nat} (hm : most ≤ 8) : wr .i64 ((most : Int) + 1) = ((most + 1 : Nat) : Int) ∧ (((most + 1 : Nat) : Int) == 0) = false ∧ Int.tmod (wr .i64 s.2.1) ((most + 1 : Nat) : Int) = (((s.2.1 % ((most + 1 : Nat) : Int)).toNat : Nat) : Int) ∧ (s.2.1 % ((most + 1 : Nat) : Int)).toNat ≤ most := by
  have h1 := h.many
  unfold By at h1
  have hmod := Int.emod_nonneg s.2.1 (show ((most + 1 : Nat) : Int) ≠ 0 by omega)
  have hmod2 := Int.emod_lt_of_pos s.2.1 (show (0 : Int) < ((most + 1 : Nat) : Int) by omega)
  refine ⟨wr_succ (by omega), beq_false_of_ne (by omega), ?_, by omega⟩
  rw [wr_ok (by omega) (by omega), tmod_mod h1.1]
  omega
theorem fill_loop (n : Nat × Nat) (hn : 1000 ≤ n.1) {s : Stp} (h : StpOk s) {most : Nat} (hm : most ≤ 8) {sz : Int} (hs : 1 ≤ sz ∧ sz ≤ 24) : ∀ (m k : Nat) (lens : List Int), (k : Int) ≤ sz → sz - k < m → lens.length = k → (∀ x ∈ lens, 1 ≤ x ∧ x ≤ sz) →
    ∃ ps, DL48_2 n m most sz sz (k : Int) s.1 s.2.1 s.2.2.1 s.2.2.2.1 s.2.2.2.2.1 s.2.2.2.2.2.1 s.2.2.2.2.2.2.1 s.2.2.2.2.2.2.2.1 s.2.2.2.2.2.2.2.2.1 s.2.2.2.2.2.2.2.2.2.1 s.2.2.2.2.2.2.2.2.2.2 lens = some (sz, ps) ∧ ps.length ≤ most ∧ ∀ x ∈ ps, 1 ≤ x ∧ x ≤ sz
  | 0, k, lens, _, hh, _, _ => by omega
  | m + 1, k, lens, hk, hh, hl, hb => by
    rw [DL48_2_succ]
    unfold DF48_2
    by_cases hlt : (k : Int) < sz
    · rw [decide_eq_true hlt, cond_true, lim_dec (by omega), cond_true, wr_succ (by omega)]
      exact fill_loop n hn h hm hs m (k + 1) _ (by omega) (by omega) (by simp [hl]) (fun x hx => by
        rcases List.mem_append.1 hx with hx | hx
        · exact hb x hx
        · rw [List.mem_singleton.1 hx]; omega)
    · obtain ⟨e1, e2, e3, e4⟩ := many_ok h hm
      rw [decide_eq_false hlt, cond_false, e1, e2, cond_false, e3, bounds_hi (by omega), cond_true, Int.toNat_natCast]
      obtain ⟨ps, hp, hpl, hpm⟩ := pick_loop n sz (cs := [s.2.2.2.1, s.2.2.2.2.1, s.2.2.2.2.2.1, s.2.2.2.2.2.2.1, s.2.2.2.2.2.2.2.1, s.2.2.2.2.2.2.2.2.1, s.2.2.2.2.2.2.2.2.2.1, s.2.2.2.2.2.2.2.2.2.2].take (s.2.1 % ((most + 1 : Nat) : Int)).toNat) (lens := lens) (cuts_take h) (by intro e; rw [e] at hl; simp at hl; omega) (by omega) (by rw [List.length_take]; exact Nat.min_le_right _ _) n.1 0 [] (by omega) (by simp; omega) rfl (by simp)
      exact ⟨ps, hp, by rw [hpl, List.length_take]; omega, fun x hx => hb x (hpm x hx)⟩
/-- What a job by numbers is. -/
theorem made_ok {s : Stp} (h : StpOk s) {most : Nat} (hm : most ≤ 8) : ∃ sz ps, D48 N s most = some (sz, ps) ∧ Job sz ps ∧ ps.length ≤ most ∧ (s.2.2.1 % 2 = 1 → IsC sz ps) := by
  have h1 := h.size
  have h3 := h.chain
  unfold By at h1 h3
  obtain ⟨e1, e2, e3, e4⟩ := many_ok h hm
  have hsz : wr .i64 (1 + Int.tmod (wr .i64 s.1) 24) = 1 + s.1 % 24 := by
    rw [wr_ok (x := s.1) (by omega) (by omega), tmod_mod h1.1, wr_ok (by omega) (by omega)]
  have hb : wr .i64 (Int.tdiv (wr .i64 s.2.2.1) 2) = s.2.2.1 / 2 := by
    rw [wr_ok (x := s.2.2.1) (by omega) (by omega), Int.tdiv_eq_ediv_of_nonneg h3.1, wr_ok (by omega) (by omega)]
  unfold D48
  rw [show ((24 : Nat) == 0) = false from rfl, show ((2 : Nat) == 0) = false from rfl, cond_false, cond_false, hsz, tmod_mod h3.1]
  by_cases e : s.2.2.1 % 2 = 1
  · rw [show (s.2.2.1 % 2 == 1) = true by simpa using e, cond_true, cond_false, hb]
    have hg := chain_all ⟨(1 + s.1 % 24).toNat, by omega⟩ ⟨(s.2.2.1 / 2).toNat, by omega⟩ (by simp only []; omega)
    simp only [] at hg
    rw [show (((1 + s.1 % 24).toNat : Nat) : Int) = 1 + s.1 % 24 by omega, show (((s.2.2.1 / 2).toNat : Nat) : Int) = s.2.2.1 / 2 by omega] at hg
    cases hD : D89 N (1 + s.1 % 24) (s.2.2.1 / 2) with
    | none => rw [hD] at hg; cases hg
    | some lens =>
      rw [hD] at hg
      simp only [goodC, Bool.and_eq_true, decide_eq_true_eq, List.all_eq_true, Bool.or_eq_true, Bool.not_eq_true', List.isEmpty_eq_false_iff] at hg
      obtain ⟨⟨hg1, hg2⟩, hg3⟩ := hg
      rw [Option.bind_some, e1, e2, cond_false, e3, bounds_hi (by omega), cond_true, Int.toNat_natCast]
      obtain ⟨ps, hp, hpl, hpm⟩ := pick_loop N (1 + s.1 % 24) (cs := [s.2.2.2.1, s.2.2.2.2.1, s.2.2.2.2.2.1, s.2.2.2.2.2.2.1, s.2.2.2.2.2.2.2.1, s.2.2.2.2.2.2.2.2.1, s.2.2.2.2.2.2.2.2.2.1, s.2.2.2.2.2.2.2.2.2.2].take (s.2.1 % ((most + 1 : Nat) : Int)).toNat) (lens := lens) (cuts_take h) hg2 (by omega) (by rw [List.length_take]; exact Nat.min_le_right _ _) N.1 0 [] (by omega) (by have : N.1 = 1000000 := rfl; simp; omega) rfl (by simp)
      have hdiv : ∀ p ∈ lens, 1 ≤ p ∧ p ≤ 1 + s.1 % 24 ∧ (1 + s.1 % 24) % p = 0 := fun p hp => by
        have := (hg3 p hp).1
        exact ⟨this.1, Int.le_of_dvd (by omega) (Int.dvd_of_emod_eq_zero this.2), this.2⟩
      have hlen : ps.length ≤ most := by rw [hpl, List.length_take]; omega
      refine ⟨1 + s.1 % 24, ps, hp, ⟨by omega, by omega, by omega, fun p hp => ?_⟩, hlen, fun _ => ⟨fun p hp => (hdiv p (hpm p hp)).2.2, ?_⟩⟩
      · have := hdiv p (hpm p hp)
        exact ⟨this.1, this.2.1⟩
      · rw [List.pairwise_iff_forall_sublist]
        intro a b hab
        have ha := hpm a (hab.subset (by simp))
        have hb := hpm b (hab.subset (by simp))
        exact (hg3 a ha).2 b hb
  · rw [show (s.2.2.1 % 2 == 1) = false from beq_false_of_ne e, cond_false]
    obtain ⟨ps, hp, hpl, hpm⟩ := fill_loop N hN1 h hm (sz := 1 + s.1 % 24) ⟨by omega, by omega⟩ N.1 0 [] (by omega) (by have : N.1 = 1000000 := rfl; omega) rfl (by simp)
    exact ⟨1 + s.1 % 24, ps, hp, ⟨by omega, by omega, by omega, hpm⟩, hpl, fun h => absurd h e⟩

abbrev I8 := Int × Int × Int × Int × Int × Int × Int × Int
abbrev ShI : Sh := .pair (.int .i8) (.pair (.int .i8) (.pair (.int .i8) (.pair (.int .i8) (.pair (.int .i8) (.pair (.int .i8) (.pair (.int .i8) (.int .i8)))))))
def il (v : I8) : List Int := [v.1, v.2.1, v.2.2.1, v.2.2.2.1, v.2.2.2.2.1, v.2.2.2.2.2.1, v.2.2.2.2.2.2.1, v.2.2.2.2.2.2.2]
def Sb (x : Int) : Prop := -128 ≤ x ∧ x ≤ 127
theorem i8_rng {x : Int} (h : (Lit.int .i8 x).wf = true) : Sb x := by
  unfold Sb
  simpa [Lit.wf, IntKind.min, IntKind.max, IntKind.signed, IntKind.bits] using h
theorem i8_ok {v : I8} (h : Wf ShI v) : ∀ x ∈ il v, Sb x := by
  obtain ⟨h1, h2, h3, h4, h5, h6, h7, h8⟩ := h
  intro x hx
  unfold il at hx
  simp only [List.mem_cons, List.not_mem_nil, or_false] at hx
  rcases hx with e | e | e | e | e | e | e | e <;> subst e
  · exact i8_rng h1
  · exact i8_rng h2
  · exact i8_rng h3
  · exact i8_rng h4
  · exact i8_rng h5
  · exact i8_rng h6
  · exact i8_rng h7
  · exact i8_rng h8
theorem shts_err2 {sz : Int} {ps l : List Int} : (shts sz ps l).2 = vld sz ps l := by
  unfold shts
  split
  · rfl
  · rename_i h
    exact (by simpa using h : vld sz ps l = 0).symm
theorem grps_err {sz : Int} {ps l : List Int} : (grps sz ps l).2 = vld sz ps l := by
  unfold grps
  split
  · rfl
  · rename_i h
    exact (by simpa using h : vld sz ps l = 0).symm
noncomputable def shTail (sz : Int) (ps p : List Int) (W : Int) : Option Bool :=
  (D18 N sz ps p).bind fun r16' =>
    (D20 N sz ps p).bind fun r17' =>
    (D28 N sz ps p).bind fun r18' =>
    ((bif ((r18' == W) == true) then some (r16'.2 == W)
      else some false)).bind fun b19' =>
    ((bif (b19' == true) then some (r17'.2 == W)
      else some false)).bind fun b20' =>
    ((bif (b20' == true) then (D17 N).bind fun r21' =>
        some r21'
      else some false)).bind fun b22' =>
    some b22'
theorem shTail_ok {sz : Int} {ps p : List Int} {W : Int} (h : vld sz ps p = W) : shTail sz ps p W = some true := by
  unfold shTail
  rw [Left_eq hN1, Option.bind_some, Groups_eq hN1, Option.bind_some, Valid_eq hN1, Option.bind_some, shts_err2, grps_err, h]
  simp only [beq_self_eq_true, cond_true, Option.bind_some, works_eq]
noncomputable def shCut (c sz : Int) (ps p : List Int) (W : Int) : Option Bool :=
  (bif 16 == 0 then none
    else ((bif (((Int.tmod c 16) == 0) == true) then some (decide ((p.length : Int) > 0))
        else some false)).bind fun b8' =>
      (bif b8' then (bif bounds (some 1) none none p.length then shTail sz ps ((p.drop (0 + (Int.toNat 1))).take (p.length - (Int.toNat 1))) 5
        else none)
      else shTail sz ps p W))
theorem shCut_ok {c sz : Int} {ps p : List Int} {W : Int} (hj : Job sz ps) (hl : p.length = ps.length) (h : vld sz ps p = W) : shCut c sz ps p W = some true := by
  unfold shCut
  rw [show ((16 : Nat) == 0) = false from rfl, cond_false]
  have hno := shTail_ok h
  by_cases h1 : Int.tmod c 16 = 0
  · rw [show (Int.tmod c 16 == 0) = true by simpa using h1]
    simp only [beq_self_eq_true, cond_true, Option.bind_some]
    by_cases h2 : 0 < p.length
    · have hb : bounds (some 1) none none p.length = true := by unfold bounds; simp; omega
      rw [decide_eq_true (show (p.length : Int) > 0 by omega), cond_true, hb, cond_true]
      refine shTail_ok ?_
      unfold vld
      rw [if_neg (by simpa using chk_job.2 hj), if_pos]
      rw [List.length_take, List.length_drop]
      have : Int.toNat 1 = 1 := rfl
      omega
    · rw [decide_eq_false (show ¬ (p.length : Int) > 0 by omega), cond_false]
      exact hno
  · rw [show (Int.tmod c 16 == 0) = false from beq_false_of_ne h1]
    simp only [show (false == true) = false from rfl, cond_false, Option.bind_some]
    exact hno
theorem max_loop (n : Nat × Nat) {l : List Int} (sz : Int) (hl : l.length ≤ 100) : ∀ (m k : Nat) (v : Int), k ≤ l.length → l.length - k < m → ∃ M, DL62_1 n m l v (k : Int) = some M ∧ (sz < M ↔ sz < v ∨ ∃ y ∈ l.drop k, sz < y)
  | 0, k, v, _, h => by omega
  | m + 1, k, v, hk, h => by
    rw [DL62_1_succ]
    unfold DF62_1
    by_cases hlt : k < l.length
    · obtain ⟨M, h1, h2⟩ := max_loop n sz hl m (k + 1) (max v l[k]) (by omega) (by omega)
      refine ⟨M, ?_, ?_⟩
      · rw [dlt_t hlt, cond_true, idx_nat hlt, Option.bind_some, max_if, wr_succ (by omega)]
        exact h1
      · rw [h2, drop_cons hlt]
        constructor
        · rintro (h | ⟨y, hy, h⟩)
          · by_cases e : sz < v
            · exact .inl e
            · exact .inr ⟨l[k], List.mem_cons_self, by omega⟩
          · exact .inr ⟨y, List.mem_cons_of_mem _ hy, h⟩
        · rintro (h | ⟨y, hy, h⟩)
          · exact .inl (by omega)
          · rcases List.mem_cons.1 hy with e | hy
            · exact .inl (by rw [← e]; omega)
            · exact .inr ⟨y, hy, h⟩
    · rw [dlt_f hlt, cond_false, List.drop_of_length_le (by omega)]
      exact ⟨v, rfl, by simp⟩
theorem max_eq {l : List Int} (sz : Int) (hl : l.length ≤ 100) (h0 : 0 < l.length) : ∃ M, D62 N l = some M ∧ (sz < M ↔ ∃ y ∈ l, sz < y) := by
  unfold D62
  obtain ⟨M, h1, h2⟩ := max_loop N sz hl N.1 1 l[0] (by omega) (by have : N.1 = 1000000 := rfl; omega)
  refine ⟨M, ?_, ?_⟩
  · rw [decide_eq_false (show ¬ (l.length : Int) < 1 by omega), cond_false, show (0 : Int) = ((0 : Nat) : Int) from rfl, idx_nat h0, Option.bind_some]
    exact h1
  · rw [h2]
    have e : l = l[0] :: l.drop 1 := by have := drop_cons h0; rwa [List.drop_zero] at this
    constructor
    · rintro (h | ⟨y, hy, h⟩)
      · exact ⟨l[0], List.getElem_mem h0, h⟩
      · exact ⟨y, List.mem_of_mem_drop hy, h⟩
    · rintro ⟨y, hy, h⟩
      rw [e] at hy
      rcases List.mem_cons.1 hy with e2 | hy
      · exact .inl (by rw [← e2]; exact h)
      · exact .inr ⟨y, hy, h⟩
theorem oer_rest {m x : Int} {l : List Int} (h0 : 0 ≤ x) (h1 : x ≤ m) : oer m (x :: l) = oer (max m (x + 1)) l := by
  have e : oer m (x :: l) = if x < 0 then 2 else if m < x then 7 else oer (max m (x + 1)) l := rfl
  rw [e, if_neg (by omega), if_neg (by omega)]
/-- Errors and rests, as they are added up. -/
theorem sh_loop {sz : Int} {ps p : List Int} (hj : Job sz ps) (hl : p.length = ps.length) (hp : ∀ x ∈ p, -1 ≤ x ∧ x ≤ 3) (c : Int) : ∀ (m k : Nat) (want most : Int) (U : Nat → Int), k ≤ p.length → p.length - k < m → -1 ≤ most → most ≤ 3 →
    ((want ≠ 0 ∧ oer 0 p = want) ∨ (want = 0 ∧ oer 0 p = oer (most + 1) (p.drop k) ∧ ∀ j : Nat, U j = usd (ps.take k) (p.take k) (j : Int))) →
    DL14_2 N m c sz ps want most (p.length : Int) (k : Int) p (U 0) (U 1) (U 2) (U 3) (U 4) (U 5) (U 6) (U 7) = some true
  | 0, k, want, most, U, _, h, _, _, _ => by omega
  | m + 1, k, want, most, U, hk, hm, hm1, hm2, hI => by
    have h8 := hj.len
    have hlo := hj.lo
    have hhi := hj.hi
    rw [DL14_2_succ]
    unfold DF14_2
    by_cases hlt : k < p.length
    · have hx := hp _ (List.getElem_mem hlt)
      have hkp : k < ps.length := by omega
      have hpk := hj.ok _ (List.getElem_mem hkp)
      have ih := fun want most U => sh_loop hj hl hp c m (k + 1) want most U (by omega) (by omega)
      rw [dlt_t hlt, cond_true, inB_nat hlt, cond_true, idx_nat hlt, Option.bind_some]
      unfold DL14_3
      rw [wr_succ (by omega), wr_ok (x := most + 1) (by omega) (by omega)]
      rcases hI with ⟨h1, h2⟩ | ⟨h1, h2, h3⟩
      · rw [show (want != 0) = true by simpa using h1, cond_true]
        exact ih want most U hm1 hm2 (.inl ⟨h1, h2⟩)
      · rw [drop_cons hlt] at h2
        rw [h1, bne_self_eq_false, cond_false]
        by_cases e1 : p[k] < 0
        · rw [decide_eq_true e1, cond_true]
          refine ih 2 most U hm1 hm2 (.inl ⟨by omega, ?_⟩)
          rw [h2]
          unfold oer
          rw [if_pos e1]
        · rw [decide_eq_false e1, cond_false]
          by_cases e2 : most + 1 < p[k]
          · rw [decide_eq_true (show p[k] > most + 1 from e2), cond_true]
            refine ih 7 most U hm1 hm2 (.inl ⟨by omega, ?_⟩)
            rw [h2]
            unfold oer
            rw [if_neg e1, if_pos e2]
          · have hu0 := usd_nn (s := p[k]) (ps := ps.take k) (l := p.take k) (fun q hq => by have := hj.ok q (List.mem_of_mem_take hq); omega)
            have hu1 := usd_le (s := p[k]) (ps := ps.take k) (l := p.take k) (fun q hq => by have := hj.ok q (List.mem_of_mem_take hq); omega)
            rw [List.length_take] at hu1
            have hxn : p[k] = (p[k].toNat : Int) := by omega
            have hUx : U p[k].toNat = usd (ps.take k) (p.take k) p[k] := by rw [h3, ← hxn]
            have hin8 : inB p[k] 8 = true := by rw [hxn]; exact inB_nat (by omega)
            have hidx : idx [U 0, U 1, U 2, U 3, U 4, U 5, U 6, U 7] p[k] = some (U p[k].toNat) := by
              have hr : [U 0, U 1, U 2, U 3, U 4, U 5, U 6, U 7] = (List.range 8).map U := rfl
              rw [hr, idx_int (k := p[k].toNat) (by omega) (by simp; omega)]
              simp
            rw [decide_eq_false (show ¬ p[k] > most + 1 from e2), cond_false, hin8, cond_true, hidx, Option.bind_some, idx_nat hkp, Option.bind_some, cond_true, max_if, wr_ok (x := U p[k].toNat + ps[k]) (by omega) (by omega)]
            have hU : ∀ j : Nat, (bif (p[k] == (j : Int)) then U p[k].toNat + ps[k] else U j) = usd (ps.take (k + 1)) (p.take (k + 1)) (j : Int) := fun j => by
              rw [take_snoc hlt, take_snoc hkp, usd_snoc _ _ _ (by simp; omega)]
              by_cases e : p[k] = (j : Int)
              · rw [show (p[k] == (j : Int)) = true by simpa using e, cond_true, if_pos e, hUx, ← e]
              · rw [beq_false_of_ne e, cond_false, if_neg e, h3 j]; omega
            have hnew := ih 0 (max most p[k]) (fun j => usd (ps.take (k + 1)) (p.take (k + 1)) (j : Int)) (by omega) (by omega) (.inr ⟨rfl, by
              rw [h2, oer_rest (by omega) (by omega)]
              congr 1
              omega, fun j => rfl⟩)
            have u0 : (bif (p[k] == 0) then U p[k].toNat + ps[k] else U 0) = usd (ps.take (k + 1)) (p.take (k + 1)) ((0 : Nat) : Int) := hU 0
            have u1 : (bif (p[k] == 1) then U p[k].toNat + ps[k] else U 1) = usd (ps.take (k + 1)) (p.take (k + 1)) ((1 : Nat) : Int) := hU 1
            have u2 : (bif (p[k] == 2) then U p[k].toNat + ps[k] else U 2) = usd (ps.take (k + 1)) (p.take (k + 1)) ((2 : Nat) : Int) := hU 2
            have u3 : (bif (p[k] == 3) then U p[k].toNat + ps[k] else U 3) = usd (ps.take (k + 1)) (p.take (k + 1)) ((3 : Nat) : Int) := hU 3
            have u4 : (bif (p[k] == 4) then U p[k].toNat + ps[k] else U 4) = usd (ps.take (k + 1)) (p.take (k + 1)) ((4 : Nat) : Int) := hU 4
            have u5 : (bif (p[k] == 5) then U p[k].toNat + ps[k] else U 5) = usd (ps.take (k + 1)) (p.take (k + 1)) ((5 : Nat) : Int) := hU 5
            have u6 : (bif (p[k] == 6) then U p[k].toNat + ps[k] else U 6) = usd (ps.take (k + 1)) (p.take (k + 1)) ((6 : Nat) : Int) := hU 6
            have u7 : (bif (p[k] == 7) then U p[k].toNat + ps[k] else U 7) = usd (ps.take (k + 1)) (p.take (k + 1)) ((7 : Nat) : Int) := hU 7
            rw [u0, u1, u2, u3, u4, u5, u6, u7]
            exact hnew
    · have hk2 : k = p.length := by omega
      subst hk2
      rw [dlt_f hlt, cond_false]
      rcases hI with ⟨h1, h2⟩ | ⟨h1, h2, h3⟩
      · rw [show (want == 0) = false from beq_false_of_ne h1]
        simp only [show (false == true) = false from rfl, cond_false]
        refine shCut_ok (c := c) (W := want) hj hl ?_
        unfold vld
        rw [if_neg (by simpa using chk_job.2 hj), if_neg (by simpa using hl), if_pos (by rw [h2]; exact h1)]
        exact h2
      · subst h1
        simp only [beq_self_eq_true, cond_true]
        rw [List.drop_length] at h2
        have h2 : oer 0 p = 0 := h2
        have hb8 : bounds none none none 8 = true := by decide
        rw [List.take_length, hl, List.take_length] at h3
        obtain ⟨M, hM1, hM2⟩ := max_eq (l := [U 0, U 1, U 2, U 3, U 4, U 5, U 6, U 7]) sz (by simp) (by simp)
        rw [hb8, cond_true, hM1, Option.bind_some]
        have hiff : sz < M ↔ ∃ x ∈ p, sz < usd ps p x := by
          rw [hM2]
          have hr : [U 0, U 1, U 2, U 3, U 4, U 5, U 6, U 7] = (List.range 8).map U := rfl
          rw [hr]
          constructor
          · rintro ⟨y, hy, h⟩
            obtain ⟨j, hj2, rfl⟩ := List.mem_map.1 hy
            rw [h3 j] at h
            by_cases hm : (j : Int) ∈ p
            · exact ⟨_, hm, h⟩
            · rw [usd_none hm] at h; omega
          · rintro ⟨x, hx, h⟩
            have hb := hp x hx
            have h0 := (oer_bnd p 0 (by omega) h2).1 x hx
            exact ⟨U x.toNat, List.mem_map.2 ⟨x.toNat, List.mem_range.2 (by omega), rfl⟩, by rw [h3, show ((x.toNat : Nat) : Int) = x by omega]; exact h⟩
        by_cases e : sz < M
        · rw [decide_eq_true (show M > sz from e), cond_true]
          refine shCut_ok (c := c) (W := 15) hj hl ?_
          unfold vld
          rw [if_neg (by simpa using chk_job.2 hj), if_neg (by simpa using hl), if_neg (by simpa using h2), if_pos (hiff.1 e)]
        · rw [decide_eq_false (show ¬ M > sz from e), cond_false]
          refine shCut_ok (c := c) (W := 0) hj hl ?_
          unfold vld
          rw [if_neg (by simpa using chk_job.2 hj), if_neg (by simpa using hl), if_neg (by simpa using h2), if_neg (fun h => e (hiff.2 h))]
theorem il_len (v : I8) : (il v).length = 8 := rfl
theorem mod4 {x : Int} (h : Sb x) : wr .i64 x = x ∧ Int.tmod x 4 ≤ 3 := by
  unfold Sb at h
  refine ⟨wr_ok (by omega) (by omega), ?_⟩
  rcases Int.le_total 0 x with h0 | h0
  · rw [tmod_mod h0]; omega
  · have e : Int.tmod x 4 = -(Int.tmod (-x) 4) := by rw [Int.neg_tmod]; omega
    rw [e, tmod_mod (by omega)]
    omega
theorem pl_loop {sz : Int} {ps : List Int} (hj : Job sz ps) {v : I8} (hv : ∀ x ∈ il v, Sb x) (c : Int) : ∀ (m k : Nat) (p : List Int), k ≤ ps.length → ps.length - k < m → p.length = k → (∀ x ∈ p, -1 ≤ x ∧ x ≤ 3) →
    DL14_1 N m c sz ps (ps.length : Int) (k : Int) v.1 v.2.1 v.2.2.1 v.2.2.2.1 v.2.2.2.2.1 v.2.2.2.2.2.1 v.2.2.2.2.2.2.1 v.2.2.2.2.2.2.2 p = some true
  | 0, k, p, _, h, _, _ => by omega
  | m + 1, k, p, hk, hm, hl, hp => by
    have h8 := hj.len
    rw [DL14_1_succ]
    unfold DF14_1
    by_cases hlt : k < ps.length
    · have hkl : k < (il v).length := by rw [il_len]; omega
      obtain ⟨w1, w2⟩ := mod4 (hv _ (List.getElem_mem hkl))
      rw [dlt_t hlt, cond_true, inB_nat (show k < 8 by omega), cond_true]
      rw [show idx [v.1, v.2.1, v.2.2.1, v.2.2.2.1, v.2.2.2.2.1, v.2.2.2.2.2.1, v.2.2.2.2.2.2.1, v.2.2.2.2.2.2.2] (k : Int) = some (il v)[k] from idx_nat hkl, Option.bind_some, show ((4 : Nat) == 0) = false from rfl, cond_false, lim_dec (by omega), cond_true, wr_succ (by omega), w1, max_if]
      exact pl_loop hj hv c m (k + 1) _ (by omega) (by omega) (by simp [hl]) (fun x hx => by
        rcases List.mem_append.1 hx with hx | hx
        · exact hp x hx
        · rw [List.mem_singleton.1 hx]; omega)
    · have hlp : p.length = ps.length := by omega
      rw [dlt_f hlt, cond_false]
      exact sh_loop hj hlp hp c N.1 0 0 (-1) (fun _ => 0) (by omega) (by have : N.1 = 1000000 := rfl; omega) (by omega) (by omega) (.inr ⟨rfl, by simp, fun j => by simp [usd]⟩)
theorem shown_ok {s : Stp} (h : StpOk s) {v : I8} (hv : ∀ x ∈ il v, Sb x) (c : Int) : S14 N s v c = some true := by
  rw [S14_D N rfl]
  unfold D14
  obtain ⟨sz, ps, h1, hj, _, _⟩ := made_ok h (most := 8) (by omega)
  have e1 : D48 N s 8 = some (sz, ps) := h1
  rw [e1, Option.bind_some]
  exact pl_loop hj hv c N.1 0 [] (by omega) (by have := hj.len; have : N.1 = 1000000 := rfl; omega) rfl (by simp)
end Go.Proofs.YtgmonagekfjnmaaDoor
