/- Texts of this claim, joined: G100 to Te. -/
import Derived.KernelRfl
import Derived.Test.YtgmonagekfjnmaaDoorProg
import Derived.WalkKit
import Derived.Test.YtgmonagekfjnmaaDoorP6
set_option linter.unusedVariables false
set_option linter.unusedSimpArgs false
set_option maxRecDepth 100000
namespace Go.Proofs.YtgmonagekfjnmaaDoor
open Go.Vi
abbrev R100 := Bool
noncomputable def c100 : Code := bodyOf Tryd.f100
noncomputable def an100 : Ann := (.s .l (.s (.s .l (.j [] (.j [0, 3] (.s (.s .l (.j [0, 3] .l .l)) (.s (.j [0, 3] (.s .l (.j [0, 3] .l .l)) .l) .l)) .l) .l)) .l))
def pk100 : List PK := [.c (.int .i64)]
def rk100 : List RK := [.c .bool 2]
noncomputable def rt100 (st : St) : Option R100 := rtG rk100 st
noncomputable def E100 (n : Nat × Nat) : Env := { T := tab, phi := noPhi, eff := fun _ => false, fuel := n.1, hold := n.2 }
noncomputable def kq100_1 (n : Nat × Nat) : St → Option R100 := run (E100 n) (cB (cB c100)) (Ann.snd (Ann.snd an100)) rt100 (fun _ _ => none) rt100
noncomputable def xb100_3 (n : Nat × Nat) : Nat → St → Option R100 := fun j s => bif Nat.beq j 0 then normC [] s (kq100_1 n) else (fun _ _ => none) j s
noncomputable def F100_4 (n : Nat × Nat) : (St → Option R100) → St → Option R100 := fun K s => run (E100 n) (cA (cA (cB (cA (cB c100))))) (Ann.fst (Ann.fst (Ann.snd (Ann.fst (Ann.snd an100))))) (fun s => normC [0, 3] s K) (xb100_3 n) rt100 s
noncomputable def L100_1 (n : Nat × Nat) (m : Nat) (v0 : Int) (d3 : Int) : Option R100 := loopN (F100_4 n) m { tm := [.c (.int .i64 v0), uu, uu, .c (.int .i64 d3), uu, uu, uu, uu, uu, uu, uu, uu, uu], hp := emp }
theorem L100_1_eq (n : Nat × Nat) (m1 : Nat) (v0 : Int) (d3 : Int) : L100_1 n (m1 + 1) v0 d3 =
 (bif decide (d3 < v0) then (bif d3 == 0 then none
 else (bif ((Int.tmod v0 d3) == 0) then some false
 else L100_1 n m1 v0 (wr .i64 (d3 + 1))))
 else some true) := by kernel_rfl
noncomputable def S100 (n : Nat × Nat) (v0 : Int) : Option R100 := run (E100 n) c100 an100 rt100 (fun _ _ => none) rt100 { tm := [.c (.int .i64 v0), uu, uu, uu, uu, uu, uu, uu, uu, uu, uu, uu, uu], hp := emp }
theorem S100_eq (n : Nat × Nat) (v0 : Int) : S100 n v0 =
    L100_1 n n.1 v0 2 := by kernel_rfl
theorem S100_run (n : Nat × Nat) (xs : pksDen pk100) : S100 n xs.1 = runG (E100 n) noScope c100 an100 (rtG rk100) (fun _ _ => none) (rtG rk100) (st0 pk100 xs Tryd.f100.ntmps) := by kernel_rfl
noncomputable def P100 (n : Nat × Nat) := phiOf pk100 rk100 (fun xs => S100 n xs.1)
theorem call100 : CallOK Tryd.prog 100 := callOK_of Tryd.func100 (by kernel_rfl) (by kernel_rfl)
theorem env100 (n : Nat × Nat) : EnvOK Tryd.prog (E100 n) := envOK0 noPhi_ok rfl rfl
theorem par100 (n : Nat × Nat) : EnvPar (E100 n) := envPar0 noPhi_par rfl
theorem FC100 (n : Nat × Nat) : FCs Tryd.prog 100 (P100 n) := phiOf_FCs fun xs r h vs hv => FC.of_runG tabOK eqsOK (env100 n) (par100 n) mixed (fun _ p _ => noScope_ok p.1 p.2) Tryd.func100 (c := c100) (an := an100) (pks := pk100) (rks := rk100) (by kernel_rfl) (by kernel_rfl) hv ((S100_run n xs).symm.trans h)
abbrev R89 := List Int
noncomputable def c89 : Code := bodyOf Tryd.f89
noncomputable def an89 : Ann := (.s .l (.s .l (.s (.s .l (.j [5] (.j [1, 5, 6, 37, 38] (.s (.s .l (.j [1, 5, 6, 37, 38] .l .l)) (.s (.j [1, 5, 6, 37, 38] (.s .l (.s (.j [1, 5, 6, 7, 37, 38] (.j [1, 5, 6, 7, 37, 38] (.s (.s .l (.j [1, 5, 6, 7, 37, 38] .l .l)) (.j [1, 5, 6, 7, 37, 38] .l .l)) .l) .l) (.s (.s .l (.j [1, 5, 6, 7, 37, 38] (.s .l (.j [1, 5, 6, 7, 37, 38] (.j [1, 5, 6, 7, 8, 37, 38] (.s (.s .l (.j [1, 5, 6, 7, 8, 37, 38] .l .l)) (.j [] (.j [1, 5, 6, 7, 8, 37, 38] (.s .l (.j [1, 5, 6, 7, 8, 37, 38] .l .l)) .l) .l)) .l) .l)) .l)) .l))) .l) .l)) .l) .l)) .l)))
def pk89 : List PK := [.c (.int .i64), .c (.int .i64)]
def rk89 : List RK := [.own (.int .i64) 4]
noncomputable def rt89 (st : St) : Option R89 := rtG rk89 st
noncomputable def E89 (n : Nat × Nat) : Env := { T := tab, phi := (consPhi 100 (fun _ => true) (P100 n) noPhi), eff := fun _ => false, fuel := n.1, hold := n.2 }
noncomputable def kq89_1 (n : Nat × Nat) : St → Option R89 := run (E89 n) (cB (cB (cB c89))) (Ann.snd (Ann.snd (Ann.snd an89))) rt89 (fun _ _ => none) rt89
noncomputable def xb89_3 (n : Nat × Nat) : Nat → St → Option R89 := fun j s => bif Nat.beq j 0 then normC [5] s (kq89_1 n) else (fun _ _ => none) j s
noncomputable def F89_4 (n : Nat × Nat) : (St → Option R89) → St → Option R89 := fun K s => run (E89 n) (cA (cA (cB (cA (cB (cB c89)))))) (Ann.fst (Ann.fst (Ann.snd (Ann.fst (Ann.snd (Ann.snd an89)))))) (fun s => normC [1, 5, 6, 37, 38] s K) (xb89_3 n) rt89 s
noncomputable def kq89_7 (n : Nat × Nat) (m1 : Nat) : St → Option R89 := run (E89 n) (cB (cB (cA (cA (cB (cA (cB (cB c89)))))))) (Ann.snd (Ann.snd (Ann.fst (Ann.fst (Ann.snd (Ann.fst (Ann.snd (Ann.snd an89)))))))) (fun s => normC [1, 5, 6, 37, 38] s (loopN (F89_4 n) m1)) (xb89_3 n) rt89
noncomputable def kc89_8 (n : Nat × Nat) (m1 : Nat) : St → Option R89 := fun s => normC [1, 5, 6, 37, 38] s (kq89_7 n m1)
noncomputable def xb89_9 (n : Nat × Nat) (m1 : Nat) : Nat → St → Option R89 := fun j s => bif Nat.beq j 1 then normC [1, 5, 6, 37, 38] s (kq89_7 n m1) else (xb89_3 n) j s
noncomputable def kq89_10 (n : Nat × Nat) (m1 : Nat) : St → Option R89 := run (E89 n) (cB (cB (cA (cA (cB (cA (cA (cB (cA (cB (cB c89))))))))))) (Ann.snd (Ann.snd (Ann.fst (Ann.fst (Ann.snd (Ann.fst (Ann.fst (Ann.snd (Ann.fst (Ann.snd (Ann.snd an89))))))))))) (kc89_8 n m1) (xb89_9 n m1) rt89
noncomputable def xb89_12 (n : Nat × Nat) (m1 : Nat) : Nat → St → Option R89 := fun j s => bif Nat.beq j 2 then normC [1, 5, 6, 7, 37, 38] s (kq89_10 n m1) else (xb89_9 n m1) j s
noncomputable def F89_13 (n : Nat × Nat) (m1 : Nat) : (St → Option R89) → St → Option R89 := fun K s => run (E89 n) (cA (cA (cA (cB (cA (cA (cB (cA (cA (cB (cA (cB (cB c89))))))))))))) (Ann.fst (Ann.fst (Ann.fst (Ann.snd (Ann.fst (Ann.fst (Ann.snd (Ann.fst (Ann.fst (Ann.snd (Ann.fst (Ann.snd (Ann.snd an89))))))))))))) (fun s => normC [1, 5, 6, 7, 37, 38] s K) (xb89_12 n m1) rt89 s
noncomputable def kq89_18 (n : Nat × Nat) (m1 : Nat) : St → Option R89 := run (E89 n) (cB (cB (cB (cA (cA (cB (cA (cA (cB (cA (cB (cB c89)))))))))))) (Ann.snd (Ann.snd (Ann.snd (Ann.fst (Ann.fst (Ann.snd (Ann.fst (Ann.fst (Ann.snd (Ann.fst (Ann.snd (Ann.snd an89)))))))))))) (kc89_8 n m1) (xb89_9 n m1) rt89
noncomputable def kc89_19 (n : Nat × Nat) (m1 : Nat) : St → Option R89 := fun s => normC [1, 5, 6, 7, 37, 38] s (kq89_18 n m1)
noncomputable def xb89_21 (n : Nat × Nat) (m1 : Nat) : Nat → St → Option R89 := fun j s => bif Nat.beq j 4 then normC [1, 5, 6, 7, 37, 38] s (kc89_19 n m1) else (xb89_9 n m1) j s
noncomputable def F89_22 (n : Nat × Nat) (m1 : Nat) : (St → Option R89) → St → Option R89 := fun K s => run (E89 n) (cA (cA (cB (cA (cB (cA (cB (cB (cA (cA (cB (cA (cA (cB (cA (cB (cB c89))))))))))))))))) (Ann.fst (Ann.fst (Ann.snd (Ann.fst (Ann.snd (Ann.fst (Ann.snd (Ann.snd (Ann.fst (Ann.fst (Ann.snd (Ann.fst (Ann.fst (Ann.snd (Ann.fst (Ann.snd (Ann.snd an89))))))))))))))))) (fun s => normC [1, 5, 6, 7, 8, 37, 38] s K) (xb89_21 n m1) rt89 s
noncomputable def kq89_25 (n : Nat × Nat) (m1 m2 : Nat) : St → Option R89 := run (E89 n) (cB (cB (cA (cA (cB (cA (cB (cA (cB (cB (cA (cA (cB (cA (cA (cB (cA (cB (cB c89))))))))))))))))))) (Ann.snd (Ann.snd (Ann.fst (Ann.fst (Ann.snd (Ann.fst (Ann.snd (Ann.fst (Ann.snd (Ann.snd (Ann.fst (Ann.fst (Ann.snd (Ann.fst (Ann.fst (Ann.snd (Ann.fst (Ann.snd (Ann.snd an89))))))))))))))))))) (fun s => normC [1, 5, 6, 7, 8, 37, 38] s (loopN (F89_22 n m1) m2)) (xb89_21 n m1) rt89
noncomputable def L89_1 (n : Nat × Nat) (m : Nat) (v1 : Int) (d6 : Int) (out5 : List Int) : Option R89 := loopN (F89_4 n) m { tm := [uu, .c (.int .i64 v1), uu, uu, uu, .own 5 none false, .c (.int .i64 d6), uu, uu, uu, uu, uu, uu, uu, uu, uu, uu, uu, uu, uu, uu, uu, uu, uu, uu, uu, uu, uu, uu, uu, uu, uu, uu, uu, uu, uu, uu, uu, uu, uu, uu, uu, uu, uu, uu, uu, uu, uu, uu], hp := (upd emp 5 (.arr (.int .i64) out5 false)) }
noncomputable def L89_2 (n : Nat × Nat) (m1 : Nat) (m : Nat) (v1 : Int) (d6 : Int) (p7 : Int) (out5 : List Int) : Option R89 := loopN (F89_13 n m1) m { tm := [uu, .c (.int .i64 v1), uu, uu, uu, .own 5 none false, .c (.int .i64 d6), .c (.int .i64 p7), uu, uu, uu, uu, uu, uu, uu, uu, uu, uu, uu, uu, uu, uu, uu, uu, uu, uu, uu, uu, uu, uu, uu, uu, uu, uu, uu, uu, uu, uu, uu, uu, uu, uu, uu, uu, uu, uu, uu, uu, uu], hp := (upd emp 5 (.arr (.int .i64) out5 false)) }
noncomputable def L89_3 (n : Nat × Nat) (m1 : Nat) (m : Nat) (v1 : Int) (d6 : Int) (p7 : Int) (q8 : Int) (out5 : List Int) : Option R89 := loopN (F89_22 n m1) m { tm := [uu, .c (.int .i64 v1), uu, uu, uu, .own 5 none false, .c (.int .i64 d6), .c (.int .i64 p7), .c (.int .i64 q8), uu, uu, uu, uu, uu, uu, uu, uu, uu, uu, uu, uu, uu, uu, uu, uu, uu, uu, uu, uu, uu, uu, uu, uu, uu, uu, uu, uu, uu, uu, uu, uu, uu, uu, uu, uu, uu, uu, uu, uu], hp := (upd emp 5 (.arr (.int .i64) out5 false)) }
noncomputable def L89_4 (n : Nat × Nat) (m1 m2 : Nat) (v1 : Int) (d6 : Int) (p7 : Int) (q8 : Int) (out5 : List Int) : Option R89 := loopN (fun _ => (kq89_25 n m1 m2)) n.2 { tm := [uu, .c (.int .i64 v1), uu, uu, uu, .own 5 none false, .c (.int .i64 d6), .c (.int .i64 p7), .c (.int .i64 q8), uu, uu, uu, uu, uu, uu, uu, uu, uu, uu, uu, uu, uu, uu, uu, uu, uu, uu, uu, uu, uu, uu, uu, uu, uu, uu, uu, uu, uu, uu, uu, uu, uu, uu, uu, uu, uu, uu, uu, uu], hp := (upd emp 5 (.arr (.int .i64) out5 false)) }
theorem L89_1_eq (n : Nat × Nat) (m1 : Nat) (v1 : Int) (d6 : Int) (out5 : List Int) : L89_1 n (m1 + 1) v1 d6 out5 =
 (bif decide (d6 > 1) then L89_2 n m1 n.1 v1 d6 2 out5
 else some out5) := by kernel_rfl
theorem L89_2_eq (n : Nat × Nat) (m1 m2 : Nat) (v1 : Int) (d6 : Int) (p7 : Int) (out5 : List Int) : L89_2 n m1 (m2 + 1) v1 d6 p7 out5 =
 (bif p7 == 0 then none
 else (bif ((Int.tmod d6 p7) != 0) then L89_2 n m1 m2 v1 d6 (wr .i64 (p7 + 1)) out5
 else (bif 2 == 0 then none
 else (bif ((Int.tmod v1 2) == 1) then L89_3 n m1 n.1 v1 d6 p7 p7 out5
 else (bif p7 == 0 then none
 else (bif decide (out5.length + [wr .i64 (Int.tdiv d6 p7)].length ≤ lim) then (bif 2 == 0 then none
 else L89_1 n m1 (wr .i64 (Int.tdiv v1 2)) (wr .i64 (Int.tdiv d6 p7)) (out5 ++ [wr .i64 (Int.tdiv d6 p7)]))
 else none)))))) := by kernel_rfl
theorem L89_3_eq (n : Nat × Nat) (m1 m2 : Nat) (v1 : Int) (d6 : Int) (p7 : Int) (q8 : Int) (out5 : List Int) : L89_3 n m1 (m2 + 1) v1 d6 p7 q8 out5 =
 (bif decide (q8 ≤ d6) then (bif q8 == 0 then none
 else ((bif (((Int.tmod d6 q8) == 0) == true) then (S100 n q8).bind fun r1' =>
 some r1'
 else some false)).bind fun b2' =>
 (bif b2' then L89_4 n m1 m2 v1 d6 q8 q8 out5
 else L89_4 n m1 m2 v1 d6 p7 q8 out5))
 else (bif p7 == 0 then none
 else (bif decide (out5.length + [wr .i64 (Int.tdiv d6 p7)].length ≤ lim) then (bif 2 == 0 then none
 else L89_1 n m1 (wr .i64 (Int.tdiv v1 2)) (wr .i64 (Int.tdiv d6 p7)) (out5 ++ [wr .i64 (Int.tdiv d6 p7)]))
 else none))) := by kernel_rfl
theorem L89_4_raw (n : Nat × Nat) (m1 m2 : Nat) (v1 : Int) (d6 : Int) (p7 : Int) (q8 : Int) (out5 : List Int) : (kq89_25 n m1 m2) { tm := [uu, .c (.int .i64 v1), uu, uu, uu, .own 5 none false, .c (.int .i64 d6), .c (.int .i64 p7), .c (.int .i64 q8), uu, uu, uu, uu, uu, uu, uu, uu, uu, uu, uu, uu, uu, uu, uu, uu, uu, uu, uu, uu, uu, uu, uu, uu, uu, uu, uu, uu, uu, uu, uu, uu, uu, uu, uu, uu, uu, uu, uu, uu], hp := (upd emp 5 (.arr (.int .i64) out5 false)) } =
    L89_3 n m1 m2 v1 d6 p7 (wr .i64 (q8 + 1)) out5 := by kernel_rfl
noncomputable def S89 (n : Nat × Nat) (size0 : Int) (v1 : Int) : Option R89 := run (E89 n) c89 an89 rt89 (fun _ _ => none) rt89 { tm := [.c (.int .i64 size0), .c (.int .i64 v1), uu, uu, uu, uu, uu, uu, uu, uu, uu, uu, uu, uu, uu, uu, uu, uu, uu, uu, uu, uu, uu, uu, uu, uu, uu, uu, uu, uu, uu, uu, uu, uu, uu, uu, uu, uu, uu, uu, uu, uu, uu, uu, uu, uu, uu, uu, uu], hp := emp }
theorem S89_eq (n : Nat × Nat) (size0 : Int) (v1 : Int) : S89 n size0 v1 =
    L89_1 n n.1 v1 size0 [size0] := by kernel_rfl
theorem S89_run (n : Nat × Nat) (xs : pksDen pk89) : S89 n xs.1 xs.2.1 = runG (E89 n) noScope c89 an89 (rtG rk89) (fun _ _ => none) (rtG rk89) (st0 pk89 xs Tryd.f89.ntmps) := by kernel_rfl
noncomputable def P89 (n : Nat × Nat) := phiOf pk89 rk89 (fun xs => S89 n xs.1 xs.2.1)
theorem call89 : CallOK Tryd.prog 89 := callOK_of Tryd.func89 (by kernel_rfl) (by kernel_rfl)
theorem env89 (n : Nat × Nat) : EnvOK Tryd.prog (E89 n) := envOK0 (consPhi_ok (FC100 n) call100 noPhi_ok) rfl rfl
theorem par89 (n : Nat × Nat) : EnvPar (E89 n) := envPar0 (consPhi_par phiOf_Par1 noPhi_par) rfl
theorem FC89 (n : Nat × Nat) : FCs Tryd.prog 89 (P89 n) := phiOf_FCs fun xs r h vs hv => FC.of_runG tabOK eqsOK (env89 n) (par89 n) mixed (fun _ p _ => noScope_ok p.1 p.2) Tryd.func89 (c := c89) (an := an89) (pks := pk89) (rks := rk89) (by kernel_rfl) (by kernel_rfl) hv ((S89_run n xs).symm.trans h)
/- (headword/headwordlaw09.Strip).made -/
abbrev R48 := Int × List Int
noncomputable def c48 : Code := bodyOf Tryd.f48
noncomputable def an48 : Ann := (.s .l (.s .l (.s .l (.s (.s .l (.j [1, 2, 6, 7] .l (.s .l (.j [1, 2, 6, 7] (.j [1, 2, 6, 7, 27, 28] (.s .l (.s (.j [1, 2, 6, 7, 27, 28] .l .l) (.s (.j [1, 2, 6, 7, 27, 28] .l .l) .l))) .l) .l)))) (.s .l (.s (.s .l (.j [6, 9] (.j [6, 7, 9, 44, 45, 46] (.s .l (.s (.j [6, 7, 9, 44, 45, 46] .l .l) (.s (.j [6, 7, 9, 44, 45, 46] .l .l) .l))) .l) .l)) .l))))))
def pk48 : List PK := [.c (.pair (.int .u8) (.pair (.int .u8) (.pair (.int .u8) (.pair (.int .u8) (.pair (.int .u8) (.pair (.int .u8) (.pair (.int .u8) (.pair (.int .u8) (.pair (.int .u8) (.pair (.int .u8) (.int .u8))))))))))), .c (.int .i64)]
def rk48 : List RK := [.c (.int .i64) 4, .sl (.int .i64) 5]
noncomputable def rt48 (st : St) : Option R48 := rtG rk48 st
noncomputable def E48 (n : Nat × Nat) : Env := { T := tab, phi := (consPhi 89 (fun _ => true) (P89 n) noPhi), eff := fun _ => false, fuel := n.1, hold := n.2 }
noncomputable def kq48_1 (n : Nat × Nat) : St → Option R48 := run (E48 n) (cB (cB (cB (cB c48)))) (Ann.snd (Ann.snd (Ann.snd (Ann.snd an48)))) rt48 (fun _ _ => none) rt48
noncomputable def kc48_2 (n : Nat × Nat) : St → Option R48 := fun s => normC [1, 2, 6, 7] s (kq48_1 n)
noncomputable def kq48_3 (n : Nat × Nat) : St → Option R48 := run (E48 n) (cB (cB (cB (cB (cB (cB c48)))))) (Ann.snd (Ann.snd (Ann.snd (Ann.snd (Ann.snd (Ann.snd an48)))))) rt48 (fun _ _ => none) rt48
noncomputable def xb48_5 (n : Nat × Nat) : Nat → St → Option R48 := fun j s => bif Nat.beq j 2 then normC [6, 9] s (kq48_3 n) else (fun _ _ => none) j s
noncomputable def F48_6 (n : Nat × Nat) : (St → Option R48) → St → Option R48 := fun K s => run (E48 n) (cA (cA (cB (cA (cB (cB (cB (cB (cB c48))))))))) (Ann.fst (Ann.fst (Ann.snd (Ann.fst (Ann.snd (Ann.snd (Ann.snd (Ann.snd (Ann.snd an48))))))))) (fun s => normC [6, 7, 9, 44, 45, 46] s K) (xb48_5 n) rt48 s
noncomputable def xb48_8 (n : Nat × Nat) : Nat → St → Option R48 := fun j s => bif Nat.beq j 0 then normC [1, 2, 6, 7] s (kc48_2 n) else (fun _ _ => none) j s
noncomputable def F48_9 (n : Nat × Nat) : (St → Option R48) → St → Option R48 := fun K s => run (E48 n) (cA (cA (cB (cB (cB (cA (cB (cB (cB c48))))))))) (Ann.fst (Ann.fst (Ann.snd (Ann.snd (Ann.snd (Ann.fst (Ann.snd (Ann.snd (Ann.snd an48))))))))) (fun s => normC [1, 2, 6, 7, 27, 28] s K) (xb48_8 n) rt48 s
noncomputable def L48_1 (n : Nat × Nat) (m : Nat) (size6 : Int) (v44 : List Int) (v45 : Int) (v46 : Int) (lengths7 : List Int) (out9 : List Int) : Option R48 := loopN (F48_6 n) m { tm := [uu, uu, uu, uu, uu, uu, .c (.int .i64 size6), .own 7 none false, uu, .own 9 none false, uu, uu, uu, uu, uu, uu, uu, uu, uu, uu, uu, uu, uu, uu, uu, uu, uu, uu, uu, uu, uu, uu, uu, uu, uu, uu, uu, uu, uu, uu, uu, uu, uu, uu, .c (.sl (.int .u8) v44 false), .c (.int .i64 v45), .c (.int .i64 v46), uu, uu, uu, uu, uu, uu, uu, uu, uu, uu, uu, uu, uu, uu, uu, uu, uu], hp := (upd (upd emp 9 (.arr (.int .i64) out9 false)) 7 (.arr (.int .i64) lengths7 false)) }
noncomputable def L48_2 (n : Nat × Nat) (m : Nat) (most1 : Int) (size6 : Int) (v27 : Int) (v28 : Int) (s2_0 : Int) (s2_1 : Int) (s2_2 : Int) (s2_3 : Int) (s2_4 : Int) (s2_5 : Int) (s2_6 : Int) (s2_7 : Int) (s2_8 : Int) (s2_9 : Int) (s2_10 : Int) (lengths7 : List Int) : Option R48 := loopN (F48_9 n) m { tm := [uu, .c (.int .i64 most1), .ptr 2 0, uu, uu, uu, .c (.int .i64 size6), .own 7 none false, uu, uu, uu, uu, uu, uu, uu, uu, uu, uu, uu, uu, uu, uu, uu, uu, uu, uu, uu, .c (.int .i64 v27), .c (.int .i64 v28), uu, uu, uu, uu, uu, uu, uu, uu, uu, uu, uu, uu, uu, uu, uu, uu, uu, uu, uu, uu, uu, uu, uu, uu, uu, uu, uu, uu, uu, uu, uu, uu, uu, uu, uu], hp := (upd (upd emp 7 (.arr (.int .i64) lengths7 false)) 2 (.box [.int .u8 s2_0, .int .u8 s2_1, .int .u8 s2_2, .int .u8 s2_3, .int .u8 s2_4, .int .u8 s2_5, .int .u8 s2_6, .int .u8 s2_7, .int .u8 s2_8, .int .u8 s2_9, .int .u8 s2_10])) }
theorem L48_1_eq (n : Nat × Nat) (m1 : Nat) (size6 : Int) (v44 : List Int) (v45 : Int) (v46 : Int) (lengths7 : List Int) (out9 : List Int) : L48_1 n (m1 + 1) size6 v44 v45 v46 lengths7 out9 =
 (bif decide (v46 < v45) then (idx v44 v46).bind fun x2' =>
 (bif (lengths7.length : Int) == 0 then none
 else (bif inB (Int.tmod (wr .i64 x2') (lengths7.length : Int)) lengths7.length then (idx lengths7 (Int.tmod (wr .i64 x2') (lengths7.length : Int))).bind fun x3' =>
 (bif decide (out9.length + [x3'].length ≤ lim) then L48_1 n m1 size6 v44 v45 (wr .i64 (v46 + 1)) lengths7 (out9 ++ [x3'])
 else none)
 else none))
 else some (size6, out9)) := by kernel_rfl
theorem L48_2_eq (n : Nat × Nat) (m1 : Nat) (most1 : Int) (size6 : Int) (v27 : Int) (v28 : Int) (s2_0 : Int) (s2_1 : Int) (s2_2 : Int) (s2_3 : Int) (s2_4 : Int) (s2_5 : Int) (s2_6 : Int) (s2_7 : Int) (s2_8 : Int) (s2_9 : Int) (s2_10 : Int) (lengths7 : List Int) : L48_2 n (m1 + 1) most1 size6 v27 v28 s2_0 s2_1 s2_2 s2_3 s2_4 s2_5 s2_6 s2_7 s2_8 s2_9 s2_10 lengths7 =
 (bif decide (v28 < v27) then (bif decide (lengths7.length + [wr .i64 (v28 + 1)].length ≤ lim) then L48_2 n m1 most1 size6 v27 (wr .i64 (v28 + 1)) s2_0 s2_1 s2_2 s2_3 s2_4 s2_5 s2_6 s2_7 s2_8 s2_9 s2_10 (lengths7 ++ [wr .i64 (v28 + 1)])
 else none)
 else (bif (wr .i64 (most1 + 1)) == 0 then none
 else (bif bounds none (some (Int.tmod (wr .i64 s2_1) (wr .i64 (most1 + 1)))) none 8 then L48_1 n n.1 size6 ([s2_3, s2_4, s2_5, s2_6, s2_7, s2_8, s2_9, s2_10].take (Int.toNat (Int.tmod (wr .i64 s2_1) (wr .i64 (most1 + 1))))) (([s2_3, s2_4, s2_5, s2_6, s2_7, s2_8, s2_9, s2_10].take (Int.toNat (Int.tmod (wr .i64 s2_1) (wr .i64 (most1 + 1))))).length : Int) 0 lengths7 []
 else none))) := by kernel_rfl
noncomputable def S48 (n : Nat × Nat) (s0 : Int × Int × Int × Int × Int × Int × Int × Int × Int × Int × Int) (most1 : Int) : Option R48 := run (E48 n) c48 an48 rt48 (fun _ _ => none) rt48 { tm := [.agg [.int .u8 s0.1, .int .u8 s0.2.1, .int .u8 s0.2.2.1, .int .u8 s0.2.2.2.1, .int .u8 s0.2.2.2.2.1, .int .u8 s0.2.2.2.2.2.1, .int .u8 s0.2.2.2.2.2.2.1, .int .u8 s0.2.2.2.2.2.2.2.1, .int .u8 s0.2.2.2.2.2.2.2.2.1, .int .u8 s0.2.2.2.2.2.2.2.2.2.1, .int .u8 s0.2.2.2.2.2.2.2.2.2.2], .c (.int .i64 most1), uu, uu, uu, uu, uu, uu, uu, uu, uu, uu, uu, uu, uu, uu, uu, uu, uu, uu, uu, uu, uu, uu, uu, uu, uu, uu, uu, uu, uu, uu, uu, uu, uu, uu, uu, uu, uu, uu, uu, uu, uu, uu, uu, uu, uu, uu, uu, uu, uu, uu, uu, uu, uu, uu, uu, uu, uu, uu, uu, uu, uu, uu], hp := emp }
theorem S48_eq (n : Nat × Nat) (s0 : Int × Int × Int × Int × Int × Int × Int × Int × Int × Int × Int) (most1 : Int) : S48 n s0 most1 =
 (bif 24 == 0 then none
 else (bif 2 == 0 then none
 else (bif ((Int.tmod s0.2.2.1 2) == 1) then (bif 2 == 0 then none
 else (S89 n (wr .i64 (1 + (Int.tmod (wr .i64 s0.1) 24))) (wr .i64 (Int.tdiv (wr .i64 s0.2.2.1) 2))).bind fun r1' =>
 (bif (wr .i64 (most1 + 1)) == 0 then none
 else (bif bounds none (some (Int.tmod (wr .i64 s0.2.1) (wr .i64 (most1 + 1)))) none 8 then L48_1 n n.1 (wr .i64 (1 + (Int.tmod (wr .i64 s0.1) 24))) ([s0.2.2.2.1, s0.2.2.2.2.1, s0.2.2.2.2.2.1, s0.2.2.2.2.2.2.1, s0.2.2.2.2.2.2.2.1, s0.2.2.2.2.2.2.2.2.1, s0.2.2.2.2.2.2.2.2.2.1, s0.2.2.2.2.2.2.2.2.2.2].take (Int.toNat (Int.tmod (wr .i64 s0.2.1) (wr .i64 (most1 + 1))))) (([s0.2.2.2.1, s0.2.2.2.2.1, s0.2.2.2.2.2.1, s0.2.2.2.2.2.2.1, s0.2.2.2.2.2.2.2.1, s0.2.2.2.2.2.2.2.2.1, s0.2.2.2.2.2.2.2.2.2.1, s0.2.2.2.2.2.2.2.2.2.2].take (Int.toNat (Int.tmod (wr .i64 s0.2.1) (wr .i64 (most1 + 1))))).length : Int) 0 r1' []
 else none)))
 else L48_2 n n.1 most1 (wr .i64 (1 + (Int.tmod (wr .i64 s0.1) 24))) (wr .i64 (1 + (Int.tmod (wr .i64 s0.1) 24))) 0 s0.1 s0.2.1 s0.2.2.1 s0.2.2.2.1 s0.2.2.2.2.1 s0.2.2.2.2.2.1 s0.2.2.2.2.2.2.1 s0.2.2.2.2.2.2.2.1 s0.2.2.2.2.2.2.2.2.1 s0.2.2.2.2.2.2.2.2.2.1 s0.2.2.2.2.2.2.2.2.2.2 []))) := by kernel_rfl
theorem S48_run (n : Nat × Nat) (xs : pksDen pk48) : S48 n xs.1 xs.2.1 = runG (E48 n) noScope c48 an48 (rtG rk48) (fun _ _ => none) (rtG rk48) (st0 pk48 xs Tryd.f48.ntmps) := by kernel_rfl
noncomputable def P48 (n : Nat × Nat) := phiOf pk48 rk48 (fun xs => S48 n xs.1 xs.2.1)
theorem call48 : CallOK Tryd.prog 48 := callOK_of Tryd.func48 (by kernel_rfl) (by kernel_rfl)
theorem env48 (n : Nat × Nat) : EnvOK Tryd.prog (E48 n) := envOK0 (consPhi_ok (FC89 n) call89 noPhi_ok) rfl rfl
theorem par48 (n : Nat × Nat) : EnvPar (E48 n) := envPar0 (consPhi_par phiOf_Par1 noPhi_par) rfl
theorem FC48 (n : Nat × Nat) : FCs Tryd.prog 48 (P48 n) := phiOf_FCs fun xs r h vs hv => FC.of_runG tabOK eqsOK (env48 n) (par48 n) mixed (fun _ p _ => noScope_ok p.1 p.2) Tryd.func48 (c := c48) (an := an48) (pks := pk48) (rks := rk48) (by kernel_rfl) (by kernel_rfl) hv ((S48_run n xs).symm.trans h)
abbrev R12 := Bool
noncomputable def c12 : Code := bodyOf Tryd.f12
noncomputable def an12 : Ann := (.s .l (.s .l (.s .l (.s .l (.s (.s .l (.j [2, 3, 9, 10, 11, 75, 76, 77, 126, 127, 128, 131] .l .l)) (.s (.s .l (.j [2, 3, 9, 10, 11, 126, 127, 128, 131] (.s .l (.s .l (.j [2, 3, 9, 10, 11, 126, 127, 128, 131] .l .l))) .l)) (.s (.s .l (.j [2, 3, 9, 10, 11, 126, 127, 128, 131] .l .l)) (.s .l (.s (.s .l (.j [3, 9, 10, 11, 17, 126, 127, 128, 131] .l .l)) .l)))))))))
def pk12 : List PK := [.c (.pair (.int .u8) (.pair (.int .u8) (.pair (.int .u8) (.pair (.int .u8) (.pair (.int .u8) (.pair (.int .u8) (.pair (.int .u8) (.pair (.int .u8) (.pair (.int .u8) (.pair (.int .u8) (.int .u8))))))))))), .c (.int .u8), .c (.int .u8), .c (.int .u8)]
def rk12 : List RK := [.c .bool 8]
noncomputable def rt12 (st : St) : Option R12 := rtG rk12 st
noncomputable def E12 (n : Nat × Nat) : Env := { T := tab, phi := (consPhi 17 (fun _ => true) (P17 n) (consPhi 34 (fun _ => true) (P34 n) (consPhi 48 (fun _ => true) (P48 n) (consPhi 56 (fun _ => true) (P56 n) noPhi)))), eff := fun g => Nat.beq g 48, fuel := n.1, hold := n.2 }
noncomputable def S12 (n : Nat × Nat) (s0 : Int × Int × Int × Int × Int × Int × Int × Int × Int × Int × Int) (length1 : Int) (which2 : Int) (cut3 : Int) : Option R12 := run (E12 n) c12 an12 rt12 (fun _ _ => none) rt12 { tm := [.agg [.int .u8 s0.1, .int .u8 s0.2.1, .int .u8 s0.2.2.1, .int .u8 s0.2.2.2.1, .int .u8 s0.2.2.2.2.1, .int .u8 s0.2.2.2.2.2.1, .int .u8 s0.2.2.2.2.2.2.1, .int .u8 s0.2.2.2.2.2.2.2.1, .int .u8 s0.2.2.2.2.2.2.2.2.1, .int .u8 s0.2.2.2.2.2.2.2.2.2.1, .int .u8 s0.2.2.2.2.2.2.2.2.2.2], .c (.int .u8 length1), .c (.int .u8 which2), .c (.int .u8 cut3), uu, uu, uu, uu, uu, uu, uu, uu, uu, uu, uu, uu, uu, uu, uu, uu, uu, uu, uu, uu, uu, uu, uu, uu, uu, uu, uu, uu, uu, uu, uu, uu, uu, uu, uu, uu, uu, uu, uu, uu, uu, uu, uu, uu, uu, uu, uu, uu, uu, uu, uu, uu, uu, uu, uu, uu, uu, uu, uu, uu, uu, uu, uu, uu, uu, uu, uu, uu, uu, uu, uu, uu, uu, uu, uu, uu, uu, uu, uu, uu, uu, uu, uu, uu, uu, uu, uu, uu, uu, uu, uu, uu, uu, uu, uu, uu, uu, uu, uu, uu, uu, uu, uu, uu, uu, uu, uu, uu, uu, uu, uu, uu, uu, uu, uu, uu, uu, uu, uu, uu, uu, uu, uu, uu, uu, uu, uu, uu, uu], hp := emp }
theorem S12_eq (n : Nat × Nat) (s0 : Int × Int × Int × Int × Int × Int × Int × Int × Int × Int × Int) (length1 : Int) (which2 : Int) (cut3 : Int) : S12 n s0 length1 which2 cut3 =
 (S48 n s0 7).bind fun r1' =>
 (S34 n r1'.1 r1'.2).bind fun r2' =>
 (S56 n r1'.2).bind fun r3' =>
 (bif r1'.1 == 0 then none
 else (bif decide (r3'.length + [wr .i64 (1 + (Int.tmod (wr .i64 length1) r1'.1))].length ≤ lim) then (S34 n r1'.1 (r3' ++ [wr .i64 (1 + (Int.tmod (wr .i64 length1) r1'.1))])).bind fun r4' =>
 ((bif ((r2'.2 != 0) == false) then some (r4'.2 != 0)
 else some true)).bind fun b5' =>
 ((bif (b5' == false) then some (decide (r4'.1 < r2'.1))
 else some true)).bind fun b6' =>
 ((bif (b6' == false) then some (decide (r4'.1 > wr .i64 (r2'.1 + 1)))
 else some true)).bind fun b7' =>
 (bif b7' then some false
 else (bif decide (r1'.1 < 24) then (S34 n (wr .i64 (r1'.1 + 1)) r1'.2).bind fun r8' =>
 ((bif ((r8'.2 != 0) == false) then some (decide (r8'.1 > r2'.1))
 else some true)).bind fun b9' =>
 (bif b9' then some false
 else (bif ((r1'.2.length : Int) == 0) then (S17 n).bind fun r10' =>
 some r10'
 else (bif (r1'.2.length : Int) == 0 then none
 else (idx r1'.2 (Int.tmod (wr .i64 which2) (r1'.2.length : Int))).bind fun x11' =>
 (bif (x11' == 1) then (S17 n).bind fun r12' =>
 some r12'
 else (idx r1'.2 (Int.tmod (wr .i64 which2) (r1'.2.length : Int))).bind fun x13' =>
 (bif (wr .i64 (x13' - 1)) == 0 then none
 else (S56 n r1'.2).bind fun r14' =>
 (idx r1'.2 (Int.tmod (wr .i64 which2) (r1'.2.length : Int))).bind fun x15' =>
 (bif decide (r14'.length + [wr .i64 (x15' - (wr .i64 (1 + (Int.tmod (wr .i64 cut3) (wr .i64 (x13' - 1))))))].length ≤ lim) then (bif inB (Int.tmod (wr .i64 which2) (r1'.2.length : Int)) (r14' ++ [wr .i64 (x15' - (wr .i64 (1 + (Int.tmod (wr .i64 cut3) (wr .i64 (x13' - 1))))))]).length then (idx (r14' ++ [wr .i64 (x15' - (wr .i64 (1 + (Int.tmod (wr .i64 cut3) (wr .i64 (x13' - 1))))))]) (Int.tmod (wr .i64 which2) (r1'.2.length : Int))).bind fun x16' =>
 (S34 n r1'.1 ((r14' ++ [wr .i64 (x15' - (wr .i64 (1 + (Int.tmod (wr .i64 cut3) (wr .i64 (x13' - 1))))))]).set (Int.toNat (Int.tmod (wr .i64 which2) (r1'.2.length : Int))) (wr .i64 (1 + (Int.tmod (wr .i64 cut3) (wr .i64 (x13' - 1))))))).bind fun r17' =>
 ((bif ((r17'.2 == 0) == true) then some (decide (r17'.1 ≤ r2'.1))
 else some false)).bind fun b18' =>
 ((bif (b18' == true) then (S17 n).bind fun r19' =>
 some r19'
 else some false)).bind fun b20' =>
 some b20'
 else none)
 else none))))))
 else (bif ((r1'.2.length : Int) == 0) then (S17 n).bind fun r21' =>
 some r21'
 else (bif (r1'.2.length : Int) == 0 then none
 else (idx r1'.2 (Int.tmod (wr .i64 which2) (r1'.2.length : Int))).bind fun x22' =>
 (bif (x22' == 1) then (S17 n).bind fun r23' =>
 some r23'
 else (idx r1'.2 (Int.tmod (wr .i64 which2) (r1'.2.length : Int))).bind fun x24' =>
 (bif (wr .i64 (x24' - 1)) == 0 then none
 else (S56 n r1'.2).bind fun r25' =>
 (idx r1'.2 (Int.tmod (wr .i64 which2) (r1'.2.length : Int))).bind fun x26' =>
 (bif decide (r25'.length + [wr .i64 (x26' - (wr .i64 (1 + (Int.tmod (wr .i64 cut3) (wr .i64 (x24' - 1))))))].length ≤ lim) then (bif inB (Int.tmod (wr .i64 which2) (r1'.2.length : Int)) (r25' ++ [wr .i64 (x26' - (wr .i64 (1 + (Int.tmod (wr .i64 cut3) (wr .i64 (x24' - 1))))))]).length then (idx (r25' ++ [wr .i64 (x26' - (wr .i64 (1 + (Int.tmod (wr .i64 cut3) (wr .i64 (x24' - 1))))))]) (Int.tmod (wr .i64 which2) (r1'.2.length : Int))).bind fun x27' =>
 (S34 n r1'.1 ((r25' ++ [wr .i64 (x26' - (wr .i64 (1 + (Int.tmod (wr .i64 cut3) (wr .i64 (x24' - 1))))))]).set (Int.toNat (Int.tmod (wr .i64 which2) (r1'.2.length : Int))) (wr .i64 (1 + (Int.tmod (wr .i64 cut3) (wr .i64 (x24' - 1))))))).bind fun r28' =>
 ((bif ((r28'.2 == 0) == true) then some (decide (r28'.1 ≤ r2'.1))
 else some false)).bind fun b29' =>
 ((bif (b29' == true) then (S17 n).bind fun r30' =>
 some r30'
 else some false)).bind fun b31' =>
 some b31'
 else none)
 else none)))))))
 else none)) := by kernel_rfl
theorem S12_run (n : Nat × Nat) (xs : pksDen pk12) : S12 n xs.1 xs.2.1 xs.2.2.1 xs.2.2.2.1 = runG (E12 n) noScope c12 an12 (rtG rk12) (fun _ _ => none) (rtG rk12) (st0 pk12 xs Tryd.f12.ntmps) := by kernel_rfl
noncomputable def P12 (n : Nat × Nat) := phiOf pk12 rk12 (fun xs => S12 n xs.1 xs.2.1 xs.2.2.1 xs.2.2.2.1)
theorem env12 (n : Nat × Nat) : EnvOK Tryd.prog (E12 n) := envOK0 (consPhi_ok (FC17 n) call17 (consPhi_ok (FC34 n) call34 (consPhi_ok (FC48 n) call48 (consPhi_ok (FC56 n) call56 noPhi_ok)))) rfl rfl
theorem par12 (n : Nat × Nat) : EnvPar (E12 n) := envPar0 (consPhi_par phiOf_Par1 (consPhi_par phiOf_Par1 (consPhi_par phiOf_Par1 (consPhi_par phiOf_Par1 noPhi_par)))) rfl
theorem FC12 (n : Nat × Nat) : FCs Tryd.prog 12 (P12 n) := phiOf_FCs fun xs r h vs hv => FC.of_runG tabOK eqsOK (env12 n) (par12 n) mixed (fun _ p _ => noScope_ok p.1 p.2) Tryd.func12 (c := c12) (an := an12) (pks := pk12) (rks := rk12) (by kernel_rfl) (by kernel_rfl) hv ((S12_run n xs).symm.trans h)
/-D 100 -/
noncomputable def DF100_1 (n : Nat × Nat) (f1 : Int → Int → Option R100) (v0 : Int) (d3 : Int) : Option R100 :=
 (bif decide (d3 < v0) then (bif d3 == 0 then none
 else (bif ((Int.tmod v0 d3) == 0) then some false
 else f1 v0 (wr .i64 (d3 + 1))))
 else some true)
noncomputable def DL100_1 (n : Nat × Nat) (m : Nat) : Int → Int → Option R100 := Nat.rec (motive := fun _ => Int → Int → Option R100) (fun _ _ => none) (fun _ ih => DF100_1 n ih) m
theorem DL100_1_succ (n : Nat × Nat) (m : Nat) : DL100_1 n (m + 1) = DF100_1 n (DL100_1 n m) := rfl
theorem DL100_1_eq (n : Nat × Nat) (hn : n.2 = 1) : ∀ m, L100_1 n m = DL100_1 n m
  | 0 => by funext v0 d3; kernel_rfl
  | m + 1 => by
    have ih := DL100_1_eq n hn m
    funext v0 d3; refine (L100_1_eq n m v0 d3).trans ?_
    rw [DL100_1_succ]
    unfold DF100_1
    (try simp only [ih]) <;> first | with_reducible rfl | rfl
noncomputable def D100 (n : Nat × Nat) (v0 : Int) : Option R100 :=
    DL100_1 n n.1 v0 2
theorem S100_D (n : Nat × Nat) (hn : n.2 = 1) : S100 n = D100 n := by
  funext v0; refine (S100_eq n v0).trans ?_
  unfold D100
  (try simp only [DL100_1_eq n hn]) <;> first | with_reducible rfl | rfl
/-D 89 -/
noncomputable def DL89_4 (n : Nat × Nat) (f1 : Int → Int → List Int → Option R89) (f2 : Int → Int → Int → Int → List Int → Option R89) (v1 : Int) (d6 : Int) (p7 : Int) (q8 : Int) (out5 : List Int) : Option R89 :=
    f2 v1 d6 p7 (wr .i64 (q8 + 1)) out5
theorem DL89_4_eq (n : Nat × Nat) (hn : n.2 = 1) (m1 m2 : Nat) : L89_4 n m1 m2 = DL89_4 n (L89_1 n m1) (L89_3 n m1 m2) := by
  funext v1 d6 p7 q8 out5; refine ((held_eq hn _).trans (L89_4_raw n m1 m2 v1 d6 p7 q8 out5)).trans ?_
  unfold DL89_4
  (try simp only [S100_D n hn]) <;> first | with_reducible rfl | rfl
noncomputable def DF89_3 (n : Nat × Nat) (f1 : Int → Int → List Int → Option R89) (f2 : Int → Int → Int → Int → List Int → Option R89) (v1 : Int) (d6 : Int) (p7 : Int) (q8 : Int) (out5 : List Int) : Option R89 :=
 (bif decide (q8 ≤ d6) then (bif q8 == 0 then none
 else ((bif (((Int.tmod d6 q8) == 0) == true) then (D100 n q8).bind fun r1' =>
 some r1'
 else some false)).bind fun b2' =>
 (bif b2' then DL89_4 n f1 f2 v1 d6 q8 q8 out5
 else DL89_4 n f1 f2 v1 d6 p7 q8 out5))
 else (bif p7 == 0 then none
 else (bif decide (out5.length + [wr .i64 (Int.tdiv d6 p7)].length ≤ lim) then (bif 2 == 0 then none
 else f1 (wr .i64 (Int.tdiv v1 2)) (wr .i64 (Int.tdiv d6 p7)) (out5 ++ [wr .i64 (Int.tdiv d6 p7)]))
 else none)))
noncomputable def DL89_3 (n : Nat × Nat) (f1 : Int → Int → List Int → Option R89) (m : Nat) : Int → Int → Int → Int → List Int → Option R89 := Nat.rec (motive := fun _ => Int → Int → Int → Int → List Int → Option R89) (fun _ _ _ _ _ => none) (fun _ ih => DF89_3 n f1 ih) m
theorem DL89_3_succ (n : Nat × Nat) (f1 : Int → Int → List Int → Option R89) (m : Nat) : DL89_3 n f1 (m + 1) = DF89_3 n f1 (DL89_3 n f1 m) := rfl
theorem DL89_3_eq (n : Nat × Nat) (hn : n.2 = 1) (m1 : Nat) : ∀ m, L89_3 n m1 m = DL89_3 n (L89_1 n m1) m
  | 0 => by funext v1 d6 p7 q8 out5; kernel_rfl
  | m + 1 => by
    have ih := DL89_3_eq n hn m1 m
    funext v1 d6 p7 q8 out5; refine (L89_3_eq n m1 m v1 d6 p7 q8 out5).trans ?_
    rw [DL89_3_succ]
    unfold DF89_3
    (try simp only [ih, DL89_4_eq n hn, S100_D n hn]) <;> first | with_reducible rfl | rfl
noncomputable def DF89_2 (n : Nat × Nat) (f1 : Int → Int → List Int → Option R89) (f2 : Int → Int → Int → List Int → Option R89) (v1 : Int) (d6 : Int) (p7 : Int) (out5 : List Int) : Option R89 :=
 (bif p7 == 0 then none
 else (bif ((Int.tmod d6 p7) != 0) then f2 v1 d6 (wr .i64 (p7 + 1)) out5
 else (bif 2 == 0 then none
 else (bif ((Int.tmod v1 2) == 1) then DL89_3 n f1 n.1 v1 d6 p7 p7 out5
 else (bif p7 == 0 then none
 else (bif decide (out5.length + [wr .i64 (Int.tdiv d6 p7)].length ≤ lim) then (bif 2 == 0 then none
 else f1 (wr .i64 (Int.tdiv v1 2)) (wr .i64 (Int.tdiv d6 p7)) (out5 ++ [wr .i64 (Int.tdiv d6 p7)]))
 else none))))))
noncomputable def DL89_2 (n : Nat × Nat) (f1 : Int → Int → List Int → Option R89) (m : Nat) : Int → Int → Int → List Int → Option R89 := Nat.rec (motive := fun _ => Int → Int → Int → List Int → Option R89) (fun _ _ _ _ => none) (fun _ ih => DF89_2 n f1 ih) m
theorem DL89_2_succ (n : Nat × Nat) (f1 : Int → Int → List Int → Option R89) (m : Nat) : DL89_2 n f1 (m + 1) = DF89_2 n f1 (DL89_2 n f1 m) := rfl
theorem DL89_2_eq (n : Nat × Nat) (hn : n.2 = 1) (m1 : Nat) : ∀ m, L89_2 n m1 m = DL89_2 n (L89_1 n m1) m
  | 0 => by funext v1 d6 p7 out5; kernel_rfl
  | m + 1 => by
    have ih := DL89_2_eq n hn m1 m
    funext v1 d6 p7 out5; refine (L89_2_eq n m1 m v1 d6 p7 out5).trans ?_
    rw [DL89_2_succ]
    unfold DF89_2
    (try simp only [ih, DL89_4_eq n hn, DL89_3_eq n hn, S100_D n hn]) <;> first | with_reducible rfl | rfl
noncomputable def DF89_1 (n : Nat × Nat) (f1 : Int → Int → List Int → Option R89) (v1 : Int) (d6 : Int) (out5 : List Int) : Option R89 :=
 (bif decide (d6 > 1) then DL89_2 n f1 n.1 v1 d6 2 out5
 else some out5)
noncomputable def DL89_1 (n : Nat × Nat) (m : Nat) : Int → Int → List Int → Option R89 := Nat.rec (motive := fun _ => Int → Int → List Int → Option R89) (fun _ _ _ => none) (fun _ ih => DF89_1 n ih) m
theorem DL89_1_succ (n : Nat × Nat) (m : Nat) : DL89_1 n (m + 1) = DF89_1 n (DL89_1 n m) := rfl
theorem DL89_1_eq (n : Nat × Nat) (hn : n.2 = 1) : ∀ m, L89_1 n m = DL89_1 n m
  | 0 => by funext v1 d6 out5; kernel_rfl
  | m + 1 => by
    have ih := DL89_1_eq n hn m
    funext v1 d6 out5; refine (L89_1_eq n m v1 d6 out5).trans ?_
    rw [DL89_1_succ]
    unfold DF89_1
    (try simp only [ih, DL89_4_eq n hn, DL89_3_eq n hn, DL89_2_eq n hn, S100_D n hn]) <;> first | with_reducible rfl | rfl
noncomputable def D89 (n : Nat × Nat) (size0 : Int) (v1 : Int) : Option R89 :=
    DL89_1 n n.1 v1 size0 [size0]
theorem S89_D (n : Nat × Nat) (hn : n.2 = 1) : S89 n = D89 n := by
  funext size0 v1; refine (S89_eq n size0 v1).trans ?_
  unfold D89
  (try simp only [DL89_4_eq n hn, DL89_3_eq n hn, DL89_2_eq n hn, DL89_1_eq n hn, S100_D n hn]) <;> first | with_reducible rfl | rfl
/-D 48 -/
noncomputable def DF48_1 (n : Nat × Nat) (f1 : Int → List Int → Int → Int → List Int → List Int → Option R48) (size6 : Int) (v44 : List Int) (v45 : Int) (v46 : Int) (lengths7 : List Int) (out9 : List Int) : Option R48 :=
 (bif decide (v46 < v45) then (idx v44 v46).bind fun x2' =>
 (bif (lengths7.length : Int) == 0 then none
 else (bif inB (Int.tmod (wr .i64 x2') (lengths7.length : Int)) lengths7.length then (idx lengths7 (Int.tmod (wr .i64 x2') (lengths7.length : Int))).bind fun x3' =>
 (bif decide (out9.length + [x3'].length ≤ lim) then f1 size6 v44 v45 (wr .i64 (v46 + 1)) lengths7 (out9 ++ [x3'])
 else none)
 else none))
 else some (size6, out9))
noncomputable def DL48_1 (n : Nat × Nat) (m : Nat) : Int → List Int → Int → Int → List Int → List Int → Option R48 := Nat.rec (motive := fun _ => Int → List Int → Int → Int → List Int → List Int → Option R48) (fun _ _ _ _ _ _ => none) (fun _ ih => DF48_1 n ih) m
theorem DL48_1_succ (n : Nat × Nat) (m : Nat) : DL48_1 n (m + 1) = DF48_1 n (DL48_1 n m) := rfl
theorem DL48_1_eq (n : Nat × Nat) (hn : n.2 = 1) : ∀ m, L48_1 n m = DL48_1 n m
  | 0 => by funext size6 v44 v45 v46 lengths7 out9; kernel_rfl
  | m + 1 => by
    have ih := DL48_1_eq n hn m
    funext size6 v44 v45 v46 lengths7 out9; refine (L48_1_eq n m size6 v44 v45 v46 lengths7 out9).trans ?_
    rw [DL48_1_succ]
    unfold DF48_1
    (try simp only [ih, S89_D n hn]) <;> first | with_reducible rfl | rfl
noncomputable def DF48_2 (n : Nat × Nat) (f1 : Int → Int → Int → Int → Int → Int → Int → Int → Int → Int → Int → Int → Int → Int → Int → List Int → Option R48) (most1 : Int) (size6 : Int) (v27 : Int) (v28 : Int) (s2_0 : Int) (s2_1 : Int) (s2_2 : Int) (s2_3 : Int) (s2_4 : Int) (s2_5 : Int) (s2_6 : Int) (s2_7 : Int) (s2_8 : Int) (s2_9 : Int) (s2_10 : Int) (lengths7 : List Int) : Option R48 :=
 (bif decide (v28 < v27) then (bif decide (lengths7.length + [wr .i64 (v28 + 1)].length ≤ lim) then f1 most1 size6 v27 (wr .i64 (v28 + 1)) s2_0 s2_1 s2_2 s2_3 s2_4 s2_5 s2_6 s2_7 s2_8 s2_9 s2_10 (lengths7 ++ [wr .i64 (v28 + 1)])
 else none)
 else (bif (wr .i64 (most1 + 1)) == 0 then none
 else (bif bounds none (some (Int.tmod (wr .i64 s2_1) (wr .i64 (most1 + 1)))) none 8 then DL48_1 n n.1 size6 ([s2_3, s2_4, s2_5, s2_6, s2_7, s2_8, s2_9, s2_10].take (Int.toNat (Int.tmod (wr .i64 s2_1) (wr .i64 (most1 + 1))))) (([s2_3, s2_4, s2_5, s2_6, s2_7, s2_8, s2_9, s2_10].take (Int.toNat (Int.tmod (wr .i64 s2_1) (wr .i64 (most1 + 1))))).length : Int) 0 lengths7 []
 else none)))
noncomputable def DL48_2 (n : Nat × Nat) (m : Nat) : Int → Int → Int → Int → Int → Int → Int → Int → Int → Int → Int → Int → Int → Int → Int → List Int → Option R48 := Nat.rec (motive := fun _ => Int → Int → Int → Int → Int → Int → Int → Int → Int → Int → Int → Int → Int → Int → Int → List Int → Option R48) (fun _ _ _ _ _ _ _ _ _ _ _ _ _ _ _ _ => none) (fun _ ih => DF48_2 n ih) m
theorem DL48_2_succ (n : Nat × Nat) (m : Nat) : DL48_2 n (m + 1) = DF48_2 n (DL48_2 n m) := rfl
theorem DL48_2_eq (n : Nat × Nat) (hn : n.2 = 1) : ∀ m, L48_2 n m = DL48_2 n m
  | 0 => by funext most1 size6 v27 v28 s2_0 s2_1 s2_2 s2_3 s2_4 s2_5 s2_6 s2_7 s2_8 s2_9 s2_10 lengths7; kernel_rfl
  | m + 1 => by
    have ih := DL48_2_eq n hn m
    funext most1 size6 v27 v28 s2_0 s2_1 s2_2 s2_3 s2_4 s2_5 s2_6 s2_7 s2_8 s2_9 s2_10 lengths7; refine (L48_2_eq n m most1 size6 v27 v28 s2_0 s2_1 s2_2 s2_3 s2_4 s2_5 s2_6 s2_7 s2_8 s2_9 s2_10 lengths7).trans ?_
    rw [DL48_2_succ]
    unfold DF48_2
    (try simp only [ih, DL48_1_eq n hn, S89_D n hn]) <;> first | with_reducible rfl | rfl
noncomputable def D48 (n : Nat × Nat) (s0 : Int × Int × Int × Int × Int × Int × Int × Int × Int × Int × Int) (most1 : Int) : Option R48 :=
 (bif 24 == 0 then none
 else (bif 2 == 0 then none
 else (bif ((Int.tmod s0.2.2.1 2) == 1) then (bif 2 == 0 then none
 else (D89 n (wr .i64 (1 + (Int.tmod (wr .i64 s0.1) 24))) (wr .i64 (Int.tdiv (wr .i64 s0.2.2.1) 2))).bind fun r1' =>
 (bif (wr .i64 (most1 + 1)) == 0 then none
 else (bif bounds none (some (Int.tmod (wr .i64 s0.2.1) (wr .i64 (most1 + 1)))) none 8 then DL48_1 n n.1 (wr .i64 (1 + (Int.tmod (wr .i64 s0.1) 24))) ([s0.2.2.2.1, s0.2.2.2.2.1, s0.2.2.2.2.2.1, s0.2.2.2.2.2.2.1, s0.2.2.2.2.2.2.2.1, s0.2.2.2.2.2.2.2.2.1, s0.2.2.2.2.2.2.2.2.2.1, s0.2.2.2.2.2.2.2.2.2.2].take (Int.toNat (Int.tmod (wr .i64 s0.2.1) (wr .i64 (most1 + 1))))) (([s0.2.2.2.1, s0.2.2.2.2.1, s0.2.2.2.2.2.1, s0.2.2.2.2.2.2.1, s0.2.2.2.2.2.2.2.1, s0.2.2.2.2.2.2.2.2.1, s0.2.2.2.2.2.2.2.2.2.1, s0.2.2.2.2.2.2.2.2.2.2].take (Int.toNat (Int.tmod (wr .i64 s0.2.1) (wr .i64 (most1 + 1))))).length : Int) 0 r1' []
 else none)))
 else DL48_2 n n.1 most1 (wr .i64 (1 + (Int.tmod (wr .i64 s0.1) 24))) (wr .i64 (1 + (Int.tmod (wr .i64 s0.1) 24))) 0 s0.1 s0.2.1 s0.2.2.1 s0.2.2.2.1 s0.2.2.2.2.1 s0.2.2.2.2.2.1 s0.2.2.2.2.2.2.1 s0.2.2.2.2.2.2.2.1 s0.2.2.2.2.2.2.2.2.1 s0.2.2.2.2.2.2.2.2.2.1 s0.2.2.2.2.2.2.2.2.2.2 [])))
theorem S48_D (n : Nat × Nat) (hn : n.2 = 1) : S48 n = D48 n := by
  funext s0 most1; refine (S48_eq n s0 most1).trans ?_
  unfold D48
  (try simp only [DL48_1_eq n hn, DL48_2_eq n hn, S89_D n hn]) <;> first | with_reducible rfl | rfl
/-D 12 -/
noncomputable def D12 (n : Nat × Nat) (s0 : Int × Int × Int × Int × Int × Int × Int × Int × Int × Int × Int) (length1 : Int) (which2 : Int) (cut3 : Int) : Option R12 :=
 (D48 n s0 7).bind fun r1' =>
 (D34 n r1'.1 r1'.2).bind fun r2' =>
 (D56 n r1'.2).bind fun r3' =>
 (bif r1'.1 == 0 then none
 else (bif decide (r3'.length + [wr .i64 (1 + (Int.tmod (wr .i64 length1) r1'.1))].length ≤ lim) then (D34 n r1'.1 (r3' ++ [wr .i64 (1 + (Int.tmod (wr .i64 length1) r1'.1))])).bind fun r4' =>
 ((bif ((r2'.2 != 0) == false) then some (r4'.2 != 0)
 else some true)).bind fun b5' =>
 ((bif (b5' == false) then some (decide (r4'.1 < r2'.1))
 else some true)).bind fun b6' =>
 ((bif (b6' == false) then some (decide (r4'.1 > wr .i64 (r2'.1 + 1)))
 else some true)).bind fun b7' =>
 (bif b7' then some false
 else (bif decide (r1'.1 < 24) then (D34 n (wr .i64 (r1'.1 + 1)) r1'.2).bind fun r8' =>
 ((bif ((r8'.2 != 0) == false) then some (decide (r8'.1 > r2'.1))
 else some true)).bind fun b9' =>
 (bif b9' then some false
 else (bif ((r1'.2.length : Int) == 0) then (D17 n).bind fun r10' =>
 some r10'
 else (bif (r1'.2.length : Int) == 0 then none
 else (idx r1'.2 (Int.tmod (wr .i64 which2) (r1'.2.length : Int))).bind fun x11' =>
 (bif (x11' == 1) then (D17 n).bind fun r12' =>
 some r12'
 else (idx r1'.2 (Int.tmod (wr .i64 which2) (r1'.2.length : Int))).bind fun x13' =>
 (bif (wr .i64 (x13' - 1)) == 0 then none
 else (D56 n r1'.2).bind fun r14' =>
 (idx r1'.2 (Int.tmod (wr .i64 which2) (r1'.2.length : Int))).bind fun x15' =>
 (bif decide (r14'.length + [wr .i64 (x15' - (wr .i64 (1 + (Int.tmod (wr .i64 cut3) (wr .i64 (x13' - 1))))))].length ≤ lim) then (bif inB (Int.tmod (wr .i64 which2) (r1'.2.length : Int)) (r14' ++ [wr .i64 (x15' - (wr .i64 (1 + (Int.tmod (wr .i64 cut3) (wr .i64 (x13' - 1))))))]).length then (idx (r14' ++ [wr .i64 (x15' - (wr .i64 (1 + (Int.tmod (wr .i64 cut3) (wr .i64 (x13' - 1))))))]) (Int.tmod (wr .i64 which2) (r1'.2.length : Int))).bind fun x16' =>
 (D34 n r1'.1 ((r14' ++ [wr .i64 (x15' - (wr .i64 (1 + (Int.tmod (wr .i64 cut3) (wr .i64 (x13' - 1))))))]).set (Int.toNat (Int.tmod (wr .i64 which2) (r1'.2.length : Int))) (wr .i64 (1 + (Int.tmod (wr .i64 cut3) (wr .i64 (x13' - 1))))))).bind fun r17' =>
 ((bif ((r17'.2 == 0) == true) then some (decide (r17'.1 ≤ r2'.1))
 else some false)).bind fun b18' =>
 ((bif (b18' == true) then (D17 n).bind fun r19' =>
 some r19'
 else some false)).bind fun b20' =>
 some b20'
 else none)
 else none))))))
 else (bif ((r1'.2.length : Int) == 0) then (D17 n).bind fun r21' =>
 some r21'
 else (bif (r1'.2.length : Int) == 0 then none
 else (idx r1'.2 (Int.tmod (wr .i64 which2) (r1'.2.length : Int))).bind fun x22' =>
 (bif (x22' == 1) then (D17 n).bind fun r23' =>
 some r23'
 else (idx r1'.2 (Int.tmod (wr .i64 which2) (r1'.2.length : Int))).bind fun x24' =>
 (bif (wr .i64 (x24' - 1)) == 0 then none
 else (D56 n r1'.2).bind fun r25' =>
 (idx r1'.2 (Int.tmod (wr .i64 which2) (r1'.2.length : Int))).bind fun x26' =>
 (bif decide (r25'.length + [wr .i64 (x26' - (wr .i64 (1 + (Int.tmod (wr .i64 cut3) (wr .i64 (x24' - 1))))))].length ≤ lim) then (bif inB (Int.tmod (wr .i64 which2) (r1'.2.length : Int)) (r25' ++ [wr .i64 (x26' - (wr .i64 (1 + (Int.tmod (wr .i64 cut3) (wr .i64 (x24' - 1))))))]).length then (idx (r25' ++ [wr .i64 (x26' - (wr .i64 (1 + (Int.tmod (wr .i64 cut3) (wr .i64 (x24' - 1))))))]) (Int.tmod (wr .i64 which2) (r1'.2.length : Int))).bind fun x27' =>
 (D34 n r1'.1 ((r25' ++ [wr .i64 (x26' - (wr .i64 (1 + (Int.tmod (wr .i64 cut3) (wr .i64 (x24' - 1))))))]).set (Int.toNat (Int.tmod (wr .i64 which2) (r1'.2.length : Int))) (wr .i64 (1 + (Int.tmod (wr .i64 cut3) (wr .i64 (x24' - 1))))))).bind fun r28' =>
 ((bif ((r28'.2 == 0) == true) then some (decide (r28'.1 ≤ r2'.1))
 else some false)).bind fun b29' =>
 ((bif (b29' == true) then (D17 n).bind fun r30' =>
 some r30'
 else some false)).bind fun b31' =>
 some b31'
 else none)
 else none)))))))
 else none))
theorem S12_D (n : Nat × Nat) (hn : n.2 = 1) : S12 n = D12 n := by
  funext s0 length1 which2 cut3; refine (S12_eq n s0 length1 which2 cut3).trans ?_
  unfold D12
  (try simp only [S17_D n hn, S34_D n hn, S48_D n hn, S56_D n hn]) <;> first | with_reducible rfl | rfl
/-D 13 -/
end Go.Proofs.YtgmonagekfjnmaaDoor
set_option linter.unusedVariables false
set_option linter.unusedSimpArgs false
namespace Go.Proofs.YtgmonagekfjnmaaDoor
open Go.Vi
abbrev N : Nat × Nat := (1000000, 1)
theorem works_eq : D17 N = some true := by kernel_rfl
end Go.Proofs.YtgmonagekfjnmaaDoor
set_option linter.unusedVariables false
set_option linter.unusedSimpArgs false
set_option maxRecDepth 100000
namespace Go.Proofs.YtgmonagekfjnmaaDoor
open Go.Vi
noncomputable def c3 : Code := bodyOf Tryd.f3
/-D 16 -/
/-D 72 -/
/-D 27 -/
/-D 67 -/
/-D 68 -/
/-D 29 -/
/-D 19 -/
/-D 21 -/
/-D 73 -/
/-D 74 -/
/-D 23 -/
/-D 3 -/
end Go.Proofs.YtgmonagekfjnmaaDoor
set_option linter.unusedVariables false
set_option linter.unusedSimpArgs false
namespace Go.Proofs.YtgmonagekfjnmaaDoor
open Go.Vi
theorem hN1 : 1000 ≤ N.1 := by decide
theorem wr_ok {x : Int} (h1 : -9223372036854775808 ≤ x) (h2 : x ≤ 9223372036854775807) : wr .i64 x = x := by
  have : wr .i64 x = (x + 9223372036854775808) % 18446744073709551616 - 9223372036854775808 := by
    simp only [wr, IntKind.wrap, IntKind.signed, IntKind.bits]
    simp
    split <;> omega
  rw [this]
  omega
theorem wr_succ {k : Nat} (h : k < 1000000) : wr .i64 ((k : Int) + 1) = ((k + 1 : Nat) : Int) := by
  rw [wr_ok (by omega) (by omega)]; omega
theorem idx_nat {α : Type} {l : List α} {k : Nat} (h : k < l.length) : idx l (k : Int) = some l[k] := by
  unfold idx
  rw [if_pos (by omega), Int.toNat_natCast, List.getElem?_eq_getElem h]
theorem drop_cons {α : Type} {l : List α} {k : Nat} (h : k < l.length) : l.drop k = l[k] :: l.drop (k + 1) := List.drop_eq_getElem_cons h
theorem inB_nat {k n : Nat} (h : k < n) : inB (k : Int) n = true := by
  unfold inB
  simp [h]
theorem lim_dec {α : Type} {a : Nat} {x : α} (h : a < 1000000) : decide (a + [x].length ≤ lim) = true := decide_eq_true (by simp [lim]; omega)
theorem dlt_t {a b : Nat} (h : a < b) : decide ((a : Int) < (b : Int)) = true := decide_eq_true (by omega)
theorem dlt_f {a b : Nat} (h : ¬ a < b) : decide ((a : Int) < (b : Int)) = false := decide_eq_false (by omega)
theorem take_snoc {α : Type} {l : List α} {k : Nat} (h : k < l.length) : l.take (k + 1) = l.take k ++ [l[k]] := (List.take_append_getElem h).symm
/-- The first place at which something holds, or -1. -/
def fnd (q : Int → Bool) : Nat → List Int → Int
  | _, [] => -1
  | k, x :: l => if q x then (k : Int) else fnd q (k + 1) l
theorem fnd_bnd (q : Int → Bool) : ∀ (l : List Int) (k : Nat), fnd q k l = -1 ∧ (∀ x ∈ l, q x = false) ∨ (k ≤ fnd q k l ∧ fnd q k l < k + l.length ∧ ∃ x ∈ l, q x = true)
  | [], k => by simp [fnd]
  | x :: l, k => by
    unfold fnd
    by_cases h : q x = true
    · rw [if_pos h]
      exact .inr ⟨by omega, by simp; omega, x, by simp, h⟩
    · rw [if_neg h]
      rcases fnd_bnd q l (k + 1) with ⟨h1, h2⟩ | ⟨h1, h2, y, hy, hq⟩
      · exact .inl ⟨h1, fun y hy => (List.mem_cons.1 hy).elim (fun e => by rw [e]; simpa using h) (fun hy => h2 y hy)⟩
      · exact .inr ⟨by omega, by simp; omega, y, by simp [hy], hq⟩
theorem fnd_ge (q : Int → Bool) (l : List Int) (k : Nat) : (0 ≤ fnd q k l) ↔ ∃ x ∈ l, q x = true := by
  rcases fnd_bnd q l k with ⟨h1, h2⟩ | ⟨h1, h2, h3⟩
  · constructor
    · intro h; omega
    · rintro ⟨x, hx, hq⟩; rw [h2 x hx] at hq; cases hq
  · exact ⟨fun _ => h3, fun _ => by omega⟩
/-- A job's error. -/
def BadP (sz p : Int) : Prop := p < 1 ∨ sz < p
instance (sz p : Int) : Decidable (BadP sz p) := inferInstanceAs (Decidable (_ ∨ _))
def chk (sz : Int) (ps : List Int) : Int := if sz < 1 ∨ 24 < sz then 1 else if 8 < ps.length then 3 else if ∃ p ∈ ps, BadP sz p then 1 else 0
structure Job (sz : Int) (ps : List Int) : Prop where
  lo : 1 ≤ sz
  hi : sz ≤ 24
  len : ps.length ≤ 8
  ok : ∀ p ∈ ps, 1 ≤ p ∧ p ≤ sz
theorem chk_job {sz : Int} {ps : List Int} : chk sz ps = 0 ↔ Job sz ps := by
  unfold chk
  constructor
  · intro h
    split at h
    · omega
    · split at h
      · omega
      · split at h
        · omega
        · rename_i h1 h2 h3
          refine ⟨by omega, by omega, by omega, fun p hp => ?_⟩
          have : ¬ BadP sz p := fun hb => h3 ⟨p, hp, hb⟩
          unfold BadP at this
          omega
  · intro h
    have := h.lo
    have := h.hi
    have := h.len
    rw [if_neg (by omega), if_neg (by omega), if_neg]
    rintro ⟨p, hp, hb⟩
    have := h.ok p hp
    unfold BadP at hb
    omega
theorem bad_eq (n : Nat × Nat) (p sz : Int) : D76 n p sz = some (decide (BadP sz p)) := by
  unfold D76 BadP
  by_cases h : p < 1
  · rw [decide_eq_true h]; simp [h]
  · rw [decide_eq_false h]; simp [h]
theorem idxf_loop (n : Nat × Nat) (l : List Int) (sz : Int) (hs : l.length < 100000) : ∀ (m k : Nat), k ≤ l.length → l.length - k < m → DL79c76_1 n m l sz (l.length : Int) (k : Int) = some (fnd (fun p => decide (BadP sz p)) k (l.drop k))
  | 0, k, _, h => by omega
  | m + 1, k, hk, h => by
    rw [DL79c76_1_succ]
    unfold DF79c76_1
    by_cases hlt : k < l.length
    · have ih := idxf_loop n l sz hs m (k + 1) (by omega) (by omega)
      rw [dlt_t hlt, cond_true, idx_nat hlt, Option.bind_some, bad_eq, Option.bind_some, wr_succ (by omega), ih, drop_cons hlt]
      generalize l.drop (k + 1) = t at *
      generalize l[k] = x at *
      unfold fnd
      by_cases e : BadP sz x
      · simp [e]
      · simp only [e, decide_false, cond_false, Bool.false_eq_true, if_false]
        cases t <;> rfl
    · rw [dlt_f hlt, cond_false, List.drop_of_length_le (by omega)]
      rfl
theorem anyb_eq {n : Nat × Nat} (l : List Int) (sz : Int) (hs : l.length < n.1) (hs2 : l.length < 100000) : D75c76 n l sz = some (decide (∃ p ∈ l, BadP sz p)) := by
  unfold D75c76 D79c76
  have := idxf_loop n l sz hs2 n.1 0 (by omega) (by omega)
  rw [show ((0 : Nat) : Int) = 0 from rfl, List.drop_zero] at this
  rw [this, Option.bind_some]
  congr 1
  apply decide_eq_decide.2
  have := fnd_ge (fun p => decide (BadP sz p)) l 0
  simp only [decide_eq_true_eq] at this
  exact this
theorem Check_eq {n : Nat × Nat} (hn : 1000 ≤ n.1) (sz : Int) (ps : List Int) : D26 n sz ps = some (chk sz ps) := by
  unfold D26 chk
  by_cases h1 : sz < 1
  · rw [decide_eq_true h1, if_pos (.inl h1)]; rfl
  · rw [decide_eq_false h1]
    by_cases h2 : 24 < sz
    · rw [if_pos (.inr h2), decide_eq_true (show sz > 24 from h2)]; rfl
    · rw [if_neg (by omega), decide_eq_false (show ¬ sz > 24 from h2)]
      simp only [beq_self_eq_true, cond_true, Option.bind_some, cond_false]
      by_cases h3 : 8 < ps.length
      · rw [if_pos h3, decide_eq_true (show (ps.length : Int) > 8 by omega), cond_true]
      · rw [if_neg h3, decide_eq_false (show ¬ (ps.length : Int) > 8 by omega), cond_false, anyb_eq ps sz (by omega) (by omega), Option.bind_some]
        by_cases h4 : ∃ p ∈ ps, BadP sz p
        · rw [if_pos h4, decide_eq_true h4, cond_true]
        · rw [if_neg h4, decide_eq_false h4, cond_false]
/-- How many sheets a plan has. -/
def mny (l : List Int) : Int := l.foldl (fun a s => max a (s + 1)) 0
/-- How much of a sheet is used. -/
def usd : List Int → List Int → Int → Int
  | p :: ps, x :: l, s => (if x = s then p else 0) + usd ps l s
  | _, _, _ => 0
theorem fold_mny : ∀ (l : List Int) (a : Int), a ≤ l.foldl (fun a s => max a (s + 1)) a ∧ (∀ x ∈ l, x < l.foldl (fun a s => max a (s + 1)) a)
  | [], a => by simp
  | x :: l, a => by
    rw [List.foldl_cons]
    obtain ⟨h1, h2⟩ := fold_mny l (max a (x + 1))
    refine ⟨by omega, fun y hy => ?_⟩
    rcases List.mem_cons.1 hy with rfl | hy
    · omega
    · exact h2 y hy
theorem mny_nn (l : List Int) : 0 ≤ mny l := (fold_mny l 0).1
theorem mny_lt {l : List Int} {x : Int} (h : x ∈ l) : x < mny l := (fold_mny l 0).2 x h
theorem mny_snoc (l : List Int) (x : Int) : mny (l ++ [x]) = max (mny l) (x + 1) := by simp [mny, List.foldl_append]
theorem mny_nil : mny [] = 0 := rfl
theorem usd_snoc (s x p : Int) : ∀ {ps l : List Int}, ps.length = l.length → usd (ps ++ [p]) (l ++ [x]) s = usd ps l s + if x = s then p else 0
  | [], [], _ => by simp [usd]
  | q :: ps, y :: l, h => by
    simp only [List.cons_append, usd]
    rw [usd_snoc s x p (by simpa using h)]
    omega
  | [], _ :: _, h => by simp at h
  | _ :: _, [], h => by simp at h
theorem usd_none {s : Int} : ∀ {ps l : List Int}, s ∉ l → usd ps l s = 0
  | [], [], _ => rfl
  | [], _ :: _, _ => rfl
  | _ :: _, [], _ => rfl
  | q :: ps, y :: l, h => by
    simp only [List.mem_cons, not_or] at h
    simp only [usd, if_neg (fun e => h.1 (Eq.symm e)), usd_none h.2]
    omega
theorem usd_nn {s : Int} : ∀ {ps l : List Int}, (∀ p ∈ ps, 0 ≤ p) → 0 ≤ usd ps l s
  | [], _, _ => by simp [usd]
  | _ :: _, [], _ => by simp [usd]
  | q :: ps, y :: l, h => by
    have h1 := h q (by simp)
    have h2 := usd_nn (s := s) (ps := ps) (l := l) (fun p hp => h p (by simp [hp]))
    simp only [usd]
    split <;> omega
/-- The error of sheets' order. -/
def oer : Int → List Int → Int
  | _, [] => 0
  | m, x :: l => if x < 0 then 2 else if m < x then 7 else oer (max m (x + 1)) l
/-- What is left of each sheet. -/
def lf (sz : Int) (ps l : List Int) : List Int := (List.range (mny l).toNat).map fun s : Nat => sz - usd ps l (s : Int)
theorem lf_len (sz : Int) (ps l : List Int) : ((lf sz ps l).length : Int) = mny l := by
  have := mny_nn l
  simp [lf]
  omega
theorem lf_get {sz : Int} {ps l : List Int} {s : Nat} (h : s < (lf sz ps l).length) : (lf sz ps l)[s] = sz - usd ps l (s : Int) := by simp [lf]
theorem lf_step (sz p x : Int) {ps l : List Int} (hl : ps.length = l.length) (h0 : 0 ≤ x) (h1 : x ≤ mny l) :
    lf sz (ps ++ [p]) (l ++ [x]) = (if x = mny l then lf sz ps l ++ [sz] else lf sz ps l).set x.toNat (sz - usd ps l x - p) := by
  have hm := mny_nn l
  have hll := lf_len sz ps l
  apply List.ext_getElem
  · have := lf_len sz (ps ++ [p]) (l ++ [x])
    rw [mny_snoc] at this
    rw [List.length_set]
    split
    · simp only [List.length_append, List.length_cons, List.length_nil]; omega
    · omega
  · intro s h2 h3
    rw [lf_get h2, usd_snoc _ _ _ hl, List.getElem_set]
    by_cases e : x.toNat = s
    · rw [if_pos e, if_pos (show x = (s : Int) by omega), show (s : Int) = x by omega]
      omega
    · rw [if_neg e, if_neg (show ¬ x = (s : Int) by omega)]
      rw [List.length_set] at h3
      split at h3
      · rename_i hx
        simp only [List.length_append, List.length_cons, List.length_nil] at h3
        have h4 : s < (lf sz ps l).length := by omega
        simp only [if_pos hx]
        rw [List.getElem_append_left h4, lf_get h4]
        omega
      · rename_i hx
        simp only [if_neg hx]
        rw [lf_get h3]
        omega
theorem bounds_hi {k n : Nat} (h : k ≤ n) : bounds none (some (k : Int)) none n = true := by
  unfold bounds
  simp
  omega
/-- A plan that is one. -/
structure Pln (sz : Int) (ps l : List Int) : Prop where
  job : Job sz ps
  len : l.length = ps.length
  ord : oer 0 l = 0
  fit : ∀ x ∈ l, usd ps l x ≤ sz
theorem oer_bnd : ∀ (l : List Int) (m : Int), 0 ≤ m → oer m l = 0 → (∀ x ∈ l, 0 ≤ x ∧ x < m + l.length) ∧ l.foldl (fun a s => max a (s + 1)) m ≤ m + l.length
  | [], m, _, _ => by simp
  | x :: l, m, hm, h => by
    unfold oer at h
    split at h
    · omega
    · split at h
      · omega
      · obtain ⟨h1, h2⟩ := oer_bnd l _ (by omega) h
        rw [List.foldl_cons, List.length_cons]
        refine ⟨fun y hy => ?_, by omega⟩
        rcases List.mem_cons.1 hy with rfl | hy
        · omega
        · have := h1 y hy
          omega
theorem Pln.rng {sz : Int} {ps l : List Int} (h : Pln sz ps l) : ∀ x ∈ l, 0 ≤ x ∧ x ≤ 100000 := fun x hx => by
  have := (oer_bnd l 0 (by omega) h.ord).1 x hx
  have := h.job.len
  have := h.len
  omega
theorem Pln.mny {sz : Int} {ps l : List Int} (h : Pln sz ps l) : mny l ≤ 8 := by
  have h1 := (oer_bnd l 0 (by omega) h.ord).2
  have := h.job.len
  have := h.len
  unfold Proofs.YtgmonagekfjnmaaDoor.mny
  omega
/-- The groups' numbers, put where their pieces are: an error, or none, and what there is. -/
def pin (g : Int) : List Int → List Int → Int × List Int
  | [], out => (0, out)
  | x :: r, out => if x < 0 ∨ (out.length : Int) ≤ x then (2, out) else if 0 ≤ out.getD x.toNat 0 then (6, out) else pin g r (out.set x.toNat g)
theorem rep_eq : ∀ k ≤ 8, D69 N [-1] ((k : Nat) : Int) = some (List.replicate k (-1))
  | 0, _ => by kernel_rfl
  | 1, _ => by kernel_rfl
  | 2, _ => by kernel_rfl
  | 3, _ => by kernel_rfl
  | 4, _ => by kernel_rfl
  | 5, _ => by kernel_rfl
  | 6, _ => by kernel_rfl
  | 7, _ => by kernel_rfl
  | 8, _ => by kernel_rfl
  | k + 9, h => by omega
end Go.Proofs.YtgmonagekfjnmaaDoor
/-
  Sheets: the search, for any function that is handed plans.
-/
set_option linter.unusedVariables false
set_option linter.unusedSimpArgs false
namespace Go.Proofs.YtgmonagekfjnmaaDoor
open Go.Vi
/-! All plans with at most so many sheets that begin with some numbers, in ascending order. -/
def rm (sz : Int) (L : List Int) (s : Nat) : Int := L.getD s sz
def up (sz : Int) (L : List Int) (s : Nat) (p : Int) : List Int := (if s = L.length then L ++ [sz] else L).set s (rm sz L s - p)
def pl (sz : Int) (mo : Nat) : List Int → List Int → List Int → List (List Int)
  | [], b, _ => [b]
  | p :: r, b, L => (List.range' 0 (min (L.length + 1) mo)).flatMap fun s => if p ≤ rm sz L s then pl sz mo r (b ++ [(s : Int)]) (up sz L s p) else []
/-- A function handed all plans, as long as it returns true. -/
def fv {V : Type} (c : List Int → V → Bool × V) : List (List Int) → V → Bool × V
  | [], v => (true, v)
  | q :: r, v => if (c q v).1 then fv c r (c q v).2 else (false, (c q v).2)
theorem fv_app {V : Type} (c : List Int → V → Bool × V) (b : List (List Int)) : ∀ (a : List (List Int)) (v : V), fv c (a ++ b) v = if (fv c a v).1 then fv c b (fv c a v).2 else (false, (fv c a v).2)
  | [], v => by simp [fv]
  | q :: r, v => by
    have e1 : ∀ l, fv c (q :: l) v = if (c q v).1 then fv c l (c q v).2 else (false, (c q v).2) := fun _ => rfl
    rw [List.cons_append, e1, e1]
    by_cases h : (c q v).1 = true
    · rw [if_pos h, if_pos h, fv_app c b r]
    · rw [if_neg h, if_neg h]; rfl
/-! The search's three places. -/
section
variable {V : Type}
abbrev SR (V : Type) := Unit × V × Unit
abbrev FN (V : Type) := Int → List Int → Int → Int → V → List Int → List Int → Option (SR V)
def lpF (b x f2 : FN V) : FN V := fun size0 pieces1 most2 i10 v plan8 left9 =>
    (bif inB i10 plan8.length then (idx plan8 i10).bind fun x21' =>
      (bif inB i10 plan8.length then (idx plan8 i10).bind fun x22' =>
        (bif inB i10 (plan8.set (Int.toNat i10) (wr .i64 (x21' + 1))).length then (idx (plan8.set (Int.toNat i10) (wr .i64 (x21' + 1))) i10).bind fun x23' =>
          ((bif (decide (x23' ≥ most2) == false) then ((bif (decide (x23' > 0) == true) then (bif inB (wr .i64 (x23' - 1)) left9.length then (idx left9 (wr .i64 (x23' - 1))).bind fun x24' =>
                    some (x24' == size0)
                  else none)
                else some false)).bind fun b25' =>
              some b25'
            else some true)).bind fun b26' =>
          (bif b26' then (bif inB i10 (plan8.set (Int.toNat i10) (wr .i64 (x21' + 1))).length then (idx (plan8.set (Int.toNat i10) (wr .i64 (x21' + 1))) i10).bind fun x27' =>
              b size0 pieces1 most2 i10 v ((plan8.set (Int.toNat i10) (wr .i64 (x21' + 1))).set (Int.toNat i10) (-1)) left9
            else none)
          else (bif inB x23' left9.length then (idx left9 x23').bind fun x28' =>
              (idx pieces1 i10).bind fun x29' =>
              (bif decide (x28' ≥ x29') then (bif inB x23' left9.length then (idx left9 x23').bind fun x30' =>
                  (idx pieces1 i10).bind fun x31' =>
                  (bif inB x23' left9.length then (idx left9 x23').bind fun x32' =>
                    x size0 pieces1 most2 (wr .i64 (i10 + 1)) v (plan8.set (Int.toNat i10) (wr .i64 (x21' + 1))) (left9.set (Int.toNat x23') (wr .i64 (x30' - x31')))
                  else none)
                else none)
              else f2 size0 pieces1 most2 i10 v (plan8.set (Int.toNat i10) (wr .i64 (x21' + 1))) left9)
            else none))
        else none)
      else none)
    else none)
def LP (b x : FN V) : Nat → FN V
  | 0 => fun _ _ _ _ _ _ _ => none
  | q + 1 => lpF b x (LP b x q)
def bkF (x : FN V) : FN V := fun size0 pieces1 most2 i10 v plan8 left9 =>
    (bif decide (wr .i64 (i10 - 1) < 0) then some ((), v, ())
    else (bif inB (wr .i64 (i10 - 1)) plan8.length then (idx plan8 (wr .i64 (i10 - 1))).bind fun x4' =>
        (bif inB x4' left9.length then (idx left9 x4').bind fun x5' =>
          (idx pieces1 (wr .i64 (i10 - 1))).bind fun x6' =>
          (bif inB x4' left9.length then (idx left9 x4').bind fun x7' =>
            x size0 pieces1 most2 (wr .i64 (i10 - 1)) v plan8 (left9.set (Int.toNat x4') (wr .i64 (x5' + x6')))
          else none)
        else none)
      else none))
def nxF (C : List Int → V → Option (Bool × List Int × V × Unit)) (q0 : Nat) (b x : FN V) : FN V := fun size0 pieces1 most2 i10 v plan8 left9 =>
    (bif (i10 == (pieces1.length : Int)) then (C plan8 v).bind fun r20' =>
      (bif Nat.beq r20'.2.1.length plan8.length then (bif (!r20'.1) then some ((), r20'.2.2.1, ())
        else b size0 pieces1 most2 i10 r20'.2.2.1 r20'.2.1 left9)
      else none)
    else LP b x q0 size0 pieces1 most2 i10 v plan8 left9)
def GB (C : List Int → V → Option (Bool × List Int × V × Unit)) (q0 : Nat) : Nat → FN V × FN V
  | 0 => ((fun _ _ _ _ _ _ _ => none), (fun _ _ _ _ _ _ _ => none))
  | m + 1 => (bkF (GB C q0 m).2, nxF C q0 (GB C q0 m).1 (GB C q0 m).2)
def srch (C : List Int → V → Option (Bool × List Int × V × Unit)) (q0 : Nat) (size0 : Int) (pieces1 : List Int) (most2 : Int) (cp : V) (r1' r2' : List Int) : Option (SR V) :=
    (bif (0 == (pieces1.length : Int)) then (C r1' cp).bind fun r3' =>
      (bif Nat.beq r3'.2.1.length r1'.length then (bif (!r3'.1) then some ((), r3'.2.2.1, ())
        else (GB C q0 q0).1 size0 pieces1 most2 0 r3'.2.2.1 r3'.2.1 r2')
      else none)
    else LP (GB C q0 q0).1 (GB C q0 q0).2 q0 size0 pieces1 most2 0 cp r1' r2')
theorem idx_app {α : Type} (b : List α) (t : α) (R : List α) : idx (b ++ t :: R) (b.length : Int) = some t := by
  rw [idx_nat (by simp)]
  simp
theorem set_app {α : Type} (b : List α) (t y : α) (R : List α) : (b ++ t :: R).set (Int.toNat (b.length : Int)) y = b ++ y :: R := by
  rw [Int.toNat_natCast]
  simp [List.set_append]
def fil (sz : Int) (mo : Nat) (L : List Int) : List Int := L ++ List.replicate (mo - L.length) sz
theorem fil_len {sz : Int} {mo : Nat} {L : List Int} (h : L.length ≤ mo) : (fil sz mo L).length = mo := by simp [fil]; omega
theorem fil_get {sz : Int} {mo : Nat} {L : List Int} {s : Nat} (hs : s < (fil sz mo L).length) : (fil sz mo L)[s] = rm sz L s := by
  unfold fil rm at *
  by_cases h : s < L.length
  · rw [List.getElem_append_left h, List.getD_eq_getElem?_getD, List.getElem?_eq_getElem h, Option.getD_some]
  · rw [List.getElem_append_right (by omega), List.getElem_replicate, List.getD_eq_getElem?_getD, List.getElem?_eq_none (by omega), Option.getD_none]
theorem fil_up {sz : Int} {mo : Nat} {L : List Int} {s : Nat} (p : Int) (h1 : s ≤ L.length) (h2 : s < mo) : (fil sz mo L).set s (rm sz L s - p) = fil sz mo (up sz L s p) := by
  unfold up
  generalize rm sz L s - p = y
  unfold fil
  by_cases h : s = L.length
  · rw [if_pos h]
    subst h
    obtain ⟨k, hk⟩ : ∃ k, mo - L.length = k + 1 := ⟨mo - L.length - 1, by omega⟩
    rw [hk, List.replicate_succ, List.set_append, if_neg (by omega), Nat.sub_self, List.set_cons_zero, List.set_append, if_neg (by omega), Nat.sub_self, List.set_cons_zero]
    simp only [List.length_append, List.length_cons, List.length_nil, List.append_assoc, List.singleton_append]
    rw [show mo - (L.length + (0 + 1)) = k by omega]
  · rw [if_neg h, List.set_append, if_pos (by omega), List.length_set]
theorem fil_back {sz : Int} {mo : Nat} {L : List Int} {s : Nat} (p : Int) (h1 : s ≤ L.length) (h2 : s < mo) (h3 : L.length ≤ mo) : (fil sz mo (up sz L s p)).set s (rm sz L s) = fil sz mo L := by
  rw [← fil_up p h1 h2, List.set_set]
  have hs : s < (fil sz mo L).length := by rw [fil_len h3]; exact h2
  rw [← fil_get hs]
  simp
theorem up_len {sz : Int} {L : List Int} {s : Nat} (p : Int) (h1 : s ≤ L.length) : (up sz L s p).length = max L.length (s + 1) := by
  unfold up
  rw [List.length_set]
  split
  · simp; omega
  · omega
theorem rm_get {sz : Int} {L : List Int} {s : Nat} (hs : s < L.length) : rm sz L s = L[s] := by unfold rm; rw [List.getD_eq_getElem?_getD, List.getElem?_eq_getElem hs, Option.getD_some]
theorem up_get {sz : Int} {L : List Int} {s i : Nat} (p : Int) (hi : i < (up sz L s p).length) : (up sz L s p)[i] = if s = i then rm sz L s - p else rm sz L i := by
  unfold up at hi ⊢
  rw [List.getElem_set]
  split
  · rfl
  · rename_i hne
    rw [List.length_set] at hi
    split
    · rename_i he
      simp only [if_pos he, List.length_append, List.length_cons, List.length_nil] at hi
      rw [List.getElem_append_left (by omega)]
      exact (rm_get _).symm
    · rename_i he
      simp only [if_neg he] at hi
      exact (rm_get _).symm
theorem rm_up {sz : Int} {L : List Int} {s : Nat} (p : Int) (h1 : s ≤ L.length) : rm sz (up sz L s p) s = rm sz L s - p := by
  have h := up_len (sz := sz) p h1
  have hs : s < (up sz L s p).length := by omega
  rw [rm_get hs, up_get p hs, if_pos rfl]
theorem up_mem {sz : Int} {L : List Int} {s : Nat} {p : Int} (h1 : s ≤ L.length) : ∀ x ∈ up sz L s p, x = rm sz L s - p ∨ x ∈ L := fun x hx => by
  obtain ⟨i, hi, e⟩ := List.getElem_of_mem hx
  have hl := up_len (sz := sz) p h1
  rw [up_get p hi] at e
  split at e
  · exact .inl e.symm
  · rename_i hne
    right
    rw [rm_get (by omega)] at e
    rw [← e]
    exact List.getElem_mem _
theorem rm_rng {sz : Int} {L : List Int} (hL : ∀ x ∈ L, 0 ≤ x ∧ x < sz) (h : 0 ≤ sz) (s : Nat) : 0 ≤ rm sz L s ∧ rm sz L s ≤ sz := by
  unfold rm
  by_cases hs : s < L.length
  · rw [List.getD_eq_getElem?_getD, List.getElem?_eq_getElem hs, Option.getD_some]
    have := hL _ (List.getElem_mem hs)
    omega
  · rw [List.getD_eq_getElem?_getD, List.getElem?_eq_none (by omega), Option.getD_none]
    omega
theorem up_rng {sz : Int} {L : List Int} {s : Nat} {p : Int} (hL : ∀ x ∈ L, 0 ≤ x ∧ x < sz) (h : 0 ≤ sz) (h1 : s ≤ L.length) (hp : 1 ≤ p) (hf : p ≤ rm sz L s) : ∀ x ∈ up sz L s p, 0 ≤ x ∧ x < sz := fun x hx => by
  have := rm_rng hL h s
  rcases up_mem h1 x hx with e | e
  · omega
  · exact hL x e
/-! The loop over the sheets for one piece. -/
structure SI (sz : Int) (mo : Nat) (ps : List Int) (b L : List Int) : Prop where
  job : Job sz ps
  le : b.length ≤ ps.length
  lm : L.length ≤ mo
  lb : L.length ≤ b.length
  rng : ∀ x ∈ L, 0 ≤ x ∧ x < sz
  mo : mo ≤ 1000
theorem SI.child {sz : Int} {mo : Nat} {ps b L : List Int} (h : SI sz mo ps b L) (hb : b.length < ps.length) {s : Nat} (h1 : s ≤ L.length) (h2 : s < mo) (hf : ps[b.length] ≤ rm sz L s) : SI sz mo ps (b ++ [(s : Int)]) (up sz L s ps[b.length]) := by
  have hl := up_len (sz := sz) ps[b.length] h1
  have := h.lm
  have := h.lb
  have := h.job.lo
  have hp := h.job.ok _ (List.getElem_mem hb)
  exact ⟨h.job, by simp; omega, by omega, by simp; omega, up_rng h.rng (by omega) h1 hp.1 hf, h.mo⟩
variable {b1 x1 f2 : FN V} {sz : Int} {mo : Nat} {ps b L : List Int}
theorem lp_end (h : SI sz mo ps b L) (hb : b.length < ps.length) (v : V) (R : List Int) :
    lpF b1 x1 f2 sz ps mo (b.length : Int) v (b ++ (((min (L.length + 1) mo : Nat) : Int) - 1) :: R) (fil sz mo L) = b1 sz ps mo (b.length : Int) v (b ++ (-1) :: R) (fil sz mo L) := by
  have := h.mo
  have := h.lm
  have h8 := h.job.len
  have hlb := h.lb
  have hfl := fil_len (sz := sz) h.lm
  generalize hM : min (L.length + 1) mo = M
  unfold lpF
  rw [inB_nat (by simp), cond_true, idx_app, Option.bind_some, cond_true, Option.bind_some, wr_ok (by omega) (by omega), show (M : Int) - 1 + 1 = M by omega, set_app, inB_nat (by simp), cond_true, idx_app, Option.bind_some, cond_true, Option.bind_some, set_app]
  by_cases e : mo ≤ M
  · rw [decide_eq_true (show (M : Int) ≥ mo by omega)]
    simp only [show (true == false) = false from rfl, cond_false, Option.bind_some, cond_true]
  · have hM1 : M = L.length + 1 := by omega
    rw [decide_eq_false (show ¬ (M : Int) ≥ mo by omega), decide_eq_true (show (M : Int) > 0 by omega), wr_ok (by omega) (by omega), show (M : Int) - 1 = (L.length : Int) by omega, inB_nat (by omega), idx_nat (by omega), fil_get (by omega)]
    have : rm sz L L.length = sz := by unfold rm; rw [List.getD_eq_getElem?_getD, List.getElem?_eq_none (by omega), Option.getD_none]
    rw [this]
    simp only [beq_self_eq_true, cond_true, Option.bind_some]
/-- One sheet, which is used or the next one: whether the piece has room. -/
theorem lp_one (h : SI sz mo ps b L) (hb : b.length < ps.length) (v : V) (R : List Int) {s : Nat} (h1 : s ≤ L.length) (h2 : s < mo) :
    lpF b1 x1 f2 sz ps mo (b.length : Int) v (b ++ ((s : Int) - 1) :: R) (fil sz mo L) =
      if ps[b.length] ≤ rm sz L s then x1 sz ps mo ((b.length + 1 : Nat) : Int) v (b ++ (s : Int) :: R) (fil sz mo (up sz L s ps[b.length])) else f2 sz ps mo (b.length : Int) v (b ++ (s : Int) :: R) (fil sz mo L) := by
  have := h.mo
  have := h.lm
  have h8 := h.job.len
  have hlb := h.lb
  have hlo := h.job.lo
  have hhi := h.job.hi
  have hfl := fil_len (sz := sz) h.lm
  have hp := h.job.ok _ (List.getElem_mem hb)
  have hr := rm_rng h.rng (by omega) s
  unfold lpF
  rw [inB_nat (by simp), cond_true, idx_app, Option.bind_some, cond_true, Option.bind_some, wr_ok (by omega) (by omega), show (s : Int) - 1 + 1 = s by omega, set_app, inB_nat (by simp), cond_true, idx_app, Option.bind_some, cond_true, Option.bind_some, set_app]
  rw [decide_eq_false (show ¬ (s : Int) ≥ mo by omega)]
  have hc : ((bif (decide ((s : Int) > 0) == true) then (bif inB (wr .i64 ((s : Int) - 1)) (fil sz mo L).length then (idx (fil sz mo L) (wr .i64 ((s : Int) - 1))).bind fun x24' => some (x24' == sz) else none) else some false)) = some false := by
    by_cases e : s = 0
    · subst e; rfl
    · rw [decide_eq_true (show (s : Int) > 0 by omega), wr_ok (by omega) (by omega), show (s : Int) - 1 = ((s - 1 : Nat) : Int) by omega, inB_nat (by omega), idx_nat (by omega), fil_get (by omega)]
      simp only [beq_self_eq_true, cond_true, Option.bind_some]
      have hs : s - 1 < L.length := by omega
      have e2 : rm sz L (s - 1) = L[s - 1] := by unfold rm; rw [List.getD_eq_getElem?_getD, List.getElem?_eq_getElem hs, Option.getD_some]
      have := h.rng _ (List.getElem_mem hs)
      rw [e2, beq_false_of_ne (by omega)]
  simp only [beq_self_eq_true, cond_true]
  rw [hc]
  simp only [Option.bind_some, cond_false]
  rw [inB_nat (by omega : s < (fil sz mo L).length), idx_nat (by omega : s < (fil sz mo L).length), fil_get (by omega), idx_nat hb]
  simp only [Option.bind_some, cond_true]
  by_cases e : ps[b.length] ≤ rm sz L s
  · rw [decide_eq_true (show rm sz L s ≥ ps[b.length] from e), if_pos e, cond_true, wr_ok (x := rm sz L s - ps[b.length]) (by omega) (by omega), Int.toNat_natCast, fil_up _ h1 h2, wr_succ (by omega)]
  · rw [decide_eq_false (show ¬ rm sz L s ≥ ps[b.length] from e), if_neg e, cond_false]
/-! All of it. -/
def fu : Nat → Nat → Nat
  | 0, _ => 1
  | r + 1, i => 1 + (i + 1) * (2 + fu r (i + 1))
/-- What a function does that is handed plans and hands them back. -/
def Pure (C : List Int → V → Option (Bool × List Int × V × Unit)) (c : List Int → V → Bool × V) : Prop := ∀ (q : List Int) (v : V), q.length ≤ 8 → C q v = some ((c q v).1, q, (c q v).2, ())
variable {C : List Int → V → Option (Bool × List Int × V × Unit)} {c : List Int → V → Bool × V} {q0 : Nat}
theorem srch_leaf (hC : Pure C c) (h : SI sz mo ps b L) (hb : b.length = ps.length) (v : V) (m : Nat) :
    (GB C q0 (m + 1)).2 sz ps mo (b.length : Int) v b (fil sz mo L) = if (fv c [b] v).1 then (GB C q0 m).1 sz ps mo (b.length : Int) (fv c [b] v).2 b (fil sz mo L) else some ((), (fv c [b] v).2, ()) := by
  show nxF C q0 _ _ sz ps mo (b.length : Int) v b (fil sz mo L) = _
  unfold nxF
  have := h.job.len
  rw [show ((b.length : Int) == (ps.length : Int)) = true by simp [hb], cond_true, hC b v (by omega), Option.bind_some, show Nat.beq b.length b.length = true by simp, cond_true]
  unfold fv
  by_cases e : (c b v).1 = true
  · simp only [e, Bool.not_true, cond_false, if_true, fv]
  · simp only [Bool.not_eq_true] at e
    simp only [e, Bool.not_false, cond_true, Bool.false_eq_true, if_false]
/-- Back from a piece's sheet. -/
theorem srch_back (h : SI sz mo ps b L) (hb : b.length < ps.length) (v : V) (R : List Int) {s : Nat} (h1 : s ≤ L.length) (h2 : s < mo) (hf : ps[b.length] ≤ rm sz L s) (m : Nat) :
    (GB C q0 (m + 1)).1 sz ps mo ((b.length + 1 : Nat) : Int) v (b ++ (s : Int) :: R) (fil sz mo (up sz L s ps[b.length])) = (GB C q0 m).2 sz ps mo (b.length : Int) v (b ++ (s : Int) :: R) (fil sz mo L) := by
  have h8 := h.job.len
  have hlo := h.job.lo
  have hhi := h.job.hi
  have hlm := h.lm
  have hp := h.job.ok _ (List.getElem_mem hb)
  have hr := rm_rng h.rng (by omega) s
  have hul := up_len (sz := sz) ps[b.length] h1
  have hfl := fil_len (sz := sz) (mo := mo) (L := up sz L s ps[b.length]) (by omega)
  show bkF _ sz ps mo _ v _ _ = _
  unfold bkF
  rw [wr_ok (by omega) (by omega), show ((b.length + 1 : Nat) : Int) - 1 = (b.length : Int) by omega, decide_eq_false (by omega), cond_false, inB_nat (by simp), cond_true, idx_app, Option.bind_some, inB_nat (by omega), cond_true, idx_nat (by omega : s < (fil sz mo (up sz L s ps[b.length])).length), Option.bind_some, idx_nat hb, Option.bind_some, cond_true, Option.bind_some, fil_get (by omega), rm_up _ h1, wr_ok (by omega) (by omega), Int.toNat_natCast, show rm sz L s - ps[b.length] + ps[b.length] = rm sz L s by omega, fil_back _ h1 h2 hlm]
theorem srch_node (hC : Pure C c) (hq : 1100 ≤ q0) : ∀ (r b L : List Int), SI sz mo ps b L → ps.drop b.length = r → ∀ v, ∃ K, K ≤ fu r.length b.length ∧ ∀ m,
    (GB C q0 (m + K)).2 sz ps mo (b.length : Int) v (b ++ List.replicate (ps.length - b.length) (-1)) (fil sz mo L) = if (fv c (pl sz mo r b L) v).1 then (GB C q0 m).1 sz ps mo (b.length : Int) (fv c (pl sz mo r b L) v).2 (b ++ List.replicate (ps.length - b.length) (-1)) (fil sz mo L) else some ((), (fv c (pl sz mo r b L) v).2, ()) := by
  intro r
  induction r with
  | nil =>
    intro b L h hr v
    have hle := h.le
    have hb : b.length = ps.length := by have := List.drop_eq_nil_iff.1 hr; omega
    refine ⟨1, Nat.le_refl _, fun m => ?_⟩
    rw [hb, Nat.sub_self, List.replicate_zero, List.append_nil, ← hb]
    exact srch_leaf hC h hb v m
  | cons p r ih =>
    intro b L h hr v
    have hb : b.length < ps.length := by
      rcases Nat.lt_or_ge b.length ps.length with h | h
      · exact h
      · rw [List.drop_eq_nil_of_le h] at hr; cases hr
    have hp : ps[b.length] = p ∧ ps.drop (b.length + 1) = r := by
      rw [drop_cons hb] at hr
      exact ⟨(List.cons.inj hr).1, (List.cons.inj hr).2⟩
    obtain ⟨hp1, hp2⟩ := hp
    have hmo := h.mo
    have hlm := h.lm
    have hlb := h.lb
    have h8 := h.job.len
    -- the loop from some sheet on
    have loop : ∀ (d s : Nat), s + d = min (L.length + 1) mo → ∀ (v : V) (q : Nat), d < q → ∃ K, K ≤ d * (2 + fu r.length (b.length + 1)) ∧ ∀ m,
        LP (GB C q0 (m + K)).1 (GB C q0 (m + K)).2 q sz ps mo (b.length : Int) v (b ++ ((s : Int) - 1) :: List.replicate (ps.length - (b.length + 1)) (-1)) (fil sz mo L) =
          if (fv c ((List.range' s d).flatMap fun s => if p ≤ rm sz L s then pl sz mo r (b ++ [(s : Int)]) (up sz L s p) else []) v).1 then (GB C q0 m).1 sz ps mo (b.length : Int) (fv c ((List.range' s d).flatMap fun s => if p ≤ rm sz L s then pl sz mo r (b ++ [(s : Int)]) (up sz L s p) else []) v).2 (b ++ (-1) :: List.replicate (ps.length - (b.length + 1)) (-1)) (fil sz mo L)
          else some ((), (fv c ((List.range' s d).flatMap fun s => if p ≤ rm sz L s then pl sz mo r (b ++ [(s : Int)]) (up sz L s p) else []) v).2, ()) := by
      intro d
      induction d with
      | zero =>
        intro s hs v q hq1
        obtain ⟨q, rfl⟩ : ∃ k, q = k + 1 := ⟨q - 1, by omega⟩
        refine ⟨0, Nat.zero_le _, fun m => ?_⟩
        have := lp_end (b1 := (GB C q0 m).1) (x1 := (GB C q0 m).2) (f2 := LP (GB C q0 m).1 (GB C q0 m).2 q) h hb v (List.replicate (ps.length - (b.length + 1)) (-1))
        rw [← hs, Nat.add_zero] at this
        exact this
      | succ d ihd =>
        intro s hs v q hq1
        obtain ⟨q, rfl⟩ : ∃ k, q = k + 1 := ⟨q - 1, by omega⟩
        have h1 : s ≤ L.length := by omega
        have h2 : s < mo := by omega
        rw [List.range'_succ, List.flatMap_cons]
        have one := fun m => lp_one (b1 := (GB C q0 m).1) (x1 := (GB C q0 m).2) (f2 := LP (GB C q0 m).1 (GB C q0 m).2 q) h hb v (List.replicate (ps.length - (b.length + 1)) (-1)) h1 h2
        rw [hp1] at one
        by_cases hf : p ≤ rm sz L s
        · have hch := h.child hb h1 h2 (by rw [hp1]; exact hf)
          rw [hp1] at hch
          obtain ⟨Kc, hKc, hc⟩ := ih (b ++ [(s : Int)]) (up sz L s p) hch (by simp only [List.length_append, List.length_cons, List.length_nil]; exact hp2) v
          simp only [List.length_append, List.length_cons, List.length_nil, Nat.zero_add, List.append_assoc, List.singleton_append] at hc hKc
          rw [if_pos hf]
          simp only [if_pos hf] at one
          generalize hQ : pl sz mo r (b ++ [(s : Int)]) (up sz L s p) = Q at *
          by_cases hgo : (fv c Q v).1 = true
          · obtain ⟨K2, hK2, hl⟩ := ihd (s + 1) (by omega) (fv c Q v).2 q0 (by omega)
            refine ⟨K2 + 2 + Kc, ?_, fun m => ?_⟩
            · rw [Nat.add_mul, Nat.one_mul]; omega
            · refine (one _).trans ?_
              have := hc (m + (K2 + 2))
              rw [show m + (K2 + 2) + Kc = m + (K2 + 2 + Kc) by omega] at this
              rw [this, if_pos hgo, show m + (K2 + 2) = (m + K2 + 1) + 1 by omega]
              have hbk := srch_back (C := C) (q0 := q0) h hb (fv c Q v).2 (List.replicate (ps.length - (b.length + 1)) (-1)) h1 h2 (by rw [hp1]; exact hf) (m + K2 + 1)
              rw [hp1] at hbk
              rw [hbk]
              have hx : (GB C q0 (m + K2 + 1)).2 = nxF C q0 (GB C q0 (m + K2)).1 (GB C q0 (m + K2)).2 := rfl
              rw [hx]
              unfold nxF
              rw [beq_false_of_ne (show (b.length : Int) ≠ (ps.length : Int) by omega), cond_false]
              have := hl m
              rw [show ((s + 1 : Nat) : Int) - 1 = (s : Int) by omega] at this
              rw [this]
              simp only [fv_app]
              simp only [if_pos hgo]
          · refine ⟨Kc, ?_, fun m => ?_⟩
            · rw [Nat.add_mul, Nat.one_mul]; omega
            · refine (one _).trans ?_
              rw [hc m, if_neg hgo]
              simp only [fv_app]
              simp only [if_neg hgo]
              simp
        · rw [if_neg hf, List.nil_append]
          obtain ⟨K, hK, hl⟩ := ihd (s + 1) (by omega) v q (by omega)
          refine ⟨K, ?_, fun m => ?_⟩
          · rw [Nat.add_mul, Nat.one_mul]; omega
          · have := one (m + K)
            rw [if_neg hf] at this
            refine this.trans ?_
            rw [← hl m, show ((s + 1 : Nat) : Int) - 1 = (s : Int) by omega]
    obtain ⟨K, hK, hl⟩ := loop (min (L.length + 1) mo) 0 (by omega) v q0 (by omega)
    refine ⟨K + 1, ?_, fun m => ?_⟩
    · have : min (L.length + 1) mo * (2 + fu r.length (b.length + 1)) ≤ (b.length + 1) * (2 + fu r.length (b.length + 1)) := Nat.mul_le_mul_right _ (by omega)
      simp only [List.length_cons, fu]
      omega
    · have hx : (GB C q0 (m + (K + 1))).2 = nxF C q0 (GB C q0 (m + K)).1 (GB C q0 (m + K)).2 := rfl
      have hrep : List.replicate (ps.length - b.length) (-1 : Int) = (-1) :: List.replicate (ps.length - (b.length + 1)) (-1) := by
        rw [← List.replicate_succ]; congr 1; omega
      rw [hx, hrep]
      unfold nxF
      rw [beq_false_of_ne (show (b.length : Int) ≠ (ps.length : Int) by omega), cond_false]
      have := hl m
      rw [show ((0 : Nat) : Int) - 1 = -1 by omega] at this
      rw [this]
      rfl
/-- The search hands over all plans with at most so many sheets, in ascending order. -/
theorem srch_eq (hC : Pure C c) (hq : 1000000 ≤ q0) (hj : Job sz ps) (hm : mo ≤ 1000) (v : V) : srch C q0 sz ps mo v (List.replicate ps.length (-1)) (List.replicate mo sz) = some ((), (fv c (pl sz mo ps [] []) v).2, ()) := by
  have hsi : SI sz mo ps [] [] := ⟨hj, by simp, by simp, by simp, by simp, hm⟩
  have h8 := hj.len
  have back0 : ∀ (m : Nat) (v : V) (a l : List Int), (GB C q0 (m + 1)).1 sz ps mo 0 v a l = some ((), v, ()) := fun m v a l => rfl
  have hfu : fu ps.length 0 ≤ 900000 := by
    have : ∀ k ≤ 8, fu k 0 ≤ 900000 := by decide
    exact this _ h8
  obtain ⟨K, hK, h⟩ := srch_node (q0 := q0) hC (by omega) ps [] [] hsi rfl v
  rw [List.length_nil] at hK
  have key : ∀ m, K ≤ m → (GB C q0 (m + 1)).2 sz ps mo 0 v (List.replicate ps.length (-1)) (List.replicate mo sz) = some ((), (fv c (pl sz mo ps [] []) v).2, ()) := fun m hm => by
    have := h (m + 1 - K)
    rw [show m + 1 - K + K = m + 1 by omega] at this
    have e : fil sz mo [] = List.replicate mo sz := by simp [fil]
    rw [e] at this
    refine Eq.trans this ?_
    split
    · rw [show m + 1 - K = (m - K) + 1 by omega]
      rfl
    · rfl
  have hx : ∀ m, (GB C q0 (m + 1)).2 = nxF C q0 (GB C q0 m).1 (GB C q0 m).2 := fun _ => rfl
  have k2 := key q0 (by omega)
  rw [hx] at k2
  unfold nxF at k2
  unfold srch
  exact k2
end
end Go.Proofs.YtgmonagekfjnmaaDoor
set_option linter.unusedVariables false
set_option linter.unusedSimpArgs false
set_option maxRecDepth 100000
namespace Go.Proofs.YtgmonagekfjnmaaDoor
open Go.Vi
noncomputable def c5 : Code := bodyOf Tryd.f5
/-D 99 -/
/-D 83 -/
/-D 35 -/
/-D 37 -/
/-D 39 -/
/-D 5 -/
end Go.Proofs.YtgmonagekfjnmaaDoor
set_option linter.unusedVariables false
set_option linter.unusedSimpArgs false
namespace Go.Proofs.YtgmonagekfjnmaaDoor
open Go.Vi
theorem rep2_eq (x : Int) : ∀ k ≤ 8, D69 N [x] ((k : Nat) : Int) = some (List.replicate k x)
  | 0, _ => by kernel_rfl
  | 1, _ => by kernel_rfl
  | 2, _ => by kernel_rfl
  | 3, _ => by kernel_rfl
  | 4, _ => by kernel_rfl
  | 5, _ => by kernel_rfl
  | 6, _ => by kernel_rfl
  | 7, _ => by kernel_rfl
  | 8, _ => by kernel_rfl
  | k + 9, h => by omega
theorem L84c98io0001_LP (n : Nat × Nat) (f1 : FN (Bool) × FN (Bool)) : ∀ q, DL84c98io0001_4 n f1 q = LP f1.1 f1.2 q
  | 0 => rfl
  | q + 1 => by
    rw [DL84c98io0001_4_succ, L84c98io0001_LP n f1 q]
    rfl
theorem G84c98io0001_GB (n : Nat × Nat) : ∀ m, DG84c98io0001_1 n m = GB (D98io11 n) n.1 m
  | 0 => rfl
  | m + 1 => by
    rw [DG84c98io0001_1_succ, G84c98io0001_GB n m]
    refine Prod.ext rfl ?_
    funext a b d e v p l
    show DF84c98io0001_3 n _ a b d e v p l = nxF (D98io11 n) n.1 _ _ a b d e v p l
    unfold DF84c98io0001_3 nxF
    rw [L84c98io0001_LP]
theorem M84c98io0001_LP (n : Nat × Nat) : ∀ q, DL84c98io0001_2 n q = LP (GB (D98io11 n) n.1 n.1).1 (GB (D98io11 n) n.1 n.1).2 q
  | 0 => rfl
  | q + 1 => by
    rw [DL84c98io0001_2_succ, M84c98io0001_LP n q, ← G84c98io0001_GB]
    rfl
theorem D84c98io0001_srch (n : Nat × Nat) (sz : Int) (ps : List Int) (most : Int) (v : Bool) : D84c98io0001 n sz ps most v = (D69 n [-1] (ps.length : Int)).bind fun r1 => (D69 n [sz] most).bind fun r2 => srch (D98io11 n) n.1 sz ps most v r1 r2 := by
  unfold D84c98io0001 srch
  rw [M84c98io0001_LP, ← G84c98io0001_GB]
  rfl
theorem D84c98io0001_eq {c : List Int → Bool → Bool × Bool} (hC : Pure (D98io11 N) c) {sz : Int} {ps : List Int} (hj : Job sz ps) {mo : Nat} (hm : mo ≤ 8) (v : Bool) : D84c98io0001 N sz ps mo v = some ((), (fv c (pl sz mo ps [] []) v).2, ()) := by
  rw [D84c98io0001_srch, rep_eq _ hj.len, Option.bind_some, rep2_eq _ _ hm, Option.bind_some]
  exact srch_eq hC (Nat.le_refl _) hj (by omega) v
theorem clone_eq (n : Nat × Nat) (l : List Int) (h : l.length ≤ 1000) : D56 n l = some l := by
  unfold D56 HF56
  rw [decide_eq_true (show l.length ≤ lim by simp [lim]; omega), cond_true]
theorem pure98 : Pure (D98io11 N) (fun _ _ => (false, true)) := fun q v h => rfl
theorem fv98 : ∀ (l : List (List Int)), (fv (fun _ (_ : Bool) => (false, true)) l false).2 = !l.isEmpty
  | [] => rfl
  | _ :: _ => rfl
/-! How many plans there are at most. -/
/-- What begins a plan. -/
structure Rs (sz : Int) (ps b L : List Int) : Prop where
  job : Job sz ps
  le : b.length ≤ ps.length
  nn : ∀ x ∈ b, 0 ≤ x
  my : mny b ≤ b.length
  left : L = lf sz (ps.take b.length) b
theorem Rs.len {sz : Int} {ps b L : List Int} (h : Rs sz ps b L) : (L.length : Int) = mny b := by rw [h.left]; exact lf_len _ _ _
theorem Rs.rm {sz : Int} {ps b L : List Int} (h : Rs sz ps b L) {s : Nat} (hs : s ≤ L.length) : rm sz L s = sz - usd (ps.take b.length) b s := by
  have hl := h.len
  by_cases e : s < L.length
  · rw [rm_get e]
    have := h.left
    subst this
    exact lf_get e
  · unfold Proofs.YtgmonagekfjnmaaDoor.rm
    rw [List.getD_eq_getElem?_getD, List.getElem?_eq_none (by omega), Option.getD_none, usd_none (fun hm => by have := mny_lt hm; omega)]
    omega
theorem Rs.child {sz : Int} {ps b L : List Int} (h : Rs sz ps b L) (hb : b.length < ps.length) {s : Nat} (hs : s ≤ L.length) : Rs sz ps (b ++ [(s : Int)]) (up sz L s ps[b.length]) := by
  have hl := h.len
  have hmy := h.my
  refine ⟨h.job, by simp; omega, fun x hx => ?_, ?_, ?_⟩
  · rcases List.mem_append.1 hx with hx | hx
    · exact h.nn x hx
    · rw [List.mem_singleton.1 hx]; omega
  · rw [mny_snoc, List.length_append]
    simp only [List.length_cons, List.length_nil]
    omega
  · have := lf_step sz ps[b.length] (s : Int) (ps := ps.take b.length) (l := b) (by simp; omega) (by omega) (by omega)
    rw [← take_snoc hb, ← h.left, ← h.rm hs] at this
    rw [List.length_append, List.length_singleton, this]
    unfold up
    rw [Int.toNat_natCast]
    by_cases e : s = L.length
    · rw [if_pos e, if_pos (by omega)]
    · rw [if_neg e, if_neg (by omega)]
theorem Rs.nil {sz : Int} {ps : List Int} (h : Job sz ps) : Rs sz ps [] [] := ⟨h, by simp, by simp, by simp [mny], rfl⟩
/-! The reference's plans. -/
/-! Plans by their number of sheets. -/
theorem mny_app (a : List Int) : ∀ b : List Int, mny a ≤ mny (a ++ b) := fun b => by
  unfold mny
  rw [List.foldl_append]
  exact (fold_mny b _).1
theorem pl_pre {sz : Int} {mo : Nat} : ∀ (r b L q : List Int), q ∈ pl sz mo r b L → ∃ t, t.length = r.length ∧ q = b ++ t
  | [], b, L, q, h => ⟨[], rfl, by simpa [pl] using h⟩
  | p :: r, b, L, q, h => by
    unfold pl at h
    obtain ⟨s, _, hq⟩ := List.mem_flatMap.1 h
    split at hq
    · obtain ⟨t, ht, e⟩ := pl_pre r _ _ q hq
      exact ⟨(s : Int) :: t, by simp [ht], by rw [e]; simp⟩
    · simp at hq
theorem flat_congr {α β : Type} {f g : α → List β} : ∀ {l : List α}, (∀ a ∈ l, f a = g a) → l.flatMap f = l.flatMap g
  | [], _ => rfl
  | a :: l, h => by rw [List.flatMap_cons, List.flatMap_cons, h a (by simp), flat_congr (fun b hb => h b (by simp [hb]))]
theorem pl_filter {sz : Int} {mo big : Nat} (hmb : mo ≤ big) : ∀ (r b L : List Int), (L.length : Int) = mny b → L.length ≤ mo → pl sz mo r b L = (pl sz big r b L).filter fun q => decide (mny q ≤ mo)
  | [], b, L, h, hm => by
    unfold pl
    rw [List.filter_cons, if_pos (by simp; omega), List.filter_nil]
  | p :: r, b, L, h, hm => by
    have hkid : ∀ s ≤ L.length, max L.length (s + 1) ≤ mo → (if p ≤ rm sz L s then pl sz mo r (b ++ [(s : Int)]) (up sz L s p) else []) = (if p ≤ rm sz L s then pl sz big r (b ++ [(s : Int)]) (up sz L s p) else []).filter fun q => decide (mny q ≤ mo) := fun s hs hs2 => by
      split
      · refine pl_filter hmb r _ _ ?_ (by rw [up_len p hs]; exact hs2)
        rw [up_len p hs, mny_snoc]
        omega
      · rfl
    unfold pl
    rw [List.filter_flatMap]
    by_cases h1 : L.length + 1 ≤ mo
    · rw [Nat.min_eq_left h1, Nat.min_eq_left (Nat.le_trans h1 hmb)]
      refine flat_congr ?_
      intro s hs
      have := List.mem_range'_1.1 hs
      exact hkid s (by omega) (by omega)
    · have hL : mo = L.length := by omega
      rw [Nat.min_eq_right (by omega : mo ≤ L.length + 1)]
      have hk2 : ((List.range' 0 mo).flatMap fun s => if p ≤ rm sz L s then pl sz mo r (b ++ [(s : Int)]) (up sz L s p) else []) = (List.range' 0 mo).flatMap fun a => (if p ≤ rm sz L a then pl sz big r (b ++ [(a : Int)]) (up sz L a p) else []).filter fun q => decide (mny q ≤ mo) := by
        refine flat_congr ?_
        intro s hs
        have := List.mem_range'_1.1 hs
        exact hkid s (by omega) (by omega)
      rw [hk2]
      by_cases h2 : big = mo
      · rw [h2, Nat.min_eq_right (by omega : mo ≤ L.length + 1)]
      · rw [Nat.min_eq_left (by omega : L.length + 1 ≤ big), List.range'_1_concat, List.flatMap_append, List.flatMap_cons, List.flatMap_nil, List.append_nil, ← hL]
        suffices hz : ((if p ≤ rm sz L (0 + mo) then pl sz big r (b ++ [((0 + mo : Nat) : Int)]) (up sz L (0 + mo) p) else []).filter fun q => decide (mny q ≤ mo)) = [] by rw [hz, List.append_nil]
        rw [List.filter_eq_nil_iff]
        intro q hq
        split at hq
        · obtain ⟨t, _, e⟩ := pl_pre r _ _ q hq
          have := mny_app (b ++ [((0 + mo : Nat) : Int)]) t
          rw [mny_snoc, ← e] at this
          simp only [decide_eq_true_eq]
          omega
        · simp at hq
theorem pl_ne {sz : Int} {mo : Nat} : ∀ (r b L : List Int), (∀ p ∈ r, p ≤ sz) → L.length + r.length ≤ mo → pl sz mo r b L ≠ []
  | [], b, L, _, _ => by simp [pl]
  | p :: r, b, L, hp, hm => by
    rw [List.length_cons] at hm
    have hr : rm sz L L.length = sz := by unfold rm; rw [List.getD_eq_getElem?_getD, List.getElem?_eq_none (by omega), Option.getD_none]
    have ih := pl_ne (sz := sz) (mo := mo) r (b ++ [(L.length : Int)]) (up sz L L.length p) (fun q hq => hp q (by simp [hq])) (by rw [up_len p (Nat.le_refl _)]; omega)
    obtain ⟨q, hq⟩ := List.exists_mem_of_ne_nil _ ih
    refine List.ne_nil_of_mem (a := q) ?_
    unfold pl
    refine List.mem_flatMap.2 ⟨L.length, List.mem_range'_1.2 (by omega), ?_⟩
    rw [if_pos (by rw [hr]; exact hp p (by simp))]
    exact hq
/-- All plans with at most so many sheets. -/
def apl (sz : Int) (ps : List Int) (mo : Nat) : List (List Int) := pl sz mo ps [] []
def fwg (f : Nat → Bool) : Nat → Nat → Nat
  | 0, k => k
  | d + 1, k => if f k then k else fwg f d (k + 1)
theorem fwg_spec (f : Nat → Bool) : ∀ (d k : Nat), f (k + d) = true → f (fwg f d k) = true ∧ k ≤ fwg f d k ∧ fwg f d k ≤ k + d ∧ ∀ j, k ≤ j → j < fwg f d k → f j = false
  | 0, k, h => ⟨h, Nat.le_refl _, Nat.le_refl _, fun j h1 h2 => by unfold fwg at h2; omega⟩
  | d + 1, k, h => by
    unfold fwg
    by_cases e : f k = true
    · rw [if_pos e]
      exact ⟨e, Nat.le_refl _, by omega, fun j h1 h2 => by omega⟩
    · rw [if_neg e]
      obtain ⟨h1, h2, h3, h4⟩ := fwg_spec f d (k + 1) (by rw [show k + 1 + d = k + (d + 1) by omega]; exact h)
      refine ⟨h1, by omega, by omega, fun j hj1 hj2 => ?_⟩
      by_cases hj : j = k
      · rw [hj]; simpa using e
      · exact h4 j (by omega) hj2
/-- The fewest sheets. -/
def fw (sz : Int) (ps : List Int) : Nat := fwg (fun k => !(apl sz ps k).isEmpty) ps.length 0
theorem apl_len {sz : Int} {ps : List Int} (hj : Job sz ps) : apl sz ps ps.length ≠ [] := pl_ne ps [] [] (fun p hp => (hj.ok p hp).2) (by simp)
theorem fw_spec {sz : Int} {ps : List Int} (hj : Job sz ps) : apl sz ps (fw sz ps) ≠ [] ∧ fw sz ps ≤ ps.length ∧ ∀ j < fw sz ps, apl sz ps j = [] := by
  have h0 : (fun k => !(apl sz ps k).isEmpty) (0 + ps.length) = true := by
    rw [Nat.zero_add]
    have := apl_len hj
    show (!(apl sz ps ps.length).isEmpty) = true
    cases h : apl sz ps ps.length
    · exact absurd h this
    · rfl
  obtain ⟨h1, h2, h3, h4⟩ := fwg_spec (fun k => !(apl sz ps k).isEmpty) ps.length 0 h0
  refine ⟨fun e => ?_, by unfold fw; omega, fun j hj => ?_⟩
  · unfold fw at e
    simp only [e] at h1
    exact absurd h1 (by simp)
  · have := h4 j (by omega) hj
    cases h : apl sz ps j
    · rfl
    · simp [h] at this
theorem apl_filter {sz : Int} {ps : List Int} {mo big : Nat} (h : mo ≤ big) : apl sz ps mo = (apl sz ps big).filter fun q => decide (mny q ≤ mo) := pl_filter h ps [] [] rfl (by simp)
theorem apl_le {sz : Int} {ps : List Int} {mo : Nat} {q : List Int} (h : q ∈ apl sz ps mo) : mny q ≤ mo := by
  rw [apl_filter (Nat.le_refl mo)] at h
  simpa using (List.mem_filter.1 h).2
theorem apl_down {sz : Int} {ps : List Int} {mo big : Nat} {q : List Int} (hb : q ∈ apl sz ps big) (h : mny q ≤ mo) (hm : mo ≤ big) : q ∈ apl sz ps mo := by
  rw [apl_filter hm]
  exact List.mem_filter.2 ⟨hb, by simpa using h⟩
theorem fw_mny {sz : Int} {ps : List Int} (hj : Job sz ps) {q : List Int} (h : q ∈ apl sz ps (fw sz ps)) : mny q = fw sz ps := by
  obtain ⟨h1, h2, h3⟩ := fw_spec hj
  have h4 := apl_le h
  by_cases e : mny q = fw sz ps
  · exact e
  · have h0 := mny_nn q
    have := apl_down (mo := fw sz ps - 1) h (by omega) (by omega)
    rw [h3 _ (by omega)] at this
    cases this
theorem apl_qlen {sz : Int} {ps : List Int} {mo : Nat} {q : List Int} (h : q ∈ apl sz ps mo) : q.length = ps.length := by
  obtain ⟨t, ht, e⟩ := pl_pre ps [] [] q h
  rw [e, List.nil_append, ht]
theorem least_loop {sz : Int} {ps : List Int} (hj : Job sz ps) : ∀ (m k : Nat), k ≤ fw sz ps → fw sz ps - k < m → DL82_1 N m sz ps (k : Int) = some ((fw sz ps : Nat) : Int)
  | 0, k, _, h => by omega
  | m + 1, k, hk, h => by
    obtain ⟨h1, h2, h3⟩ := fw_spec hj
    have h8 := hj.len
    rw [DL82_1_succ]
    unfold DF82_1
    rw [D84c98io0001_eq pure98 hj (by omega : k ≤ 8), Option.bind_some, fv98]
    by_cases e : k = fw sz ps
    · subst e
      have : (pl sz (fw sz ps) ps [] []).isEmpty = false := by
        cases hh : pl sz (fw sz ps) ps [] []
        · exact absurd hh h1
        · rfl
      simp only [this, Bool.not_false, show (true == false) = false from rfl, cond_false, Option.bind_some, cond_true]
    · have : pl sz k ps [] [] = [] := h3 k (by omega)
      simp only [this, List.isEmpty_nil, Bool.not_true, beq_self_eq_true, cond_true, Option.bind_some]
      rw [beq_false_of_ne (show (k : Int) ≠ (ps.length : Int) by omega), cond_false, wr_succ (by omega), least_loop hj m (k + 1) (by omega) (by omega)]
theorem least_eq {sz : Int} {ps : List Int} (hj : Job sz ps) : D82 N sz ps = some ((fw sz ps : Nat) : Int) := by
  unfold D82
  obtain ⟨h1, h2, h3⟩ := fw_spec hj
  exact least_loop hj N.1 0 (by omega) (by have : N.1 = 1000000 := rfl; have := hj.len; omega)
def fwS (sz : Int) (ps : List Int) : Int × Int := if chk sz ps ≠ 0 then (0, chk sz ps) else (fw sz ps, 0)
theorem Fewest_eq (sz : Int) (ps : List Int) : D34 N sz ps = some (fwS sz ps) := by
  unfold D34 fwS
  rw [Check_eq hN1, Option.bind_some]
  by_cases h : chk sz ps = 0
  · have hj := chk_job.1 h
    rw [h, bne_self_eq_false, cond_false, if_neg (by simp), least_eq hj, Option.bind_some]
  · rw [show (chk sz ps != 0) = true by simpa using h, cond_true, if_pos h]
theorem head_mem {l : List (List Int)} (h : l ≠ []) : ∃ hl : 0 < l.length, l[0] = l.headD [] ∧ l.headD [] ∈ l := by
  cases l with
  | nil => exact absurd rfl h
  | cons a l => exact ⟨by simp, rfl, by simp⟩
theorem usd_app (s : Int) : ∀ (a a' l l' : List Int), a.length = l.length → usd (a ++ a') (l ++ l') s = usd a l s + usd a' l' s
  | [], a', [], l', _ => by simp [usd]
  | p :: a, a', x :: l, l', h => by
    simp only [List.cons_append, usd]
    rw [usd_app s a a' l l' (by simpa using h)]
    omega
  | [], _, _ :: _, _, h => by simp at h
  | _ :: _, _, [], _, h => by simp at h
def okT (sz : Int) (mo : Nat) : List Int → List Int → List Int → Prop
  | _, [], t => t = []
  | L, p :: r, t => ∃ (s : Nat) (t' : List Int), t = (s : Int) :: t' ∧ s ≤ L.length ∧ s < mo ∧ p ≤ rm sz L s ∧ okT sz mo (up sz L s p) r t'
theorem mem_pl {sz : Int} {mo : Nat} : ∀ (r b L q : List Int), q ∈ pl sz mo r b L ↔ ∃ t, q = b ++ t ∧ okT sz mo L r t
  | [], b, L, q => by
    unfold pl okT
    simp
  | p :: r, b, L, q => by
    unfold pl okT
    rw [List.mem_flatMap]
    constructor
    · rintro ⟨s, hs, hq⟩
      have hs := List.mem_range'_1.1 hs
      split at hq
      · rename_i hf
        obtain ⟨t, ht, hk⟩ := (mem_pl r _ _ q).1 hq
        exact ⟨(s : Int) :: t, by rw [ht]; simp, s, t, rfl, by omega, by omega, hf, hk⟩
      · cases hq
    · rintro ⟨t, ht, s, t', rfl, h1, h2, hf, hk⟩
      refine ⟨s, List.mem_range'_1.2 (by omega), ?_⟩
      rw [if_pos hf]
      exact (mem_pl r _ _ q).2 ⟨t', by rw [ht]; simp, hk⟩
theorem okT_iff {sz : Int} {ps : List Int} {mo : Nat} (hj : Job sz ps) : ∀ (r b L t : List Int), Rs sz ps b L → ps.drop b.length = r → (∀ x, usd (ps.take b.length) b x ≤ sz) → mny b ≤ mo → t.length = r.length →
    (okT sz mo L r t ↔ oer (mny b) t = 0 ∧ (∀ x, usd ps (b ++ t) x ≤ sz) ∧ mny (b ++ t) ≤ mo)
  | [], b, L, t, h, hr, hu, hm, ht => by
    have : t = [] := List.length_eq_zero_iff.1 (by simpa using ht)
    subst this
    have hle := h.le
    have hb : b.length = ps.length := by have := List.drop_eq_nil_iff.1 hr; omega
    rw [hb, List.take_length] at hu
    unfold okT oer
    rw [List.append_nil]
    exact ⟨fun _ => ⟨rfl, hu, hm⟩, fun _ => rfl⟩
  | p :: r, b, L, [], h, hr, hu, hm, ht => by simp at ht
  | p :: r, b, L, x :: t, h, hr, hu, hm, ht => by
    have hb : b.length < ps.length := by
      rcases Nat.lt_or_ge b.length ps.length with h | h
      · exact h
      · rw [List.drop_eq_nil_of_le h] at hr; cases hr
    have hp : ps[b.length] = p ∧ ps.drop (b.length + 1) = r := by
      rw [drop_cons hb] at hr
      exact ⟨(List.cons.inj hr).1, (List.cons.inj hr).2⟩
    obtain ⟨hp1, hp2⟩ := hp
    have hlen := h.len
    have hpr := hj.ok _ (List.getElem_mem hb)
    rw [hp1] at hpr
    have hut : ∀ s : Int, usd (ps.take (b.length + 1)) (b ++ [x]) s = usd (ps.take b.length) b s + if x = s then p else 0 := fun s => by
      rw [take_snoc hb, usd_snoc _ _ _ (by simp; omega), hp1]
    have hps : ps = ps.take (b.length + 1) ++ r := by rw [← hp2, List.take_append_drop]
    have hut2 : ∀ s : Int, usd ps (b ++ x :: t) s = usd (ps.take (b.length + 1)) (b ++ [x]) s + usd r t s := fun s => by
      have := usd_app s (ps.take (b.length + 1)) r (b ++ [x]) t (by simp; omega)
      rw [← hps, List.append_assoc, List.singleton_append] at this
      exact this
    have hnn : ∀ s : Int, 0 ≤ usd r t s := fun s => usd_nn (fun q hq => by
      rw [← hp2] at hq
      have := hj.ok q (List.mem_of_mem_drop hq)
      omega)
    have main : ∀ s : Nat, x = (s : Int) → s ≤ L.length → p ≤ rm sz L s → s < mo → (okT sz mo (up sz L s p) r t ↔ oer (mny (b ++ [x])) t = 0 ∧ (∀ y, usd ps ((b ++ [x]) ++ t) y ≤ sz) ∧ mny ((b ++ [x]) ++ t) ≤ mo) := by
      intro s hs h1 hf h2
      subst hs
      have hc := h.child hb h1
      rw [hp1] at hc
      refine okT_iff hj r (b ++ [(s : Int)]) (up sz L s p) t hc (by simp only [List.length_append, List.length_cons, List.length_nil]; exact hp2) (fun y => ?_) (by rw [mny_snoc]; omega) (by simpa using ht)
      rw [List.length_append, List.length_singleton, hut y]
      by_cases e : (s : Int) = y
      · rw [if_pos e, ← e]
        have := h.rm h1
        omega
      · rw [if_neg e]
        have := hu y
        omega
    unfold okT oer
    constructor
    · rintro ⟨s, t', he, h1, h2, hf, hk⟩
      obtain ⟨hx, rfl⟩ := List.cons.inj he
      obtain ⟨m1, m2, m3⟩ := (main s hx h1 hf h2).1 hk
      rw [List.append_assoc, List.singleton_append] at m3
      simp only [List.append_assoc, List.singleton_append] at m2
      rw [if_neg (by omega), if_neg (by omega)]
      rw [mny_snoc] at m1
      exact ⟨m1, m2, m3⟩
    · rintro ⟨m1, m2, m3⟩
      split at m1
      · omega
      · split at m1
        · omega
        · rename_i hx0 hx1
          have hmx : x < mny (b ++ x :: t) := mny_lt (by simp)
          have h1 : x.toNat ≤ L.length := by omega
          have hf : p ≤ rm sz L x.toNat := by
            have e1 := m2 x
            rw [hut2 x, hut x, if_pos rfl] at e1
            have e2 := hnn x
            rw [h.rm h1, show ((x.toNat : Nat) : Int) = x by omega]
            omega
          refine ⟨x.toNat, t, by rw [show ((x.toNat : Nat) : Int) = x by omega], h1, by omega, hf, ?_⟩
          refine (main x.toNat (by omega) h1 hf (by omega)).2 ⟨?_, ?_, ?_⟩
          · rw [mny_snoc]; exact m1
          · simp only [List.append_assoc, List.singleton_append]; exact m2
          · rw [List.append_assoc, List.singleton_append]; exact m3
theorem apl_iff {sz : Int} {ps : List Int} {mo : Nat} (hj : Job sz ps) {q : List Int} : q ∈ apl sz ps mo ↔ Pln sz ps q ∧ mny q ≤ mo := by
  unfold apl
  have hlo := hj.lo
  rw [mem_pl]
  constructor
  · rintro ⟨t, ht, hk⟩
    rw [List.nil_append] at ht
    subst ht
    have hl : q.length = ps.length := apl_qlen (mo := mo) (sz := sz) (by unfold apl; exact (mem_pl ps [] [] q).2 ⟨q, by simp, hk⟩)
    obtain ⟨h1, h2, h3⟩ := (okT_iff hj ps [] [] q (Rs.nil hj) rfl (fun x => by simp [usd]; omega) (by rw [mny_nil]; omega) hl).1 hk
    exact ⟨⟨hj, hl, h1, fun x _ => h2 x⟩, h3⟩
  · rintro ⟨hp, hm⟩
    refine ⟨q, by simp, ?_⟩
    refine (okT_iff hj ps [] [] q (Rs.nil hj) rfl (fun x => by simp [usd]; omega) (by rw [mny_nil]; omega) hp.len).2 ⟨hp.ord, fun x => ?_, hm⟩
    rw [List.nil_append]
    by_cases hx : x ∈ q
    · exact hp.fit x hx
    · rw [usd_none hx]; omega
/-- No plan has fewer sheets. -/
theorem fw_le {sz : Int} {ps q : List Int} (h : Pln sz ps q) : (fw sz ps : Int) ≤ mny q := by
  obtain ⟨h1, h2, h3⟩ := fw_spec h.job
  have h0 := mny_nn q
  by_cases e : (fw sz ps : Int) ≤ mny q
  · exact e
  · have := (apl_iff (mo := (mny q).toNat) h.job).2 ⟨h, by omega⟩
    rw [h3 _ (by omega)] at this
    cases this
/-- The first plan with the fewest sheets. -/
def fst (sz : Int) (ps : List Int) : List Int := (apl sz ps (fw sz ps)).headD []
theorem fst_mem {sz : Int} {ps : List Int} (hj : Job sz ps) : fst sz ps ∈ apl sz ps (fw sz ps) := (head_mem (fw_spec hj).1).2.2
theorem fst_pln {sz : Int} {ps : List Int} (hj : Job sz ps) : Pln sz ps (fst sz ps) := ((apl_iff hj).1 (fst_mem hj)).1
theorem fst_mny {sz : Int} {ps : List Int} (hj : Job sz ps) : mny (fst sz ps) = fw sz ps := fw_mny hj (fst_mem hj)
theorem fwS_eq {sz : Int} {ps : List Int} (hj : Job sz ps) : fwS sz ps = ((fw sz ps : Int), 0) := by unfold fwS; rw [if_neg (by simpa using chk_job.2 hj)]
end Go.Proofs.YtgmonagekfjnmaaDoor
set_option linter.unusedVariables false
set_option linter.unusedSimpArgs false
set_option maxRecDepth 100000
namespace Go.Proofs.YtgmonagekfjnmaaDoor
open Go.Vi
/-D 91io00111 -/
/-D 101f91io001110 -/
/-D 90c91io001 -/
/-D 52 -/
/-D 53 -/
/-D 8 -/
end Go.Proofs.YtgmonagekfjnmaaDoor
set_option linter.unusedVariables false
set_option linter.unusedSimpArgs false
namespace Go.Proofs.YtgmonagekfjnmaaDoor
open Go.Vi
def goodC (s : Int) : Option (List Int) → Bool
  | some l => decide (l.length ≤ 20) && !l.isEmpty && l.all fun p => decide (1 ≤ p) && decide (s % p = 0) && l.all fun q => decide (p % q = 0) || decide (q % p = 0)
  | none => false
theorem chain_all : ∀ s : Fin 25, ∀ b : Fin 128, 1 ≤ s.val → goodC s.val (D89 N s.val b.val) = true := by decide +kernel
end Go.Proofs.YtgmonagekfjnmaaDoor
set_option linter.unusedVariables false
set_option linter.unusedSimpArgs false
set_option maxRecDepth 100000
namespace Go.Proofs.YtgmonagekfjnmaaDoor
open Go.Vi
/-D 41 -/
/-D 88 -/
/-D 43 -/
/-D 45 -/
/-D 47 -/
/-D 6 -/
end Go.Proofs.YtgmonagekfjnmaaDoor
set_option linter.unusedVariables false
set_option linter.unusedSimpArgs false
namespace Go.Proofs.YtgmonagekfjnmaaDoor
open Go.Vi
/-! Bounds. -/
/-- Each one divides the one before it. -/
def Chn : Int → List Int → Prop
  | _, [] => True
  | s, p :: r => s % p = 0 ∧ Chn p r
instance Chn.dec : ∀ (s : Int) (l : List Int), Decidable (Chn s l)
  | _, [] => .isTrue trivial
  | s, p :: r => by
    unfold Chn
    have := Chn.dec p r
    exact inferInstance
/-- Lengths are a chain. -/
def Cmp (x y : Int) : Prop := x % y = 0 ∨ y % x = 0
def IsC (sz : Int) (ps : List Int) : Prop := (∀ p ∈ ps, sz % p = 0) ∧ ps.Pairwise Cmp
instance (x y : Int) : Decidable (Cmp x y) := inferInstanceAs (Decidable (_ ∨ _))
instance (sz : Int) (ps : List Int) : Decidable (IsC sz ps) := inferInstanceAs (Decidable (_ ∧ _))
theorem tmod_mod {a b : Int} (h : 0 ≤ a) : Int.tmod a b = a % b := Int.tmod_eq_emod_of_nonneg h
abbrev Stp := Int × Int × Int × Int × Int × Int × Int × Int × Int × Int × Int
abbrev ShS : Sh := .pair (.int .u8) (.pair (.int .u8) (.pair (.int .u8) (.pair (.int .u8) (.pair (.int .u8) (.pair (.int .u8) (.pair (.int .u8) (.pair (.int .u8) (.pair (.int .u8) (.pair (.int .u8) (.int .u8))))))))))
def By (x : Int) : Prop := 0 ≤ x ∧ x ≤ 255
structure StpOk (s : Stp) : Prop where
  size : By s.1
  many : By s.2.1
  chain : By s.2.2.1
  cuts : ∀ x ∈ [s.2.2.2.1, s.2.2.2.2.1, s.2.2.2.2.2.1, s.2.2.2.2.2.2.1, s.2.2.2.2.2.2.2.1, s.2.2.2.2.2.2.2.2.1, s.2.2.2.2.2.2.2.2.2.1, s.2.2.2.2.2.2.2.2.2.2], By x
theorem u8_rng {x : Int} (h : (Lit.int .u8 x).wf = true) : 0 ≤ x ∧ x ≤ 255 := by
  simpa [Lit.wf, IntKind.min, IntKind.max, IntKind.signed, IntKind.bits] using h
theorem by_wf {x : Int} (h : Wf (.int .u8) x) : By x := u8_rng h
theorem stp_ok {s : Stp} (h : Wf ShS s) : StpOk s := by
  obtain ⟨ha, hb, hc, h1, h2, h3, h4, h5, h6, h7, h8⟩ := h
  refine ⟨by_wf ha, by_wf hb, by_wf hc, fun x hx => ?_⟩
  simp only [List.mem_cons, List.not_mem_nil, or_false] at hx
  rcases hx with e | e | e | e | e | e | e | e <;> subst e
  · exact by_wf h1
  · exact by_wf h2
  · exact by_wf h3
  · exact by_wf h4
  · exact by_wf h5
  · exact by_wf h6
  · exact by_wf h7
  · exact by_wf h8
theorem pick_loop (n : Nat × Nat) (sz : Int) {cs lens : List Int} (hc : ∀ x ∈ cs, By x) (hl : lens ≠ []) (hll : lens.length ≤ 100) (h8 : cs.length ≤ 8) : ∀ (m k : Nat) (out : List Int), k ≤ cs.length → cs.length - k < m → out.length = k → (∀ x ∈ out, x ∈ lens) →
    ∃ ps, DL48_1 n m sz cs (cs.length : Int) (k : Int) lens out = some (sz, ps) ∧ ps.length = cs.length ∧ ∀ x ∈ ps, x ∈ lens
  | 0, k, out, _, h, _, _ => by omega
  | m + 1, k, out, hk, h, ho, hm => by
    rw [DL48_1_succ]
    unfold DF48_1
    have hpos : 0 < lens.length := List.length_pos_iff.2 hl
    by_cases hlt : k < cs.length
    · have hx := hc _ (List.getElem_mem hlt)
      unfold By at hx
      have hmod := Int.emod_nonneg cs[k] (show (lens.length : Int) ≠ 0 by omega)
      have hmod2 := Int.emod_lt_of_pos cs[k] (show (0 : Int) < lens.length by omega)
      have hi : (cs[k] % (lens.length : Int)).toNat < lens.length := by omega
      have hi2 : cs[k] % (lens.length : Int) = (((cs[k] % (lens.length : Int)).toNat : Nat) : Int) := by omega
      rw [dlt_t hlt, cond_true, idx_nat hlt, Option.bind_some, beq_false_of_ne (show (lens.length : Int) ≠ 0 by omega), cond_false, wr_ok (by omega) (by omega), tmod_mod hx.1, hi2, inB_nat hi, cond_true, idx_nat hi, Option.bind_some, lim_dec (by omega), cond_true, wr_succ (by omega)]
      exact pick_loop n sz hc hl hll h8 m (k + 1) _ (by omega) (by omega) (by simp [ho]) (fun x hx => by
        rcases List.mem_append.1 hx with hx | hx
        · exact hm x hx
        · rw [List.mem_singleton.1 hx]; exact List.getElem_mem _)
    · rw [dlt_f hlt, cond_false]
      exact ⟨out, rfl, by omega, hm⟩
theorem cuts_take {s : Stp} (h : StpOk s) {k : Nat} : ∀ x ∈ [s.2.2.2.1, s.2.2.2.2.1, s.2.2.2.2.2.1, s.2.2.2.2.2.2.1, s.2.2.2.2.2.2.2.1, s.2.2.2.2.2.2.2.2.1, s.2.2.2.2.2.2.2.2.2.1, s.2.2.2.2.2.2.2.2.2.2].take k, By x := fun x hx => h.cuts x (List.mem_of_mem_take hx)
theorem many_ok {s : Stp} (h : StpOk s) {most : Nat} (hm : most ≤ 8) : wr .i64 ((most : Int) + 1) = ((most + 1 : Nat) : Int) ∧ (((most + 1 : Nat) : Int) == 0) = false ∧ Int.tmod (wr .i64 s.2.1) ((most + 1 : Nat) : Int) = (((s.2.1 % ((most + 1 : Nat) : Int)).toNat : Nat) : Int) ∧ (s.2.1 % ((most + 1 : Nat) : Int)).toNat ≤ most := by
  have h1 := h.many
  unfold By at h1
  have hmod := Int.emod_nonneg s.2.1 (show ((most + 1 : Nat) : Int) ≠ 0 by omega)
  have hmod2 := Int.emod_lt_of_pos s.2.1 (show (0 : Int) < ((most + 1 : Nat) : Int) by omega)
  refine ⟨wr_succ (by omega), beq_false_of_ne (by omega), ?_, by omega⟩
  rw [wr_ok (by omega) (by omega), tmod_mod h1.1]
  omega
theorem fill_loop (n : Nat × Nat) (hn : 1000 ≤ n.1) {s : Stp} (h : StpOk s) {most : Nat} (hm : most ≤ 8) {sz : Int} (hs : 1 ≤ sz ∧ sz ≤ 24) : ∀ (m k : Nat) (lens : List Int), (k : Int) ≤ sz → sz - k < m → lens.length = k → (∀ x ∈ lens, 1 ≤ x ∧ x ≤ sz) →
    ∃ ps, DL48_2 n m most sz sz (k : Int) s.1 s.2.1 s.2.2.1 s.2.2.2.1 s.2.2.2.2.1 s.2.2.2.2.2.1 s.2.2.2.2.2.2.1 s.2.2.2.2.2.2.2.1 s.2.2.2.2.2.2.2.2.1 s.2.2.2.2.2.2.2.2.2.1 s.2.2.2.2.2.2.2.2.2.2 lens = some (sz, ps) ∧ ps.length ≤ most ∧ ∀ x ∈ ps, 1 ≤ x ∧ x ≤ sz
  | 0, k, lens, _, hh, _, _ => by omega
  | m + 1, k, lens, hk, hh, hl, hb => by
    rw [DL48_2_succ]
    unfold DF48_2
    by_cases hlt : (k : Int) < sz
    · rw [decide_eq_true hlt, cond_true, lim_dec (by omega), cond_true, wr_succ (by omega)]
      exact fill_loop n hn h hm hs m (k + 1) _ (by omega) (by omega) (by simp [hl]) (fun x hx => by
        rcases List.mem_append.1 hx with hx | hx
        · exact hb x hx
        · rw [List.mem_singleton.1 hx]; omega)
    · obtain ⟨e1, e2, e3, e4⟩ := many_ok h hm
      rw [decide_eq_false hlt, cond_false, e1, e2, cond_false, e3, bounds_hi (by omega), cond_true, Int.toNat_natCast]
      obtain ⟨ps, hp, hpl, hpm⟩ := pick_loop n sz (cs := [s.2.2.2.1, s.2.2.2.2.1, s.2.2.2.2.2.1, s.2.2.2.2.2.2.1, s.2.2.2.2.2.2.2.1, s.2.2.2.2.2.2.2.2.1, s.2.2.2.2.2.2.2.2.2.1, s.2.2.2.2.2.2.2.2.2.2].take (s.2.1 % ((most + 1 : Nat) : Int)).toNat) (lens := lens) (cuts_take h) (by intro e; rw [e] at hl; simp at hl; omega) (by omega) (by rw [List.length_take]; exact Nat.min_le_right _ _) n.1 0 [] (by omega) (by simp; omega) rfl (by simp)
      exact ⟨ps, hp, by rw [hpl, List.length_take]; omega, fun x hx => hb x (hpm x hx)⟩
/-- What a job by numbers is. -/
theorem made_ok {s : Stp} (h : StpOk s) {most : Nat} (hm : most ≤ 8) : ∃ sz ps, D48 N s most = some (sz, ps) ∧ Job sz ps ∧ ps.length ≤ most ∧ (s.2.2.1 % 2 = 1 → IsC sz ps) := by
  have h1 := h.size
  have h3 := h.chain
  unfold By at h1 h3
  obtain ⟨e1, e2, e3, e4⟩ := many_ok h hm
  have hsz : wr .i64 (1 + Int.tmod (wr .i64 s.1) 24) = 1 + s.1 % 24 := by
    rw [wr_ok (x := s.1) (by omega) (by omega), tmod_mod h1.1, wr_ok (by omega) (by omega)]
  have hb : wr .i64 (Int.tdiv (wr .i64 s.2.2.1) 2) = s.2.2.1 / 2 := by
    rw [wr_ok (x := s.2.2.1) (by omega) (by omega), Int.tdiv_eq_ediv_of_nonneg h3.1, wr_ok (by omega) (by omega)]
  unfold D48
  rw [show ((24 : Nat) == 0) = false from rfl, show ((2 : Nat) == 0) = false from rfl, cond_false, cond_false, hsz, tmod_mod h3.1]
  by_cases e : s.2.2.1 % 2 = 1
  · rw [show (s.2.2.1 % 2 == 1) = true by simpa using e, cond_true, cond_false, hb]
    have hg := chain_all ⟨(1 + s.1 % 24).toNat, by omega⟩ ⟨(s.2.2.1 / 2).toNat, by omega⟩ (by simp only []; omega)
    simp only [] at hg
    rw [show (((1 + s.1 % 24).toNat : Nat) : Int) = 1 + s.1 % 24 by omega, show (((s.2.2.1 / 2).toNat : Nat) : Int) = s.2.2.1 / 2 by omega] at hg
    cases hD : D89 N (1 + s.1 % 24) (s.2.2.1 / 2) with
    | none => rw [hD] at hg; cases hg
    | some lens =>
      rw [hD] at hg
      simp only [goodC, Bool.and_eq_true, decide_eq_true_eq, List.all_eq_true, Bool.or_eq_true, Bool.not_eq_true', List.isEmpty_eq_false_iff] at hg
      obtain ⟨⟨hg1, hg2⟩, hg3⟩ := hg
      rw [Option.bind_some, e1, e2, cond_false, e3, bounds_hi (by omega), cond_true, Int.toNat_natCast]
      obtain ⟨ps, hp, hpl, hpm⟩ := pick_loop N (1 + s.1 % 24) (cs := [s.2.2.2.1, s.2.2.2.2.1, s.2.2.2.2.2.1, s.2.2.2.2.2.2.1, s.2.2.2.2.2.2.2.1, s.2.2.2.2.2.2.2.2.1, s.2.2.2.2.2.2.2.2.2.1, s.2.2.2.2.2.2.2.2.2.2].take (s.2.1 % ((most + 1 : Nat) : Int)).toNat) (lens := lens) (cuts_take h) hg2 (by omega) (by rw [List.length_take]; exact Nat.min_le_right _ _) N.1 0 [] (by omega) (by have : N.1 = 1000000 := rfl; simp; omega) rfl (by simp)
      have hdiv : ∀ p ∈ lens, 1 ≤ p ∧ p ≤ 1 + s.1 % 24 ∧ (1 + s.1 % 24) % p = 0 := fun p hp => by
        have := (hg3 p hp).1
        exact ⟨this.1, Int.le_of_dvd (by omega) (Int.dvd_of_emod_eq_zero this.2), this.2⟩
      have hlen : ps.length ≤ most := by rw [hpl, List.length_take]; omega
      refine ⟨1 + s.1 % 24, ps, hp, ⟨by omega, by omega, by omega, fun p hp => ?_⟩, hlen, fun _ => ⟨fun p hp => (hdiv p (hpm p hp)).2.2, ?_⟩⟩
      · have := hdiv p (hpm p hp)
        exact ⟨this.1, this.2.1⟩
      · rw [List.pairwise_iff_forall_sublist]
        intro a b hab
        have ha := hpm a (hab.subset (by simp))
        have hb := hpm b (hab.subset (by simp))
        exact (hg3 a ha).2 b hb
  · rw [show (s.2.2.1 % 2 == 1) = false from beq_false_of_ne e, cond_false]
    obtain ⟨ps, hp, hpl, hpm⟩ := fill_loop N hN1 h hm (sz := 1 + s.1 % 24) ⟨by omega, by omega⟩ N.1 0 [] (by omega) (by have : N.1 = 1000000 := rfl; omega) rfl (by simp)
    exact ⟨1 + s.1 % 24, ps, hp, ⟨by omega, by omega, by omega, hpm⟩, hpl, fun h => absurd h e⟩

theorem oer_app : ∀ (a b : List Int) (m : Int), oer m (a ++ b) = 0 ↔ oer m a = 0 ∧ oer (a.foldl (fun a s => max a (s + 1)) m) b = 0
  | [], b, m => by simp [oer]
  | x :: a, b, m => by
    have ih := oer_app a b (max m (x + 1))
    rw [List.cons_append, List.foldl_cons]
    have e : ∀ l, oer m (x :: l) = if x < 0 then 2 else if m < x then 7 else oer (max m (x + 1)) l := fun _ => rfl
    rw [e, e]
    by_cases h1 : x < 0
    · rw [if_pos h1, if_pos h1]; simp
    · rw [if_neg h1, if_neg h1]
      by_cases h2 : m < x
      · rw [if_pos h2, if_pos h2]; simp
      · rw [if_neg h2, if_neg h2]; exact ih
theorem oer_one {m x : Int} (h0 : 0 ≤ x) (h1 : x ≤ m) : oer m [x] = 0 := by
  unfold oer
  rw [if_neg (by omega), if_neg (by omega)]
  rfl
/-- A piece more on a sheet, or on the next one. -/
theorem pln_snoc {sz : Int} {ps q : List Int} {x s : Int} (h : Pln sz ps q) (hj : Job sz (ps ++ [x])) (h0 : 0 ≤ s) (h1 : s ≤ mny q) (hf : usd ps q s + x ≤ sz) : Pln sz (ps ++ [x]) (q ++ [s]) := by
  have hl := h.len
  refine ⟨hj, by simp [hl], ?_, fun y hy => ?_⟩
  · rw [oer_app]
    exact ⟨h.ord, oer_one h0 (by unfold mny at h1; omega)⟩
  · rw [usd_snoc _ _ _ (by omega)]
    by_cases e : s = y
    · rw [if_pos e, ← e]; omega
    · rw [if_neg e]
      rcases List.mem_append.1 hy with hy | hy
      · have := h.fit y hy; omega
      · exact absurd (List.mem_singleton.1 hy).symm e
theorem fw_snoc_le {sz : Int} {ps : List Int} {x : Int} (hj : Job sz ps) (hj2 : Job sz (ps ++ [x])) : fw sz (ps ++ [x]) ≤ fw sz ps + 1 := by
  have hp := fst_pln hj
  have hm := fst_mny hj
  have h0 := mny_nn (fst sz ps)
  have hx := hj2.ok x (by simp)
  have hz : usd ps (fst sz ps) (mny (fst sz ps)) = 0 := usd_none (fun h => by have := mny_lt h; omega)
  have := fw_le (pln_snoc hp hj2 h0 (Int.le_refl _) (by omega))
  rw [mny_snoc] at this
  omega
theorem fw_snoc_ge {sz : Int} {ps : List Int} {x : Int} (hj : Job sz ps) (hj2 : Job sz (ps ++ [x])) : fw sz ps ≤ fw sz (ps ++ [x]) := by
  have hp := fst_pln hj2
  have hm := fst_mny hj2
  generalize fst sz (ps ++ [x]) = q at *
  have hl := hp.len
  rw [List.length_append, List.length_singleton] at hl
  have hq : q = q.take ps.length ++ [q[ps.length]'(by omega)] := by
    rw [← take_snoc (by omega : ps.length < q.length), List.take_of_length_le (by omega)]
  generalize ha : q.take ps.length = a at *
  generalize q[ps.length]'(by omega) = y at *
  have hal : a.length = ps.length := by rw [← ha, List.length_take]; omega
  subst hq
  have ho := (oer_app a [y] 0).1 hp.ord
  have hxp := hj2.ok x (by simp)
  have hpa : Pln sz ps a := ⟨hj, hal, ho.1, fun z hz => by
    have := hp.fit z (by simp [hz])
    rw [usd_snoc _ _ _ hal.symm] at this
    split at this <;> omega⟩
  have h1 := fw_le hpa
  have h2 := mny_app a [y]
  omega
theorem fw_size {sz : Int} {ps : List Int} (hj : Job sz ps) (h : sz < 24) : Job (sz + 1) ps ∧ fw (sz + 1) ps ≤ fw sz ps := by
  have hj2 : Job (sz + 1) ps := ⟨by have := hj.lo; omega, by omega, hj.len, fun p hp => by have := hj.ok p hp; omega⟩
  have hp := fst_pln hj
  have hm := fst_mny hj
  have := fw_le (sz := sz + 1) (ps := ps) (q := fst sz ps) ⟨hj2, hp.len, hp.ord, fun x hx => by have := hp.fit x hx; omega⟩
  exact ⟨hj2, by omega⟩
theorem usd_set (s x : Int) : ∀ (ps q : List Int) (i : Nat) (hi : i < ps.length) (hq : i < q.length), usd (ps.set i x) q s = usd ps q s + if q[i] = s then x - ps[i] else 0
  | p :: ps, y :: q, 0, _, _ => by
    simp only [List.set_cons_zero, usd, List.getElem_cons_zero]
    split <;> omega
  | p :: ps, y :: q, i + 1, hi, hq => by
    simp only [List.set_cons_succ, usd, List.getElem_cons_succ]
    rw [usd_set s x ps q i (by simpa using hi) (by simpa using hq)]
    omega
  | [], _, _, hi, _ => by simp at hi
  | _ :: _, [], _, _, hq => by simp at hq
/-- A piece cut in two. -/
theorem fw_cut {sz : Int} {ps : List Int} (hj : Job sz ps) (h7 : ps.length ≤ 7) {i : Nat} (hi : i < ps.length) {x : Int} (hx : 1 ≤ x ∧ x ≤ ps[i] - 1) : Job sz ((ps ++ [ps[i] - x]).set i x) ∧ fw sz ((ps ++ [ps[i] - x]).set i x) ≤ fw sz ps := by
  have hpi := hj.ok _ (List.getElem_mem hi)
  have e : (ps ++ [ps[i] - x]).set i x = ps.set i x ++ [ps[i] - x] := by rw [List.set_append, if_pos hi]
  have hj1 : Job sz (ps.set i x) := ⟨hj.lo, hj.hi, by rw [List.length_set]; exact hj.len, fun p hp => by
    rcases List.mem_or_eq_of_mem_set hp with h | h
    · exact hj.ok p h
    · omega⟩
  have hj2 : Job sz (ps.set i x ++ [ps[i] - x]) := ⟨hj.lo, hj.hi, by simp; omega, fun p hp => by
    rcases List.mem_append.1 hp with h | h
    · exact hj1.ok p h
    · rw [List.mem_singleton.1 h]; omega⟩
  rw [e]
  have hp := fst_pln hj
  have hm := fst_mny hj
  generalize fst sz ps = q at *
  have hl := hp.len
  have hq : i < q.length := by omega
  have hs := fun s => usd_set s x ps q i hi hq
  have hp1 : Pln sz (ps.set i x) q := ⟨hj1, by rw [List.length_set]; exact hl, hp.ord, fun y hy => by
    have := hp.fit y hy
    rw [hs y]
    split <;> omega⟩
  have hqi := hp.rng _ (List.getElem_mem hq)
  have hlt := mny_lt (List.getElem_mem hq)
  have hfit := hp.fit _ (List.getElem_mem hq)
  have := fw_le (pln_snoc hp1 hj2 hqi.1 (by omega) (by rw [hs, if_pos rfl]; omega))
  rw [mny_snoc] at this
  exact ⟨hj2, by omega⟩
theorem more_ok {s : Stp} (h : StpOk s) {a b c : Int} (ha : By a) (hb : By b) (hc : By c) : S12 N s a b c = some true := by
  rw [S12_D N rfl]
  unfold D12
  obtain ⟨sz, ps, h1, hj, h7, _⟩ := made_ok h (most := 7) (by omega)
  have e1 : D48 N s 7 = some (sz, ps) := h1
  have hlo := hj.lo
  have hhi := hj.hi
  unfold By at ha hb hc
  have hx0 := Int.emod_nonneg a (show sz ≠ 0 by omega)
  have hx1 := Int.emod_lt_of_pos a (show 0 < sz by omega)
  have hx : wr .i64 (1 + Int.tmod (wr .i64 a) sz) = 1 + a % sz := by
    rw [wr_ok (x := a) (by omega) (by omega), tmod_mod ha.1, wr_ok (by omega) (by omega)]
  have hj2 : Job sz (ps ++ [1 + a % sz]) := ⟨hj.lo, hj.hi, by simp; omega, fun p hp => by
    rcases List.mem_append.1 hp with h | h
    · exact hj.ok p h
    · rw [List.mem_singleton.1 h]; omega⟩
  have f1 := fw_snoc_le hj hj2
  have f2 := fw_snoc_ge hj hj2
  have f0 := (fw_spec hj).2.1
  rw [e1, Option.bind_some]
  simp only []
  rw [Fewest_eq, Option.bind_some, fwS_eq hj, clone_eq N ps (by omega), Option.bind_some, beq_false_of_ne (show sz ≠ 0 by omega), cond_false, lim_dec (by omega), cond_true, hx, Fewest_eq, Option.bind_some, fwS_eq hj2]
  simp only [bne_self_eq_false, beq_self_eq_true, cond_true, Option.bind_some]
  rw [decide_eq_false (show ¬ ((fw sz (ps ++ [1 + a % sz]) : Nat) : Int) < (fw sz ps : Nat) by omega), wr_ok (x := ((fw sz ps : Nat) : Int) + 1) (by omega) (by omega), decide_eq_false (show ¬ ((fw sz (ps ++ [1 + a % sz]) : Nat) : Int) > ((fw sz ps : Nat) : Int) + 1 by omega)]
  simp only [beq_self_eq_true, cond_true, Option.bind_some, cond_false]
  -- the rest: a piece cut in two
  have rest : (bif ((ps.length : Int) == 0) then (D17 N).bind fun r21' =>
              some r21'
            else (bif (ps.length : Int) == 0 then none
              else (idx ps (Int.tmod (wr .i64 b) (ps.length : Int))).bind fun x22' =>
                (bif (x22' == 1) then (D17 N).bind fun r23' =>
                  some r23'
                else (idx ps (Int.tmod (wr .i64 b) (ps.length : Int))).bind fun x24' =>
                  (bif (wr .i64 (x24' - 1)) == 0 then none
                  else (idx ps (Int.tmod (wr .i64 b) (ps.length : Int))).bind fun x26' =>
                    (bif decide (ps.length + [wr .i64 (x26' - (wr .i64 (1 + (Int.tmod (wr .i64 c) (wr .i64 (x24' - 1))))))].length ≤ lim) then (bif inB (Int.tmod (wr .i64 b) (ps.length : Int)) (ps ++ [wr .i64 (x26' - (wr .i64 (1 + (Int.tmod (wr .i64 c) (wr .i64 (x24' - 1))))))]).length then (idx (ps ++ [wr .i64 (x26' - (wr .i64 (1 + (Int.tmod (wr .i64 c) (wr .i64 (x24' - 1))))))]) (Int.tmod (wr .i64 b) (ps.length : Int))).bind fun x27' =>
                        (D34 N sz ((ps ++ [wr .i64 (x26' - (wr .i64 (1 + (Int.tmod (wr .i64 c) (wr .i64 (x24' - 1))))))]).set (Int.toNat (Int.tmod (wr .i64 b) (ps.length : Int))) (wr .i64 (1 + (Int.tmod (wr .i64 c) (wr .i64 (x24' - 1))))))).bind fun r28' =>
                        ((bif ((r28'.2 == 0) == true) then some (decide (r28'.1 ≤ (fw sz ps : Int)))
                          else some false)).bind fun b29' =>
                        ((bif (b29' == true) then (D17 N).bind fun r30' =>
                            some r30'
                          else some false)).bind fun b31' =>
                        some b31'
                      else none)
                    else none)))) : Option R12) = some true := by
    by_cases hn : ps.length = 0
    · rw [show ((ps.length : Int) == 0) = true by simp [hn], cond_true, works_eq]
      rfl
    · have hb0 := Int.emod_nonneg b (show (ps.length : Int) ≠ 0 by omega)
      have hb1 := Int.emod_lt_of_pos b (show (0 : Int) < ps.length by omega)
      obtain ⟨i, hi⟩ : ∃ i : Nat, b % (ps.length : Int) = i := ⟨(b % (ps.length : Int)).toNat, by omega⟩
      have hil : i < ps.length := by omega
      have hpi := hj.ok _ (List.getElem_mem hil)
      have htm : Int.tmod (wr .i64 b) (ps.length : Int) = (i : Int) := by rw [wr_ok (by omega) (by omega), tmod_mod hb.1, hi]
      rw [beq_false_of_ne (show (ps.length : Int) ≠ 0 by omega), cond_false, cond_false, htm, idx_nat hil, Option.bind_some]
      by_cases e : ps[i] = 1
      · rw [show (ps[i] == 1) = true by simpa using e, cond_true, works_eq]
        rfl
      · have hc0 := Int.emod_nonneg c (show ps[i] - 1 ≠ 0 by omega)
        have hc1 := Int.emod_lt_of_pos c (show 0 < ps[i] - 1 by omega)
        have hcut : wr .i64 (1 + Int.tmod (wr .i64 c) (wr .i64 (ps[i] - 1))) = 1 + c % (ps[i] - 1) := by
          rw [wr_ok (x := c) (by omega) (by omega), wr_ok (x := ps[i] - 1) (by omega) (by omega), tmod_mod hc.1, wr_ok (by omega) (by omega)]
        obtain ⟨g1, g2⟩ := fw_cut hj h7 hil (x := 1 + c % (ps[i] - 1)) (by omega)
        rw [beq_false_of_ne e, cond_false, Option.bind_some, wr_ok (x := ps[i] - 1) (by omega) (by omega), beq_false_of_ne (show ps[i] - 1 ≠ 0 by omega), cond_false, Option.bind_some, lim_dec (by omega), cond_true]
        rw [wr_ok (x := ps[i] - 1) (by omega) (by omega)] at hcut
        rw [hcut, wr_ok (x := ps[i] - (1 + c % (ps[i] - 1))) (by omega) (by omega)]
        have hin : i < (ps ++ [ps[i] - (1 + c % (ps[i] - 1))]).length := by simp; omega
        rw [inB_nat hin, cond_true, idx_nat hin, Option.bind_some, Int.toNat_natCast, Fewest_eq, Option.bind_some, fwS_eq g1]
        simp only [beq_self_eq_true, cond_true, Option.bind_some]
        rw [decide_eq_true (by omega)]
        simp only [beq_self_eq_true, cond_true, Option.bind_some, works_eq]
  by_cases e24 : sz < 24
  · obtain ⟨g1, g2⟩ := fw_size hj e24
    rw [decide_eq_true e24, cond_true, wr_ok (x := sz + 1) (by omega) (by omega), Fewest_eq, Option.bind_some, fwS_eq g1]
    simp only [bne_self_eq_false, beq_self_eq_true, cond_true, Option.bind_some]
    rw [decide_eq_false (show ¬ ((fw (sz + 1) ps : Nat) : Int) > (fw sz ps : Nat) by omega), cond_false]
    exact rest
  · rw [decide_eq_false e24, cond_false]
    exact rest
end Go.Proofs.YtgmonagekfjnmaaDoor
