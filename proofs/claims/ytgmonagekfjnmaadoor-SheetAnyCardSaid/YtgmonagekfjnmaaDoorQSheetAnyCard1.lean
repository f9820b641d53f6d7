/- Texts of this claim, joined: G100 to Ss. -/
import Derived.KernelRfl
import Derived.Test.YtgmonagekfjnmaaDoorProg
import Derived.WalkKit
import Derived.Test.YtgmonagekfjnmaaDoorP6
set_option linter.unusedVariables false
set_option linter.unusedSimpArgs false
set_option maxRecDepth 100000
namespace Go.Proofs.YtgmonagekfjnmaaDoor
open Go.Vi
abbrev R100 := Bool
noncomputable def c100 : Code := bodyOf Tryd.f100
noncomputable def an100 : Ann := (.s .l (.s (.s .l (.j [] (.j [0, 3] (.s (.s .l (.j [0, 3] .l .l)) (.s (.j [0, 3] (.s .l (.j [0, 3] .l .l)) .l) .l)) .l) .l)) .l))
def pk100 : List PK := [.c (.int .i64)]
def rk100 : List RK := [.c .bool 2]
noncomputable def rt100 (st : St) : Option R100 := rtG rk100 st
noncomputable def E100 (n : Nat × Nat) : Env := { T := tab, phi := noPhi, eff := fun _ => false, fuel := n.1, hold := n.2 }
noncomputable def kq100_1 (n : Nat × Nat) : St → Option R100 := run (E100 n) (cB (cB c100)) (Ann.snd (Ann.snd an100)) rt100 (fun _ _ => none) rt100
noncomputable def xb100_3 (n : Nat × Nat) : Nat → St → Option R100 := fun j s => bif Nat.beq j 0 then normC [] s (kq100_1 n) else (fun _ _ => none) j s
noncomputable def F100_4 (n : Nat × Nat) : (St → Option R100) → St → Option R100 := fun K s => run (E100 n) (cA (cA (cB (cA (cB c100))))) (Ann.fst (Ann.fst (Ann.snd (Ann.fst (Ann.snd an100))))) (fun s => normC [0, 3] s K) (xb100_3 n) rt100 s
noncomputable def L100_1 (n : Nat × Nat) (m : Nat) (v0 : Int) (d3 : Int) : Option R100 := loopN (F100_4 n) m { tm := [.c (.int .i64 v0), uu, uu, .c (.int .i64 d3), uu, uu, uu, uu, uu, uu, uu, uu, uu], hp := emp }
theorem L100_1_eq (n : Nat × Nat) (m1 : Nat) (v0 : Int) (d3 : Int) : L100_1 n (m1 + 1) v0 d3 =
 (bif decide (d3 < v0) then (bif d3 == 0 then none
 else (bif ((Int.tmod v0 d3) == 0) then some false
 else L100_1 n m1 v0 (wr .i64 (d3 + 1))))
 else some true) := by kernel_rfl
noncomputable def S100 (n : Nat × Nat) (v0 : Int) : Option R100 := run (E100 n) c100 an100 rt100 (fun _ _ => none) rt100 { tm := [.c (.int .i64 v0), uu, uu, uu, uu, uu, uu, uu, uu, uu, uu, uu, uu], hp := emp }
theorem S100_eq (n : Nat × Nat) (v0 : Int) : S100 n v0 =
    L100_1 n n.1 v0 2 := by kernel_rfl
theorem S100_run (n : Nat × Nat) (xs : pksDen pk100) : S100 n xs.1 = runG (E100 n) noScope c100 an100 (rtG rk100) (fun _ _ => none) (rtG rk100) (st0 pk100 xs Tryd.f100.ntmps) := by kernel_rfl
noncomputable def P100 (n : Nat × Nat) := phiOf pk100 rk100 (fun xs => S100 n xs.1)
theorem call100 : CallOK Tryd.prog 100 := callOK_of Tryd.func100 (by kernel_rfl) (by kernel_rfl)
theorem env100 (n : Nat × Nat) : EnvOK Tryd.prog (E100 n) := envOK0 noPhi_ok rfl rfl
theorem par100 (n : Nat × Nat) : EnvPar (E100 n) := envPar0 noPhi_par rfl
theorem FC100 (n : Nat × Nat) : FCs Tryd.prog 100 (P100 n) := phiOf_FCs fun xs r h vs hv => FC.of_runG tabOK eqsOK (env100 n) (par100 n) mixed (fun _ p _ => noScope_ok p.1 p.2) Tryd.func100 (c := c100) (an := an100) (pks := pk100) (rks := rk100) (by kernel_rfl) (by kernel_rfl) hv ((S100_run n xs).symm.trans h)
abbrev R89 := List Int
noncomputable def c89 : Code := bodyOf Tryd.f89
noncomputable def an89 : Ann := (.s .l (.s .l (.s (.s .l (.j [5] (.j [1, 5, 6, 37, 38] (.s (.s .l (.j [1, 5, 6, 37, 38] .l .l)) (.s (.j [1, 5, 6, 37, 38] (.s .l (.s (.j [1, 5, 6, 7, 37, 38] (.j [1, 5, 6, 7, 37, 38] (.s (.s .l (.j [1, 5, 6, 7, 37, 38] .l .l)) (.j [1, 5, 6, 7, 37, 38] .l .l)) .l) .l) (.s (.s .l (.j [1, 5, 6, 7, 37, 38] (.s .l (.j [1, 5, 6, 7, 37, 38] (.j [1, 5, 6, 7, 8, 37, 38] (.s (.s .l (.j [1, 5, 6, 7, 8, 37, 38] .l .l)) (.j [] (.j [1, 5, 6, 7, 8, 37, 38] (.s .l (.j [1, 5, 6, 7, 8, 37, 38] .l .l)) .l) .l)) .l) .l)) .l)) .l))) .l) .l)) .l) .l)) .l)))
def pk89 : List PK := [.c (.int .i64), .c (.int .i64)]
def rk89 : List RK := [.own (.int .i64) 4]
noncomputable def rt89 (st : St) : Option R89 := rtG rk89 st
noncomputable def E89 (n : Nat × Nat) : Env := { T := tab, phi := (consPhi 100 (fun _ => true) (P100 n) noPhi), eff := fun _ => false, fuel := n.1, hold := n.2 }
noncomputable def kq89_1 (n : Nat × Nat) : St → Option R89 := run (E89 n) (cB (cB (cB c89))) (Ann.snd (Ann.snd (Ann.snd an89))) rt89 (fun _ _ => none) rt89
noncomputable def xb89_3 (n : Nat × Nat) : Nat → St → Option R89 := fun j s => bif Nat.beq j 0 then normC [5] s (kq89_1 n) else (fun _ _ => none) j s
noncomputable def F89_4 (n : Nat × Nat) : (St → Option R89) → St → Option R89 := fun K s => run (E89 n) (cA (cA (cB (cA (cB (cB c89)))))) (Ann.fst (Ann.fst (Ann.snd (Ann.fst (Ann.snd (Ann.snd an89)))))) (fun s => normC [1, 5, 6, 37, 38] s K) (xb89_3 n) rt89 s
noncomputable def kq89_7 (n : Nat × Nat) (m1 : Nat) : St → Option R89 := run (E89 n) (cB (cB (cA (cA (cB (cA (cB (cB c89)))))))) (Ann.snd (Ann.snd (Ann.fst (Ann.fst (Ann.snd (Ann.fst (Ann.snd (Ann.snd an89)))))))) (fun s => normC [1, 5, 6, 37, 38] s (loopN (F89_4 n) m1)) (xb89_3 n) rt89
noncomputable def kc89_8 (n : Nat × Nat) (m1 : Nat) : St → Option R89 := fun s => normC [1, 5, 6, 37, 38] s (kq89_7 n m1)
noncomputable def xb89_9 (n : Nat × Nat) (m1 : Nat) : Nat → St → Option R89 := fun j s => bif Nat.beq j 1 then normC [1, 5, 6, 37, 38] s (kq89_7 n m1) else (xb89_3 n) j s
noncomputable def kq89_10 (n : Nat × Nat) (m1 : Nat) : St → Option R89 := run (E89 n) (cB (cB (cA (cA (cB (cA (cA (cB (cA (cB (cB c89))))))))))) (Ann.snd (Ann.snd (Ann.fst (Ann.fst (Ann.snd (Ann.fst (Ann.fst (Ann.snd (Ann.fst (Ann.snd (Ann.snd an89))))))))))) (kc89_8 n m1) (xb89_9 n m1) rt89
noncomputable def xb89_12 (n : Nat × Nat) (m1 : Nat) : Nat → St → Option R89 := fun j s => bif Nat.beq j 2 then normC [1, 5, 6, 7, 37, 38] s (kq89_10 n m1) else (xb89_9 n m1) j s
noncomputable def F89_13 (n : Nat × Nat) (m1 : Nat) : (St → Option R89) → St → Option R89 := fun K s => run (E89 n) (cA (cA (cA (cB (cA (cA (cB (cA (cA (cB (cA (cB (cB c89))))))))))))) (Ann.fst (Ann.fst (Ann.fst (Ann.snd (Ann.fst (Ann.fst (Ann.snd (Ann.fst (Ann.fst (Ann.snd (Ann.fst (Ann.snd (Ann.snd an89))))))))))))) (fun s => normC [1, 5, 6, 7, 37, 38] s K) (xb89_12 n m1) rt89 s
noncomputable def kq89_18 (n : Nat × Nat) (m1 : Nat) : St → Option R89 := run (E89 n) (cB (cB (cB (cA (cA (cB (cA (cA (cB (cA (cB (cB c89)))))))))))) (Ann.snd (Ann.snd (Ann.snd (Ann.fst (Ann.fst (Ann.snd (Ann.fst (Ann.fst (Ann.snd (Ann.fst (Ann.snd (Ann.snd an89)))))))))))) (kc89_8 n m1) (xb89_9 n m1) rt89
noncomputable def kc89_19 (n : Nat × Nat) (m1 : Nat) : St → Option R89 := fun s => normC [1, 5, 6, 7, 37, 38] s (kq89_18 n m1)
noncomputable def xb89_21 (n : Nat × Nat) (m1 : Nat) : Nat → St → Option R89 := fun j s => bif Nat.beq j 4 then normC [1, 5, 6, 7, 37, 38] s (kc89_19 n m1) else (xb89_9 n m1) j s
noncomputable def F89_22 (n : Nat × Nat) (m1 : Nat) : (St → Option R89) → St → Option R89 := fun K s => run (E89 n) (cA (cA (cB (cA (cB (cA (cB (cB (cA (cA (cB (cA (cA (cB (cA (cB (cB c89))))))))))))))))) (Ann.fst (Ann.fst (Ann.snd (Ann.fst (Ann.snd (Ann.fst (Ann.snd (Ann.snd (Ann.fst (Ann.fst (Ann.snd (Ann.fst (Ann.fst (Ann.snd (Ann.fst (Ann.snd (Ann.snd an89))))))))))))))))) (fun s => normC [1, 5, 6, 7, 8, 37, 38] s K) (xb89_21 n m1) rt89 s
noncomputable def kq89_25 (n : Nat × Nat) (m1 m2 : Nat) : St → Option R89 := run (E89 n) (cB (cB (cA (cA (cB (cA (cB (cA (cB (cB (cA (cA (cB (cA (cA (cB (cA (cB (cB c89))))))))))))))))))) (Ann.snd (Ann.snd (Ann.fst (Ann.fst (Ann.snd (Ann.fst (Ann.snd (Ann.fst (Ann.snd (Ann.snd (Ann.fst (Ann.fst (Ann.snd (Ann.fst (Ann.fst (Ann.snd (Ann.fst (Ann.snd (Ann.snd an89))))))))))))))))))) (fun s => normC [1, 5, 6, 7, 8, 37, 38] s (loopN (F89_22 n m1) m2)) (xb89_21 n m1) rt89
noncomputable def L89_1 (n : Nat × Nat) (m : Nat) (v1 : Int) (d6 : Int) (out5 : List Int) : Option R89 := loopN (F89_4 n) m { tm := [uu, .c (.int .i64 v1), uu, uu, uu, .own 5 none false, .c (.int .i64 d6), uu, uu, uu, uu, uu, uu, uu, uu, uu, uu, uu, uu, uu, uu, uu, uu, uu, uu, uu, uu, uu, uu, uu, uu, uu, uu, uu, uu, uu, uu, uu, uu, uu, uu, uu, uu, uu, uu, uu, uu, uu, uu], hp := (upd emp 5 (.arr (.int .i64) out5 false)) }
noncomputable def L89_2 (n : Nat × Nat) (m1 : Nat) (m : Nat) (v1 : Int) (d6 : Int) (p7 : Int) (out5 : List Int) : Option R89 := loopN (F89_13 n m1) m { tm := [uu, .c (.int .i64 v1), uu, uu, uu, .own 5 none false, .c (.int .i64 d6), .c (.int .i64 p7), uu, uu, uu, uu, uu, uu, uu, uu, uu, uu, uu, uu, uu, uu, uu, uu, uu, uu, uu, uu, uu, uu, uu, uu, uu, uu, uu, uu, uu, uu, uu, uu, uu, uu, uu, uu, uu, uu, uu, uu, uu], hp := (upd emp 5 (.arr (.int .i64) out5 false)) }
noncomputable def L89_3 (n : Nat × Nat) (m1 : Nat) (m : Nat) (v1 : Int) (d6 : Int) (p7 : Int) (q8 : Int) (out5 : List Int) : Option R89 := loopN (F89_22 n m1) m { tm := [uu, .c (.int .i64 v1), uu, uu, uu, .own 5 none false, .c (.int .i64 d6), .c (.int .i64 p7), .c (.int .i64 q8), uu, uu, uu, uu, uu, uu, uu, uu, uu, uu, uu, uu, uu, uu, uu, uu, uu, uu, uu, uu, uu, uu, uu, uu, uu, uu, uu, uu, uu, uu, uu, uu, uu, uu, uu, uu, uu, uu, uu, uu], hp := (upd emp 5 (.arr (.int .i64) out5 false)) }
noncomputable def L89_4 (n : Nat × Nat) (m1 m2 : Nat) (v1 : Int) (d6 : Int) (p7 : Int) (q8 : Int) (out5 : List Int) : Option R89 := loopN (fun _ => (kq89_25 n m1 m2)) n.2 { tm := [uu, .c (.int .i64 v1), uu, uu, uu, .own 5 none false, .c (.int .i64 d6), .c (.int .i64 p7), .c (.int .i64 q8), uu, uu, uu, uu, uu, uu, uu, uu, uu, uu, uu, uu, uu, uu, uu, uu, uu, uu, uu, uu, uu, uu, uu, uu, uu, uu, uu, uu, uu, uu, uu, uu, uu, uu, uu, uu, uu, uu, uu, uu], hp := (upd emp 5 (.arr (.int .i64) out5 false)) }
theorem L89_1_eq (n : Nat × Nat) (m1 : Nat) (v1 : Int) (d6 : Int) (out5 : List Int) : L89_1 n (m1 + 1) v1 d6 out5 =
 (bif decide (d6 > 1) then L89_2 n m1 n.1 v1 d6 2 out5
 else some out5) := by kernel_rfl
theorem L89_2_eq (n : Nat × Nat) (m1 m2 : Nat) (v1 : Int) (d6 : Int) (p7 : Int) (out5 : List Int) : L89_2 n m1 (m2 + 1) v1 d6 p7 out5 =
 (bif p7 == 0 then none
 else (bif ((Int.tmod d6 p7) != 0) then L89_2 n m1 m2 v1 d6 (wr .i64 (p7 + 1)) out5
 else (bif 2 == 0 then none
 else (bif ((Int.tmod v1 2) == 1) then L89_3 n m1 n.1 v1 d6 p7 p7 out5
 else (bif p7 == 0 then none
 else (bif decide (out5.length + [wr .i64 (Int.tdiv d6 p7)].length ≤ lim) then (bif 2 == 0 then none
 else L89_1 n m1 (wr .i64 (Int.tdiv v1 2)) (wr .i64 (Int.tdiv d6 p7)) (out5 ++ [wr .i64 (Int.tdiv d6 p7)]))
 else none)))))) := by kernel_rfl
theorem L89_3_eq (n : Nat × Nat) (m1 m2 : Nat) (v1 : Int) (d6 : Int) (p7 : Int) (q8 : Int) (out5 : List Int) : L89_3 n m1 (m2 + 1) v1 d6 p7 q8 out5 =
 (bif decide (q8 ≤ d6) then (bif q8 == 0 then none
 else ((bif (((Int.tmod d6 q8) == 0) == true) then (S100 n q8).bind fun r1' =>
 some r1'
 else some false)).bind fun b2' =>
 (bif b2' then L89_4 n m1 m2 v1 d6 q8 q8 out5
 else L89_4 n m1 m2 v1 d6 p7 q8 out5))
 else (bif p7 == 0 then none
 else (bif decide (out5.length + [wr .i64 (Int.tdiv d6 p7)].length ≤ lim) then (bif 2 == 0 then none
 else L89_1 n m1 (wr .i64 (Int.tdiv v1 2)) (wr .i64 (Int.tdiv d6 p7)) (out5 ++ [wr .i64 (Int.tdiv d6 p7)]))
 else none))) := by kernel_rfl
theorem L89_4_raw (n : Nat × Nat) (m1 m2 : Nat) (v1 : Int) (d6 : Int) (p7 : Int) (q8 : Int) (out5 : List Int) : (kq89_25 n m1 m2) { tm := [uu, .c (.int .i64 v1), uu, uu, uu, .own 5 none false, .c (.int .i64 d6), .c (.int .i64 p7), .c (.int .i64 q8), uu, uu, uu, uu, uu, uu, uu, uu, uu, uu, uu, uu, uu, uu, uu, uu, uu, uu, uu, uu, uu, uu, uu, uu, uu, uu, uu, uu, uu, uu, uu, uu, uu, uu, uu, uu, uu, uu, uu, uu], hp := (upd emp 5 (.arr (.int .i64) out5 false)) } =
    L89_3 n m1 m2 v1 d6 p7 (wr .i64 (q8 + 1)) out5 := by kernel_rfl
noncomputable def S89 (n : Nat × Nat) (size0 : Int) (v1 : Int) : Option R89 := run (E89 n) c89 an89 rt89 (fun _ _ => none) rt89 { tm := [.c (.int .i64 size0), .c (.int .i64 v1), uu, uu, uu, uu, uu, uu, uu, uu, uu, uu, uu, uu, uu, uu, uu, uu, uu, uu, uu, uu, uu, uu, uu, uu, uu, uu, uu, uu, uu, uu, uu, uu, uu, uu, uu, uu, uu, uu, uu, uu, uu, uu, uu, uu, uu, uu, uu], hp := emp }
theorem S89_eq (n : Nat × Nat) (size0 : Int) (v1 : Int) : S89 n size0 v1 =
    L89_1 n n.1 v1 size0 [size0] := by kernel_rfl
theorem S89_run (n : Nat × Nat) (xs : pksDen pk89) : S89 n xs.1 xs.2.1 = runG (E89 n) noScope c89 an89 (rtG rk89) (fun _ _ => none) (rtG rk89) (st0 pk89 xs Tryd.f89.ntmps) := by kernel_rfl
noncomputable def P89 (n : Nat × Nat) := phiOf pk89 rk89 (fun xs => S89 n xs.1 xs.2.1)
theorem call89 : CallOK Tryd.prog 89 := callOK_of Tryd.func89 (by kernel_rfl) (by kernel_rfl)
theorem env89 (n : Nat × Nat) : EnvOK Tryd.prog (E89 n) := envOK0 (consPhi_ok (FC100 n) call100 noPhi_ok) rfl rfl
theorem par89 (n : Nat × Nat) : EnvPar (E89 n) := envPar0 (consPhi_par phiOf_Par1 noPhi_par) rfl
theorem FC89 (n : Nat × Nat) : FCs Tryd.prog 89 (P89 n) := phiOf_FCs fun xs r h vs hv => FC.of_runG tabOK eqsOK (env89 n) (par89 n) mixed (fun _ p _ => noScope_ok p.1 p.2) Tryd.func89 (c := c89) (an := an89) (pks := pk89) (rks := rk89) (by kernel_rfl) (by kernel_rfl) hv ((S89_run n xs).symm.trans h)
/- (headword/headwordlaw09.Strip).made -/
abbrev R48 := Int × List Int
noncomputable def c48 : Code := bodyOf Tryd.f48
noncomputable def an48 : Ann := (.s .l (.s .l (.s .l (.s (.s .l (.j [1, 2, 6, 7] .l (.s .l (.j [1, 2, 6, 7] (.j [1, 2, 6, 7, 27, 28] (.s .l (.s (.j [1, 2, 6, 7, 27, 28] .l .l) (.s (.j [1, 2, 6, 7, 27, 28] .l .l) .l))) .l) .l)))) (.s .l (.s (.s .l (.j [6, 9] (.j [6, 7, 9, 44, 45, 46] (.s .l (.s (.j [6, 7, 9, 44, 45, 46] .l .l) (.s (.j [6, 7, 9, 44, 45, 46] .l .l) .l))) .l) .l)) .l))))))
def pk48 : List PK := [.c (.pair (.int .u8) (.pair (.int .u8) (.pair (.int .u8) (.pair (.int .u8) (.pair (.int .u8) (.pair (.int .u8) (.pair (.int .u8) (.pair (.int .u8) (.pair (.int .u8) (.pair (.int .u8) (.int .u8))))))))))), .c (.int .i64)]
def rk48 : List RK := [.c (.int .i64) 4, .sl (.int .i64) 5]
noncomputable def rt48 (st : St) : Option R48 := rtG rk48 st
noncomputable def E48 (n : Nat × Nat) : Env := { T := tab, phi := (consPhi 89 (fun _ => true) (P89 n) noPhi), eff := fun _ => false, fuel := n.1, hold := n.2 }
noncomputable def kq48_1 (n : Nat × Nat) : St → Option R48 := run (E48 n) (cB (cB (cB (cB c48)))) (Ann.snd (Ann.snd (Ann.snd (Ann.snd an48)))) rt48 (fun _ _ => none) rt48
noncomputable def kc48_2 (n : Nat × Nat) : St → Option R48 := fun s => normC [1, 2, 6, 7] s (kq48_1 n)
noncomputable def kq48_3 (n : Nat × Nat) : St → Option R48 := run (E48 n) (cB (cB (cB (cB (cB (cB c48)))))) (Ann.snd (Ann.snd (Ann.snd (Ann.snd (Ann.snd (Ann.snd an48)))))) rt48 (fun _ _ => none) rt48
noncomputable def xb48_5 (n : Nat × Nat) : Nat → St → Option R48 := fun j s => bif Nat.beq j 2 then normC [6, 9] s (kq48_3 n) else (fun _ _ => none) j s
noncomputable def F48_6 (n : Nat × Nat) : (St → Option R48) → St → Option R48 := fun K s => run (E48 n) (cA (cA (cB (cA (cB (cB (cB (cB (cB c48))))))))) (Ann.fst (Ann.fst (Ann.snd (Ann.fst (Ann.snd (Ann.snd (Ann.snd (Ann.snd (Ann.snd an48))))))))) (fun s => normC [6, 7, 9, 44, 45, 46] s K) (xb48_5 n) rt48 s
noncomputable def xb48_8 (n : Nat × Nat) : Nat → St → Option R48 := fun j s => bif Nat.beq j 0 then normC [1, 2, 6, 7] s (kc48_2 n) else (fun _ _ => none) j s
noncomputable def F48_9 (n : Nat × Nat) : (St → Option R48) → St → Option R48 := fun K s => run (E48 n) (cA (cA (cB (cB (cB (cA (cB (cB (cB c48))))))))) (Ann.fst (Ann.fst (Ann.snd (Ann.snd (Ann.snd (Ann.fst (Ann.snd (Ann.snd (Ann.snd an48))))))))) (fun s => normC [1, 2, 6, 7, 27, 28] s K) (xb48_8 n) rt48 s
noncomputable def L48_1 (n : Nat × Nat) (m : Nat) (size6 : Int) (v44 : List Int) (v45 : Int) (v46 : Int) (lengths7 : List Int) (out9 : List Int) : Option R48 := loopN (F48_6 n) m { tm := [uu, uu, uu, uu, uu, uu, .c (.int .i64 size6), .own 7 none false, uu, .own 9 none false, uu, uu, uu, uu, uu, uu, uu, uu, uu, uu, uu, uu, uu, uu, uu, uu, uu, uu, uu, uu, uu, uu, uu, uu, uu, uu, uu, uu, uu, uu, uu, uu, uu, uu, .c (.sl (.int .u8) v44 false), .c (.int .i64 v45), .c (.int .i64 v46), uu, uu, uu, uu, uu, uu, uu, uu, uu, uu, uu, uu, uu, uu, uu, uu, uu], hp := (upd (upd emp 9 (.arr (.int .i64) out9 false)) 7 (.arr (.int .i64) lengths7 false)) }
noncomputable def L48_2 (n : Nat × Nat) (m : Nat) (most1 : Int) (size6 : Int) (v27 : Int) (v28 : Int) (s2_0 : Int) (s2_1 : Int) (s2_2 : Int) (s2_3 : Int) (s2_4 : Int) (s2_5 : Int) (s2_6 : Int) (s2_7 : Int) (s2_8 : Int) (s2_9 : Int) (s2_10 : Int) (lengths7 : List Int) : Option R48 := loopN (F48_9 n) m { tm := [uu, .c (.int .i64 most1), .ptr 2 0, uu, uu, uu, .c (.int .i64 size6), .own 7 none false, uu, uu, uu, uu, uu, uu, uu, uu, uu, uu, uu, uu, uu, uu, uu, uu, uu, uu, uu, .c (.int .i64 v27), .c (.int .i64 v28), uu, uu, uu, uu, uu, uu, uu, uu, uu, uu, uu, uu, uu, uu, uu, uu, uu, uu, uu, uu, uu, uu, uu, uu, uu, uu, uu, uu, uu, uu, uu, uu, uu, uu, uu], hp := (upd (upd emp 7 (.arr (.int .i64) lengths7 false)) 2 (.box [.int .u8 s2_0, .int .u8 s2_1, .int .u8 s2_2, .int .u8 s2_3, .int .u8 s2_4, .int .u8 s2_5, .int .u8 s2_6, .int .u8 s2_7, .int .u8 s2_8, .int .u8 s2_9, .int .u8 s2_10])) }
theorem L48_1_eq (n : Nat × Nat) (m1 : Nat) (size6 : Int) (v44 : List Int) (v45 : Int) (v46 : Int) (lengths7 : List Int) (out9 : List Int) : L48_1 n (m1 + 1) size6 v44 v45 v46 lengths7 out9 =
 (bif decide (v46 < v45) then (idx v44 v46).bind fun x2' =>
 (bif (lengths7.length : Int) == 0 then none
 else (bif inB (Int.tmod (wr .i64 x2') (lengths7.length : Int)) lengths7.length then (idx lengths7 (Int.tmod (wr .i64 x2') (lengths7.length : Int))).bind fun x3' =>
 (bif decide (out9.length + [x3'].length ≤ lim) then L48_1 n m1 size6 v44 v45 (wr .i64 (v46 + 1)) lengths7 (out9 ++ [x3'])
 else none)
 else none))
 else some (size6, out9)) := by kernel_rfl
theorem L48_2_eq (n : Nat × Nat) (m1 : Nat) (most1 : Int) (size6 : Int) (v27 : Int) (v28 : Int) (s2_0 : Int) (s2_1 : Int) (s2_2 : Int) (s2_3 : Int) (s2_4 : Int) (s2_5 : Int) (s2_6 : Int) (s2_7 : Int) (s2_8 : Int) (s2_9 : Int) (s2_10 : Int) (lengths7 : List Int) : L48_2 n (m1 + 1) most1 size6 v27 v28 s2_0 s2_1 s2_2 s2_3 s2_4 s2_5 s2_6 s2_7 s2_8 s2_9 s2_10 lengths7 =
 (bif decide (v28 < v27) then (bif decide (lengths7.length + [wr .i64 (v28 + 1)].length ≤ lim) then L48_2 n m1 most1 size6 v27 (wr .i64 (v28 + 1)) s2_0 s2_1 s2_2 s2_3 s2_4 s2_5 s2_6 s2_7 s2_8 s2_9 s2_10 (lengths7 ++ [wr .i64 (v28 + 1)])
 else none)
 else (bif (wr .i64 (most1 + 1)) == 0 then none
 else (bif bounds none (some (Int.tmod (wr .i64 s2_1) (wr .i64 (most1 + 1)))) none 8 then L48_1 n n.1 size6 ([s2_3, s2_4, s2_5, s2_6, s2_7, s2_8, s2_9, s2_10].take (Int.toNat (Int.tmod (wr .i64 s2_1) (wr .i64 (most1 + 1))))) (([s2_3, s2_4, s2_5, s2_6, s2_7, s2_8, s2_9, s2_10].take (Int.toNat (Int.tmod (wr .i64 s2_1) (wr .i64 (most1 + 1))))).length : Int) 0 lengths7 []
 else none))) := by kernel_rfl
noncomputable def S48 (n : Nat × Nat) (s0 : Int × Int × Int × Int × Int × Int × Int × Int × Int × Int × Int) (most1 : Int) : Option R48 := run (E48 n) c48 an48 rt48 (fun _ _ => none) rt48 { tm := [.agg [.int .u8 s0.1, .int .u8 s0.2.1, .int .u8 s0.2.2.1, .int .u8 s0.2.2.2.1, .int .u8 s0.2.2.2.2.1, .int .u8 s0.2.2.2.2.2.1, .int .u8 s0.2.2.2.2.2.2.1, .int .u8 s0.2.2.2.2.2.2.2.1, .int .u8 s0.2.2.2.2.2.2.2.2.1, .int .u8 s0.2.2.2.2.2.2.2.2.2.1, .int .u8 s0.2.2.2.2.2.2.2.2.2.2], .c (.int .i64 most1), uu, uu, uu, uu, uu, uu, uu, uu, uu, uu, uu, uu, uu, uu, uu, uu, uu, uu, uu, uu, uu, uu, uu, uu, uu, uu, uu, uu, uu, uu, uu, uu, uu, uu, uu, uu, uu, uu, uu, uu, uu, uu, uu, uu, uu, uu, uu, uu, uu, uu, uu, uu, uu, uu, uu, uu, uu, uu, uu, uu, uu, uu], hp := emp }
theorem S48_eq (n : Nat × Nat) (s0 : Int × Int × Int × Int × Int × Int × Int × Int × Int × Int × Int) (most1 : Int) : S48 n s0 most1 =
 (bif 24 == 0 then none
 else (bif 2 == 0 then none
 else (bif ((Int.tmod s0.2.2.1 2) == 1) then (bif 2 == 0 then none
 else (S89 n (wr .i64 (1 + (Int.tmod (wr .i64 s0.1) 24))) (wr .i64 (Int.tdiv (wr .i64 s0.2.2.1) 2))).bind fun r1' =>
 (bif (wr .i64 (most1 + 1)) == 0 then none
 else (bif bounds none (some (Int.tmod (wr .i64 s0.2.1) (wr .i64 (most1 + 1)))) none 8 then L48_1 n n.1 (wr .i64 (1 + (Int.tmod (wr .i64 s0.1) 24))) ([s0.2.2.2.1, s0.2.2.2.2.1, s0.2.2.2.2.2.1, s0.2.2.2.2.2.2.1, s0.2.2.2.2.2.2.2.1, s0.2.2.2.2.2.2.2.2.1, s0.2.2.2.2.2.2.2.2.2.1, s0.2.2.2.2.2.2.2.2.2.2].take (Int.toNat (Int.tmod (wr .i64 s0.2.1) (wr .i64 (most1 + 1))))) (([s0.2.2.2.1, s0.2.2.2.2.1, s0.2.2.2.2.2.1, s0.2.2.2.2.2.2.1, s0.2.2.2.2.2.2.2.1, s0.2.2.2.2.2.2.2.2.1, s0.2.2.2.2.2.2.2.2.2.1, s0.2.2.2.2.2.2.2.2.2.2].take (Int.toNat (Int.tmod (wr .i64 s0.2.1) (wr .i64 (most1 + 1))))).length : Int) 0 r1' []
 else none)))
 else L48_2 n n.1 most1 (wr .i64 (1 + (Int.tmod (wr .i64 s0.1) 24))) (wr .i64 (1 + (Int.tmod (wr .i64 s0.1) 24))) 0 s0.1 s0.2.1 s0.2.2.1 s0.2.2.2.1 s0.2.2.2.2.1 s0.2.2.2.2.2.1 s0.2.2.2.2.2.2.1 s0.2.2.2.2.2.2.2.1 s0.2.2.2.2.2.2.2.2.1 s0.2.2.2.2.2.2.2.2.2.1 s0.2.2.2.2.2.2.2.2.2.2 []))) := by kernel_rfl
theorem S48_run (n : Nat × Nat) (xs : pksDen pk48) : S48 n xs.1 xs.2.1 = runG (E48 n) noScope c48 an48 (rtG rk48) (fun _ _ => none) (rtG rk48) (st0 pk48 xs Tryd.f48.ntmps) := by kernel_rfl
noncomputable def P48 (n : Nat × Nat) := phiOf pk48 rk48 (fun xs => S48 n xs.1 xs.2.1)
theorem call48 : CallOK Tryd.prog 48 := callOK_of Tryd.func48 (by kernel_rfl) (by kernel_rfl)
theorem env48 (n : Nat × Nat) : EnvOK Tryd.prog (E48 n) := envOK0 (consPhi_ok (FC89 n) call89 noPhi_ok) rfl rfl
theorem par48 (n : Nat × Nat) : EnvPar (E48 n) := envPar0 (consPhi_par phiOf_Par1 noPhi_par) rfl
theorem FC48 (n : Nat × Nat) : FCs Tryd.prog 48 (P48 n) := phiOf_FCs fun xs r h vs hv => FC.of_runG tabOK eqsOK (env48 n) (par48 n) mixed (fun _ p _ => noScope_ok p.1 p.2) Tryd.func48 (c := c48) (an := an48) (pks := pk48) (rks := rk48) (by kernel_rfl) (by kernel_rfl) hv ((S48_run n xs).symm.trans h)
abbrev R50 := List Int
noncomputable def c50 : Code := bodyOf Tryd.f50
noncomputable def an50 : Ann := (.s .l (.s .l (.s (.s .l (.j [3] (.j [0, 3, 4] (.s (.s .l (.j [0, 3, 4] .l .l)) (.s (.j [0, 3, 4] (.s .l (.j [0, 3, 4] (.j [0, 3, 4, 11, 12, 13] (.s .l (.s (.j [0, 3, 4, 11, 12, 13] .l .l) (.j [] (.j [0, 3, 4, 11, 12, 13] (.s .l (.s .l (.j [0, 3, 4, 11, 12, 13] .l .l))) .l) .l))) .l) .l)) .l) .l)) .l) .l)) .l)))
def pk50 : List PK := [.c (.sl (.int .i64))]
def rk50 : List RK := [.own (.int .i64) 2]
noncomputable def rt50 (st : St) : Option R50 := rtG rk50 st
noncomputable def E50 (n : Nat × Nat) : Env := { T := tab, phi := noPhi, eff := fun _ => false, fuel := n.1, hold := n.2 }
noncomputable def kq50_1 (n : Nat × Nat) : St → Option R50 := run (E50 n) (cB (cB (cB c50))) (Ann.snd (Ann.snd (Ann.snd an50))) rt50 (fun _ _ => none) rt50
noncomputable def xb50_3 (n : Nat × Nat) : Nat → St → Option R50 := fun j s => bif Nat.beq j 0 then normC [3] s (kq50_1 n) else (fun _ _ => none) j s
noncomputable def F50_4 (n : Nat × Nat) : (St → Option R50) → St → Option R50 := fun K s => run (E50 n) (cA (cA (cB (cA (cB (cB c50)))))) (Ann.fst (Ann.fst (Ann.snd (Ann.fst (Ann.snd (Ann.snd an50)))))) (fun s => normC [0, 3, 4] s K) (xb50_3 n) rt50 s
noncomputable def kq50_7 (n : Nat × Nat) (m1 : Nat) : St → Option R50 := run (E50 n) (cB (cB (cA (cA (cB (cA (cB (cB c50)))))))) (Ann.snd (Ann.snd (Ann.fst (Ann.fst (Ann.snd (Ann.fst (Ann.snd (Ann.snd an50)))))))) (fun s => normC [0, 3, 4] s (loopN (F50_4 n) m1)) (xb50_3 n) rt50
noncomputable def kc50_8 (n : Nat × Nat) (m1 : Nat) : St → Option R50 := fun s => normC [0, 3, 4] s (kq50_7 n m1)
noncomputable def xb50_9 (n : Nat × Nat) (m1 : Nat) : Nat → St → Option R50 := fun j s => bif Nat.beq j 1 then normC [0, 3, 4] s (kq50_7 n m1) else (xb50_3 n) j s
noncomputable def xb50_11 (n : Nat × Nat) (m1 : Nat) : Nat → St → Option R50 := fun j s => bif Nat.beq j 2 then normC [0, 3, 4] s (kc50_8 n m1) else (xb50_9 n m1) j s
noncomputable def F50_12 (n : Nat × Nat) (m1 : Nat) : (St → Option R50) → St → Option R50 := fun K s => run (E50 n) (cA (cA (cB (cA (cA (cB (cA (cA (cB (cA (cB (cB c50)))))))))))) (Ann.fst (Ann.fst (Ann.snd (Ann.fst (Ann.fst (Ann.snd (Ann.fst (Ann.fst (Ann.snd (Ann.fst (Ann.snd (Ann.snd an50)))))))))))) (fun s => normC [0, 3, 4, 11, 12, 13] s K) (xb50_11 n m1) rt50 s
noncomputable def kq50_15 (n : Nat × Nat) (m1 m2 : Nat) : St → Option R50 := run (E50 n) (cB (cB (cB (cA (cA (cB (cA (cA (cB (cA (cA (cB (cA (cB (cB c50))))))))))))))) (Ann.snd (Ann.snd (Ann.snd (Ann.fst (Ann.fst (Ann.snd (Ann.fst (Ann.fst (Ann.snd (Ann.fst (Ann.fst (Ann.snd (Ann.fst (Ann.snd (Ann.snd an50))))))))))))))) (fun s => normC [0, 3, 4, 11, 12, 13] s (loopN (F50_12 n m1) m2)) (xb50_11 n m1) rt50
noncomputable def L50_1 (n : Nat × Nat) (m : Nat) (pieces0 : List Int) (length4 : Int) (out3 : List Int) : Option R50 := loopN (F50_4 n) m { tm := [.c (.sl (.int .i64) pieces0 false), uu, uu, .own 3 none false, .c (.int .i64 length4), uu, uu, uu, uu, uu, uu, uu, uu, uu, uu, uu, uu, uu, uu, uu, uu, uu, uu, uu, uu, uu, uu], hp := (upd emp 3 (.arr (.int .i64) out3 false)) }
noncomputable def L50_2 (n : Nat × Nat) (m1 : Nat) (m : Nat) (pieces0 : List Int) (length4 : Int) (v11 : List Int) (v12 : Int) (v13 : Int) (out3 : List Int) : Option R50 := loopN (F50_12 n m1) m { tm := [.c (.sl (.int .i64) pieces0 false), uu, uu, .own 3 none false, .c (.int .i64 length4), uu, uu, uu, uu, uu, uu, .c (.sl (.int .i64) v11 false), .c (.int .i64 v12), .c (.int .i64 v13), uu, uu, uu, uu, uu, uu, uu, uu, uu, uu, uu, uu, uu], hp := (upd emp 3 (.arr (.int .i64) out3 false)) }
noncomputable def L50_3 (n : Nat × Nat) (m1 m2 : Nat) (pieces0 : List Int) (length4 : Int) (v11 : List Int) (v12 : Int) (v13 : Int) (out3 : List Int) : Option R50 := loopN (fun _ => (kq50_15 n m1 m2)) n.2 { tm := [.c (.sl (.int .i64) pieces0 false), uu, uu, .own 3 none false, .c (.int .i64 length4), uu, uu, uu, uu, uu, uu, .c (.sl (.int .i64) v11 false), .c (.int .i64 v12), .c (.int .i64 v13), uu, uu, uu, uu, uu, uu, uu, uu, uu, uu, uu, uu, uu], hp := (upd emp 3 (.arr (.int .i64) out3 false)) }
theorem L50_1_eq (n : Nat × Nat) (m1 : Nat) (pieces0 : List Int) (length4 : Int) (out3 : List Int) : L50_1 n (m1 + 1) pieces0 length4 out3 =
 (bif decide (length4 > 0) then L50_2 n m1 n.1 pieces0 length4 pieces0 (pieces0.length : Int) 0 out3
 else some out3) := by kernel_rfl
theorem L50_2_eq (n : Nat × Nat) (m1 m2 : Nat) (pieces0 : List Int) (length4 : Int) (v11 : List Int) (v12 : Int) (v13 : Int) (out3 : List Int) : L50_2 n m1 (m2 + 1) pieces0 length4 v11 v12 v13 out3 =
 (bif decide (v13 < v12) then (idx v11 v13).bind fun x1' =>
 (bif (x1' == length4) then (bif decide (out3.length + [v13].length ≤ lim) then L50_3 n m1 m2 pieces0 length4 v11 v12 v13 (out3 ++ [v13])
 else none)
 else L50_3 n m1 m2 pieces0 length4 v11 v12 v13 out3)
 else L50_1 n m1 pieces0 (wr .i64 (length4 - 1)) out3) := by kernel_rfl
theorem L50_3_raw (n : Nat × Nat) (m1 m2 : Nat) (pieces0 : List Int) (length4 : Int) (v11 : List Int) (v12 : Int) (v13 : Int) (out3 : List Int) : (kq50_15 n m1 m2) { tm := [.c (.sl (.int .i64) pieces0 false), uu, uu, .own 3 none false, .c (.int .i64 length4), uu, uu, uu, uu, uu, uu, .c (.sl (.int .i64) v11 false), .c (.int .i64 v12), .c (.int .i64 v13), uu, uu, uu, uu, uu, uu, uu, uu, uu, uu, uu, uu, uu], hp := (upd emp 3 (.arr (.int .i64) out3 false)) } =
    L50_2 n m1 m2 pieces0 length4 v11 v12 (wr .i64 (v13 + 1)) out3 := by kernel_rfl
noncomputable def S50 (n : Nat × Nat) (pieces0 : List Int) : Option R50 := run (E50 n) c50 an50 rt50 (fun _ _ => none) rt50 { tm := [.c (.sl (.int .i64) pieces0 false), uu, uu, uu, uu, uu, uu, uu, uu, uu, uu, uu, uu, uu, uu, uu, uu, uu, uu, uu, uu, uu, uu, uu, uu, uu, uu], hp := emp }
theorem S50_eq (n : Nat × Nat) (pieces0 : List Int) : S50 n pieces0 =
    L50_1 n n.1 pieces0 24 [] := by kernel_rfl
theorem S50_run (n : Nat × Nat) (xs : pksDen pk50) : S50 n xs.1 = runG (E50 n) noScope c50 an50 (rtG rk50) (fun _ _ => none) (rtG rk50) (st0 pk50 xs Tryd.f50.ntmps) := by kernel_rfl
noncomputable def P50 (n : Nat × Nat) := phiOf pk50 rk50 (fun xs => S50 n xs.1)
theorem call50 : CallOK Tryd.prog 50 := callOK_of Tryd.func50 (by kernel_rfl) (by kernel_rfl)
theorem env50 (n : Nat × Nat) : EnvOK Tryd.prog (E50 n) := envOK0 noPhi_ok rfl rfl
theorem par50 (n : Nat × Nat) : EnvPar (E50 n) := envPar0 noPhi_par rfl
theorem FC50 (n : Nat × Nat) : FCs Tryd.prog 50 (P50 n) := phiOf_FCs fun xs r h vs hv => FC.of_runG tabOK eqsOK (env50 n) (par50 n) mixed (fun _ p _ => noScope_ok p.1 p.2) Tryd.func50 (c := c50) (an := an50) (pks := pk50) (rks := rk50) (by kernel_rfl) (by kernel_rfl) hv ((S50_run n xs).symm.trans h)
abbrev R51 := List Int × List Int
noncomputable def c51 : Code := bodyOf Tryd.f51
noncomputable def an51 : Ann := (.s .l (.s .l (.s .l (.s (.s .l (.j [8, 9] (.j [0, 1, 8, 9, 22, 23, 24, 33, 34, 35, 36, 37, 38, 39, 40, 41] (.s .l (.s (.j [0, 1, 8, 9, 22, 23, 24, 33, 34, 35, 36, 37, 38, 39, 40, 41] .l .l) (.s (.j [0, 1, 8, 9, 22, 23, 24, 33, 34, 35, 36, 37, 38, 39, 40, 41] (.s .l (.s .l (.s (.j [0, 1, 8, 9, 11, 12, 22, 23, 24, 33, 34, 35, 36, 37, 38, 39, 40, 41] (.j [0, 1, 8, 9, 11, 12, 22, 23, 24, 33, 34, 35, 36, 37, 38, 39, 40, 41] (.s (.s .l (.j [0, 1, 8, 9, 11, 12, 22, 23, 24, 33, 34, 35, 36, 37, 38, 39, 40, 41] .l .l)) (.j [0, 1, 8, 9, 11, 12, 22, 23, 24, 33, 34, 35, 36, 37, 38, 39, 40, 41] .l .l)) .l) .l) (.s (.s .l (.j [0, 1, 8, 9, 11, 12, 22, 23, 24, 33, 34, 35, 36, 37, 38, 39, 40, 41] .l .l)) .l)))) .l) .l))) .l) .l)) (.s .l (.s .l (.s (.s .l (.j [9, 14] (.j [9, 13, 14, 69, 70, 71] (.s .l (.s (.j [9, 13, 14, 69, 70, 71] .l .l) (.s (.j [9, 13, 14, 69, 70, 71] (.s .l (.s (.s .l (.s .l (.j [9, 13, 14, 16, 69, 70, 71] .l .l))) .l)) .l) .l))) .l) .l)) .l)))))))
def pk51 : List PK := [.c (.int .i64), .c (.sl (.int .i64)), .c (.sl (.int .i64))]
def rk51 : List RK := [.own (.int .i64) 6, .own (.int .i64) 7]
noncomputable def rt51 (st : St) : Option R51 := rtG rk51 st
noncomputable def E51 (n : Nat × Nat) : Env := { T := tab, phi := noPhi, eff := fun _ => false, fuel := n.1, hold := n.2 }
noncomputable def kq51_1 (n : Nat × Nat) : St → Option R51 := run (E51 n) (cB (cB (cB (cB c51)))) (Ann.snd (Ann.snd (Ann.snd (Ann.snd an51)))) rt51 (fun _ _ => none) rt51
noncomputable def xb51_3 (n : Nat × Nat) : Nat → St → Option R51 := fun j s => bif Nat.beq j 0 then normC [8, 9] s (kq51_1 n) else (fun _ _ => none) j s
noncomputable def F51_4 (n : Nat × Nat) : (St → Option R51) → St → Option R51 := fun K s => run (E51 n) (cA (cA (cB (cA (cB (cB (cB c51))))))) (Ann.fst (Ann.fst (Ann.snd (Ann.fst (Ann.snd (Ann.snd (Ann.snd an51))))))) (fun s => normC [0, 1, 8, 9, 22, 23, 24, 33, 34, 35, 36, 37, 38, 39, 40, 41] s K) (xb51_3 n) rt51 s
noncomputable def kq51_7 (n : Nat × Nat) (m1 : Nat) : St → Option R51 := run (E51 n) (cB (cB (cB (cA (cA (cB (cA (cB (cB (cB c51)))))))))) (Ann.snd (Ann.snd (Ann.snd (Ann.fst (Ann.fst (Ann.snd (Ann.fst (Ann.snd (Ann.snd (Ann.snd an51)))))))))) (fun s => normC [0, 1, 8, 9, 22, 23, 24, 33, 34, 35, 36, 37, 38, 39, 40, 41] s (loopN (F51_4 n) m1)) (xb51_3 n) rt51
noncomputable def kc51_8 (n : Nat × Nat) (m1 : Nat) : St → Option R51 := fun s => normC [0, 1, 8, 9, 22, 23, 24, 33, 34, 35, 36, 37, 38, 39, 40, 41] s (kq51_7 n m1)
noncomputable def xb51_9 (n : Nat × Nat) (m1 : Nat) : Nat → St → Option R51 := fun j s => bif Nat.beq j 1 then normC [0, 1, 8, 9, 22, 23, 24, 33, 34, 35, 36, 37, 38, 39, 40, 41] s (kq51_7 n m1) else (xb51_3 n) j s
noncomputable def kq51_10 (n : Nat × Nat) (m1 : Nat) : St → Option R51 := run (E51 n) (cB (cB (cB (cA (cA (cB (cB (cA (cA (cB (cA (cB (cB (cB c51)))))))))))))) (Ann.snd (Ann.snd (Ann.snd (Ann.fst (Ann.fst (Ann.snd (Ann.snd (Ann.fst (Ann.fst (Ann.snd (Ann.fst (Ann.snd (Ann.snd (Ann.snd an51)))))))))))))) (kc51_8 n m1) (xb51_9 n m1) rt51
noncomputable def xb51_12 (n : Nat × Nat) (m1 : Nat) : Nat → St → Option R51 := fun j s => bif Nat.beq j 2 then normC [0, 1, 8, 9, 11, 12, 22, 23, 24, 33, 34, 35, 36, 37, 38, 39, 40, 41] s (kq51_10 n m1) else (xb51_9 n m1) j s
noncomputable def F51_13 (n : Nat × Nat) (m1 : Nat) : (St → Option R51) → St → Option R51 := fun K s => run (E51 n) (cA (cA (cA (cB (cB (cA (cA (cB (cB (cA (cA (cB (cA (cB (cB (cB c51)))))))))))))))) (Ann.fst (Ann.fst (Ann.fst (Ann.snd (Ann.snd (Ann.fst (Ann.fst (Ann.snd (Ann.snd (Ann.fst (Ann.fst (Ann.snd (Ann.fst (Ann.snd (Ann.snd (Ann.snd an51)))))))))))))))) (fun s => normC [0, 1, 8, 9, 11, 12, 22, 23, 24, 33, 34, 35, 36, 37, 38, 39, 40, 41] s K) (xb51_12 n m1) rt51 s
noncomputable def kq51_14 (n : Nat × Nat) : St → Option R51 := run (E51 n) (cB (cB (cB (cB (cB (cB (cB c51))))))) (Ann.snd (Ann.snd (Ann.snd (Ann.snd (Ann.snd (Ann.snd (Ann.snd an51))))))) rt51 (fun _ _ => none) rt51
noncomputable def xb51_16 (n : Nat × Nat) : Nat → St → Option R51 := fun j s => bif Nat.beq j 4 then normC [9, 14] s (kq51_14 n) else (fun _ _ => none) j s
noncomputable def F51_17 (n : Nat × Nat) : (St → Option R51) → St → Option R51 := fun K s => run (E51 n) (cA (cA (cB (cA (cB (cB (cB (cB (cB (cB c51)))))))))) (Ann.fst (Ann.fst (Ann.snd (Ann.fst (Ann.snd (Ann.snd (Ann.snd (Ann.snd (Ann.snd (Ann.snd an51)))))))))) (fun s => normC [9, 13, 14, 69, 70, 71] s K) (xb51_16 n) rt51 s
noncomputable def L51_1 (n : Nat × Nat) (m : Nat) (size0 : Int) (pieces1 : List Int) (v22 : List Int) (v23 : Int) (v24 : Int) (v8 : List Int) (left9 : List Int) : Option R51 := loopN (F51_4 n) m { tm := [.c (.int .i64 size0), .c (.sl (.int .i64) pieces1 false), uu, uu, uu, uu, uu, uu, .own 8 none false, .own 9 none false, uu, uu, uu, uu, uu, uu, uu, uu, uu, uu, uu, uu, .c (.sl (.int .i64) v22 false), .c (.int .i64 v23), .c (.int .i64 v24), uu, uu, uu, uu, uu, uu, uu, uu, uu, uu, uu, uu, uu, uu, uu, uu, uu, uu, uu, uu, uu, uu, uu, uu, uu, uu, uu, uu, uu, uu, uu, uu, uu, uu, uu, uu, uu, uu, uu, uu, uu, uu, uu, uu, uu, uu, uu, uu, uu, uu, uu, uu, uu, uu, uu, uu, uu, uu, uu, uu, uu, uu, uu, uu, uu, uu, uu, uu, uu, uu, uu], hp := (upd (upd emp 9 (.arr (.int .i64) left9 false)) 8 (.arr (.int .i64) v8 false)) }
noncomputable def L51_2 (n : Nat × Nat) (m1 : Nat) (m : Nat) (size0 : Int) (pieces1 : List Int) (i11 : Int) (s12 : Int) (v22 : List Int) (v23 : Int) (v24 : Int) (v8 : List Int) (left9 : List Int) : Option R51 := loopN (F51_13 n m1) m { tm := [.c (.int .i64 size0), .c (.sl (.int .i64) pieces1 false), uu, uu, uu, uu, uu, uu, .own 8 none false, .own 9 none false, uu, .c (.int .i64 i11), .c (.int .i64 s12), uu, uu, uu, uu, uu, uu, uu, uu, uu, .c (.sl (.int .i64) v22 false), .c (.int .i64 v23), .c (.int .i64 v24), uu, uu, uu, uu, uu, uu, uu, uu, uu, uu, uu, uu, uu, uu, uu, uu, uu, uu, uu, uu, uu, uu, uu, uu, uu, uu, uu, uu, uu, uu, uu, uu, uu, uu, uu, uu, uu, uu, uu, uu, uu, uu, uu, uu, uu, uu, uu, uu, uu, uu, uu, uu, uu, uu, uu, uu, uu, uu, uu, uu, uu, uu, uu, uu, uu, uu, uu, uu, uu, uu, uu], hp := (upd (upd emp 9 (.arr (.int .i64) left9 false)) 8 (.arr (.int .i64) v8 false)) }
noncomputable def L51_3 (n : Nat × Nat) (m : Nat) (v70 : Int) (v71 : Int) (left9 : List Int) (name13 : List (Int × Int)) (plan14 : List Int) (v69 : List Int) : Option R51 := loopN (F51_17 n) m { tm := [uu, uu, uu, uu, uu, uu, uu, uu, uu, .own 9 none false, uu, uu, uu, .map 13, .own 14 none false, uu, uu, uu, uu, uu, uu, uu, uu, uu, uu, uu, uu, uu, uu, uu, uu, uu, uu, uu, uu, uu, uu, uu, uu, uu, uu, uu, uu, uu, uu, uu, uu, uu, uu, uu, uu, uu, uu, uu, uu, uu, uu, uu, uu, uu, uu, uu, uu, uu, uu, uu, uu, uu, uu, .own 69 none false, .c (.int .i64 v70), .c (.int .i64 v71), uu, uu, uu, uu, uu, uu, uu, uu, uu, uu, uu, uu, uu, uu, uu, uu, uu, uu, uu, uu, uu, uu, uu, uu], hp := (upd (upd (upd (upd emp 69 (.arr (.int .i64) v69 false)) 14 (.arr (.int .i64) plan14 false)) 13 (.mp .i64 (.int .i64) name13)) 9 (.arr (.int .i64) left9 false)) }
theorem L51_1_eq (n : Nat × Nat) (m1 : Nat) (size0 : Int) (pieces1 : List Int) (v22 : List Int) (v23 : Int) (v24 : Int) (v8 : List Int) (left9 : List Int) : L51_1 n (m1 + 1) size0 pieces1 v22 v23 v24 v8 left9 =
 (bif decide (v24 < v23) then (idx v22 v24).bind fun x1' =>
      L51_2 n m1 n.1 size0 pieces1 x1' 0 v22 v23 v24 v8 left9
 else L51_3 n n.1 (v8.length : Int) 0 left9 [] [] v8) := by kernel_rfl
theorem L51_2_eq (n : Nat × Nat) (m1 m2 : Nat) (size0 : Int) (pieces1 : List Int) (i11 : Int) (s12 : Int) (v22 : List Int) (v23 : Int) (v24 : Int) (v8 : List Int) (left9 : List Int) : L51_2 n m1 (m2 + 1) size0 pieces1 i11 s12 v22 v23 v24 v8 left9 =
 ((bif (decide (s12 < (left9.length : Int)) == true) then (bif inB s12 left9.length then (idx left9 s12).bind fun x2' =>
 (idx pieces1 i11).bind fun x3' =>
 some (decide (x2' < x3'))
 else none)
 else some false)).bind fun b4' =>
 (bif b4' then L51_2 n m1 m2 size0 pieces1 i11 (wr .i64 (s12 + 1)) v22 v23 v24 v8 left9
 else (bif (s12 == (left9.length : Int)) then (bif decide (left9.length + [size0].length ≤ lim) then (bif inB s12 (left9 ++ [size0]).length then (idx (left9 ++ [size0]) s12).bind fun x5' =>
 (idx pieces1 i11).bind fun x6' =>
 (bif inB s12 (left9 ++ [size0]).length then (idx (left9 ++ [size0]) s12).bind fun x7' =>
 (bif inB i11 v8.length then (idx v8 i11).bind fun x8' =>
                L51_1 n m1 size0 pieces1 v22 v23 (wr .i64 (v24 + 1)) (v8.set (Int.toNat i11) s12) ((left9 ++ [size0]).set (Int.toNat s12) (wr .i64 (x5' - x6')))
 else none)
 else none)
 else none)
 else none)
 else (bif inB s12 left9.length then (idx left9 s12).bind fun x9' =>
 (idx pieces1 i11).bind fun x10' =>
 (bif inB s12 left9.length then (idx left9 s12).bind fun x11' =>
 (bif inB i11 v8.length then (idx v8 i11).bind fun x12' =>
              L51_1 n m1 size0 pieces1 v22 v23 (wr .i64 (v24 + 1)) (v8.set (Int.toNat i11) s12) (left9.set (Int.toNat s12) (wr .i64 (x9' - x10')))
 else none)
 else none)
 else none))) := by kernel_rfl
theorem L51_3_eq (n : Nat × Nat) (m1 : Nat) (v70 : Int) (v71 : Int) (left9 : List Int) (name13 : List (Int × Int)) (plan14 : List Int) (v69 : List Int) : L51_3 n (m1 + 1) v70 v71 left9 name13 plan14 v69 =
 (bif decide (v71 < v70) then (bif inB v71 v69.length then (idx v69 v71).bind fun x13' =>
 (bif (!((alook name13 x13').isSome)) then (bif decide (plan14.length + [((alook (aset name13 x13' (name13.length : Int)) x13').getD 0)].length ≤ lim) then L51_3 n m1 v70 (wr .i64 (v71 + 1)) left9 (aset name13 x13' (name13.length : Int)) (plan14 ++ [((alook (aset name13 x13' (name13.length : Int)) x13').getD 0)]) v69
 else none)
 else (bif decide (plan14.length + [((alook name13 x13').getD 0)].length ≤ lim) then L51_3 n m1 v70 (wr .i64 (v71 + 1)) left9 name13 (plan14 ++ [((alook name13 x13').getD 0)]) v69
 else none))
 else none)
 else some (plan14, left9)) := by kernel_rfl
noncomputable def S51 (n : Nat × Nat) (size0 : Int) (pieces1 : List Int) (order2 : List Int) : Option R51 := run (E51 n) c51 an51 rt51 (fun _ _ => none) rt51 { tm := [.c (.int .i64 size0), .c (.sl (.int .i64) pieces1 false), .c (.sl (.int .i64) order2 false), uu, uu, uu, uu, uu, uu, uu, uu, uu, uu, uu, uu, uu, uu, uu, uu, uu, uu, uu, uu, uu, uu, uu, uu, uu, uu, uu, uu, uu, uu, uu, uu, uu, uu, uu, uu, uu, uu, uu, uu, uu, uu, uu, uu, uu, uu, uu, uu, uu, uu, uu, uu, uu, uu, uu, uu, uu, uu, uu, uu, uu, uu, uu, uu, uu, uu, uu, uu, uu, uu, uu, uu, uu, uu, uu, uu, uu, uu, uu, uu, uu, uu, uu, uu, uu, uu, uu, uu, uu, uu, uu, uu, uu], hp := emp }
theorem S51_eq (n : Nat × Nat) (size0 : Int) (pieces1 : List Int) (order2 : List Int) : S51 n size0 pieces1 order2 =
 (bif decide (0 ≤ (pieces1.length : Int)) && decide ((pieces1.length : Int) ≤ (pieces1.length : Int)) && decide ((pieces1.length : Int) ≤ lim) then L51_1 n n.1 size0 pieces1 order2 (order2.length : Int) 0 (List.replicate (Int.toNat (pieces1.length : Int)) (0 : Int)) []
 else none) := by kernel_rfl
theorem S51_run (n : Nat × Nat) (xs : pksDen pk51) : S51 n xs.1 xs.2.1 xs.2.2.1 = runG (E51 n) noScope c51 an51 (rtG rk51) (fun _ _ => none) (rtG rk51) (st0 pk51 xs Tryd.f51.ntmps) := by kernel_rfl
noncomputable def P51 (n : Nat × Nat) := phiOf pk51 rk51 (fun xs => S51 n xs.1 xs.2.1 xs.2.2.1)
theorem call51 : CallOK Tryd.prog 51 := callOK_of Tryd.func51 (by kernel_rfl) (by kernel_rfl)
theorem env51 (n : Nat × Nat) : EnvOK Tryd.prog (E51 n) := envOK0 noPhi_ok rfl rfl
theorem par51 (n : Nat × Nat) : EnvPar (E51 n) := envPar0 noPhi_par rfl
theorem FC51 (n : Nat × Nat) : FCs Tryd.prog 51 (P51 n) := phiOf_FCs fun xs r h vs hv => FC.of_runG tabOK eqsOK (env51 n) (par51 n) mixed (fun _ p _ => noScope_ok p.1 p.2) Tryd.func51 (c := c51) (an := an51) (pks := pk51) (rks := rk51) (by kernel_rfl) (by kernel_rfl) hv ((S51_run n xs).symm.trans h)
abbrev R54 := Int
noncomputable def c54 : Code := bodyOf Tryd.f54
noncomputable def an54 : Ann := (.s .l (.s .l (.s (.s .l (.j [3] (.j [3, 6, 7, 8] (.s .l (.s (.j [3, 6, 7, 8] .l .l) (.s (.j [3, 6, 7, 8] .l .l) .l))) .l) .l)) .l)))
def pk54 : List PK := [.c (.sl (.int .i64))]
def rk54 : List RK := [.c (.int .i64) 2]
noncomputable def rt54 (st : St) : Option R54 := rtG rk54 st
noncomputable def E54 (n : Nat × Nat) : Env := { T := tab, phi := noPhi, eff := fun _ => false, fuel := n.1, hold := n.2 }
noncomputable def kq54_1 (n : Nat × Nat) : St → Option R54 := run (E54 n) (cB (cB (cB c54))) (Ann.snd (Ann.snd (Ann.snd an54))) rt54 (fun _ _ => none) rt54
noncomputable def xb54_3 (n : Nat × Nat) : Nat → St → Option R54 := fun j s => bif Nat.beq j 0 then normC [3] s (kq54_1 n) else (fun _ _ => none) j s
noncomputable def F54_4 (n : Nat × Nat) : (St → Option R54) → St → Option R54 := fun K s => run (E54 n) (cA (cA (cB (cA (cB (cB c54)))))) (Ann.fst (Ann.fst (Ann.snd (Ann.fst (Ann.snd (Ann.snd an54)))))) (fun s => normC [3, 6, 7, 8] s K) (xb54_3 n) rt54 s
noncomputable def L54_1 (n : Nat × Nat) (m : Nat) (v3 : Int) (v6 : List Int) (v7 : Int) (v8 : Int) : Option R54 := loopN (F54_4 n) m { tm := [uu, uu, uu, .c (.int .i64 v3), uu, uu, .c (.sl (.int .i64) v6 false), .c (.int .i64 v7), .c (.int .i64 v8), uu, uu, uu, uu, uu, uu, uu, uu, uu], hp := emp }
theorem L54_1_eq (n : Nat × Nat) (m1 : Nat) (v3 : Int) (v6 : List Int) (v7 : Int) (v8 : Int) : L54_1 n (m1 + 1) v3 v6 v7 v8 =
 (bif decide (v8 < v7) then (idx v6 v8).bind fun x1' =>
      L54_1 n m1 (if (wr .i64 (x1' + 1)) > v3 then (wr .i64 (x1' + 1)) else v3) v6 v7 (wr .i64 (v8 + 1))
 else some v3) := by kernel_rfl
noncomputable def S54 (n : Nat × Nat) (plan0 : List Int) : Option R54 := run (E54 n) c54 an54 rt54 (fun _ _ => none) rt54 { tm := [.c (.sl (.int .i64) plan0 false), uu, uu, uu, uu, uu, uu, uu, uu, uu, uu, uu, uu, uu, uu, uu, uu, uu], hp := emp }
theorem S54_eq (n : Nat × Nat) (plan0 : List Int) : S54 n plan0 =
    L54_1 n n.1 0 plan0 (plan0.length : Int) 0 := by kernel_rfl
theorem S54_run (n : Nat × Nat) (xs : pksDen pk54) : S54 n xs.1 = runG (E54 n) noScope c54 an54 (rtG rk54) (fun _ _ => none) (rtG rk54) (st0 pk54 xs Tryd.f54.ntmps) := by kernel_rfl
noncomputable def P54 (n : Nat × Nat) := phiOf pk54 rk54 (fun xs => S54 n xs.1)
theorem call54 : CallOK Tryd.prog 54 := callOK_of Tryd.func54 (by kernel_rfl) (by kernel_rfl)
theorem env54 (n : Nat × Nat) : EnvOK Tryd.prog (E54 n) := envOK0 noPhi_ok rfl rfl
theorem par54 (n : Nat × Nat) : EnvPar (E54 n) := envPar0 noPhi_par rfl
theorem FC54 (n : Nat × Nat) : FCs Tryd.prog 54 (P54 n) := phiOf_FCs fun xs r h vs hv => FC.of_runG tabOK eqsOK (env54 n) (par54 n) mixed (fun _ p _ => noScope_ok p.1 p.2) Tryd.func54 (c := c54) (an := an54) (pks := pk54) (rks := rk54) (by kernel_rfl) (by kernel_rfl) hv ((S54_run n xs).symm.trans h)
abbrev R9 := Bool
noncomputable def c9 : Code := bodyOf Tryd.f9
noncomputable def an9 : Ann := (.s .l (.s .l (.s .l (.s (.s .l (.j [5, 6, 7, 83, 84, 85, 86, 124, 125, 128, 129, 132, 133, 136, 137, 138, 139, 140, 143, 144, 147, 148, 151, 152, 153, 154, 157, 158, 159, 160, 161, 162, 165, 166, 167, 168, 205, 206, 207, 208, 211] (.j [3, 5, 6, 7, 36, 37, 83, 84, 85, 86, 124, 125, 128, 129, 132, 133, 136, 137, 138, 139, 140, 143, 144, 147, 148, 151, 152, 153, 154, 157, 158, 159, 160, 161, 162, 165, 166, 167, 168, 205, 206, 207, 208, 211] (.s .l (.s (.j [3, 5, 6, 7, 36, 37, 83, 84, 85, 86, 124, 125, 128, 129, 132, 133, 136, 137, 138, 139, 140, 143, 144, 147, 148, 151, 152, 153, 154, 157, 158, 159, 160, 161, 162, 165, 166, 167, 168, 205, 206, 207, 208, 211] .l .l) (.s (.j [3, 5, 6, 7, 36, 37, 83, 84, 85, 86, 124, 125, 128, 129, 132, 133, 136, 137, 138, 139, 140, 143, 144, 147, 148, 151, 152, 153, 154, 157, 158, 159, 160, 161, 162, 165, 166, 167, 168, 205, 206, 207, 208, 211] .l .l) .l))) .l) .l)) (.s .l (.s .l (.s (.s .l (.j [5, 6, 10, 11, 124, 125, 128, 129, 132, 133, 136, 137, 138, 139, 140, 143, 144, 147, 148, 151, 152, 153, 154, 157, 158, 159, 160, 161, 162, 165, 166, 167, 168, 205, 206, 207, 208, 211] .l .l)) (.s .l (.s (.s .l (.j [5, 6, 10, 14, 124, 125, 128, 129, 132, 133, 136, 137, 138, 139, 140, 143, 144, 147, 148, 151, 152, 153, 154, 157, 158, 159, 160, 161, 162, 165, 166, 167, 168, 205, 206, 207, 208, 211] (.j [5, 6, 10, 14, 88, 89, 90, 124, 125, 128, 129, 132, 133, 136, 137, 138, 139, 140, 143, 144, 147, 148, 151, 152, 153, 154, 157, 158, 159, 160, 161, 162, 165, 166, 167, 168, 205, 206, 207, 208, 211] (.s .l (.s (.j [5, 6, 10, 14, 88, 89, 90, 124, 125, 128, 129, 132, 133, 136, 137, 138, 139, 140, 143, 144, 147, 148, 151, 152, 153, 154, 157, 158, 159, 160, 161, 162, 165, 166, 167, 168, 205, 206, 207, 208, 211] .l .l) (.j [] (.j [5, 6, 10, 14, 88, 89, 90, 124, 125, 128, 129, 132, 133, 136, 137, 138, 139, 140, 143, 144, 147, 148, 151, 152, 153, 154, 157, 158, 159, 160, 161, 162, 165, 166, 167, 168, 205, 206, 207, 208, 211] (.s .l (.s .l (.j [5, 6, 10, 14, 88, 89, 90, 124, 125, 128, 129, 132, 133, 136, 137, 138, 139, 140, 143, 144, 147, 148, 151, 152, 153, 154, 157, 158, 159, 160, 161, 162, 165, 166, 167, 168, 205, 206, 207, 208, 211] .l .l))) .l) .l))) .l) .l)) (.s .l (.s .l (.s .l (.s (.s .l (.j [5, 6, 17, 18, 205, 206, 207, 208, 211] .l .l)) (.s .l (.s (.s .l (.j [5, 6, 17, 22, 205, 206, 207, 208, 211] (.j [5, 6, 17, 18, 22, 170, 171, 205, 206, 207, 208, 211] (.s .l (.s (.j [5, 6, 17, 18, 22, 170, 171, 205, 206, 207, 208, 211] .l .l) (.s (.j [5, 6, 17, 18, 22, 170, 171, 205, 206, 207, 208, 211] (.s .l (.s .l (.j [5, 6, 17, 18, 22, 170, 171, 205, 206, 207, 208, 211] (.j [5, 6, 17, 18, 22, 23, 170, 171, 174, 175, 176, 205, 206, 207, 208, 211] (.s .l (.s (.j [5, 6, 17, 18, 22, 23, 170, 171, 174, 175, 176, 205, 206, 207, 208, 211] .l .l) (.j [] (.j [5, 6, 17, 18, 22, 23, 170, 171, 174, 175, 176, 205, 206, 207, 208, 211] (.s .l (.s .l (.j [5, 6, 17, 18, 22, 23, 170, 171, 174, 175, 176, 205, 206, 207, 208, 211] .l .l))) .l) .l))) .l) .l))) .l) .l))) .l) .l)) (.s (.s .l (.j [5, 6, 17, 22, 205, 206, 207, 208, 211] .l .l)) .l))))))))))))))))
def pk9 : List PK := [.c (.pair (.int .u8) (.pair (.int .u8) (.pair (.int .u8) (.pair (.int .u8) (.pair (.int .u8) (.pair (.int .u8) (.pair (.int .u8) (.pair (.int .u8) (.pair (.int .u8) (.pair (.int .u8) (.int .u8))))))))))), .c (.pair (.int .u8) (.pair (.int .u8) (.pair (.int .u8) (.pair (.int .u8) (.pair (.int .u8) (.pair (.int .u8) (.pair (.int .u8) (.int .u8))))))))]
def rk9 : List RK := [.c .bool 4]
noncomputable def rt9 (st : St) : Option R9 := rtG rk9 st
noncomputable def E9 (n : Nat × Nat) : Env := { T := tab, phi := (consPhi 17 (fun _ => true) (P17 n) (consPhi 24 (fun _ => true) (P24 n) (consPhi 32 (fun _ => true) (P32 n) (consPhi 34 (fun _ => true) (P34 n) (consPhi 36 (fun _ => true) (P36 n) (consPhi 48 (fun _ => true) (P48 n) (consPhi 50 (fun _ => true) (P50 n) (consPhi 51 (fun _ => true) (P51 n) (consPhi 54 (fun _ => true) (P54 n) noPhi))))))))), eff := fun g => Nat.beq g 36 || Nat.beq g 48, fuel := n.1, hold := n.2 }
noncomputable def kq9_1 (n : Nat × Nat) : St → Option R9 := run (E9 n) (cB (cB (cB (cB c9)))) (Ann.snd (Ann.snd (Ann.snd (Ann.snd an9)))) rt9 (fun _ _ => none) rt9
noncomputable def xb9_3 (n : Nat × Nat) : Nat → St → Option R9 := fun j s => bif Nat.beq j 0 then normC [5, 6, 7, 83, 84, 85, 86, 124, 125, 128, 129, 132, 133, 136, 137, 138, 139, 140, 143, 144, 147, 148, 151, 152, 153, 154, 157, 158, 159, 160, 161, 162, 165, 166, 167, 168, 205, 206, 207, 208, 211] s (kq9_1 n) else (fun _ _ => none) j s
noncomputable def F9_4 (n : Nat × Nat) : (St → Option R9) → St → Option R9 := fun K s => run (E9 n) (cA (cA (cB (cA (cB (cB (cB c9))))))) (Ann.fst (Ann.fst (Ann.snd (Ann.fst (Ann.snd (Ann.snd (Ann.snd an9))))))) (fun s => normC [3, 5, 6, 7, 36, 37, 83, 84, 85, 86, 124, 125, 128, 129, 132, 133, 136, 137, 138, 139, 140, 143, 144, 147, 148, 151, 152, 153, 154, 157, 158, 159, 160, 161, 162, 165, 166, 167, 168, 205, 206, 207, 208, 211] s K) (xb9_3 n) rt9 s
noncomputable def kq9_12 (n : Nat × Nat) : St → Option R9 := run (E9 n) (cB (cB (cB (cB (cB (cB (cB (cB (cB c9))))))))) (Ann.snd (Ann.snd (Ann.snd (Ann.snd (Ann.snd (Ann.snd (Ann.snd (Ann.snd (Ann.snd an9))))))))) rt9 (fun _ _ => none) rt9
noncomputable def xb9_14 (n : Nat × Nat) : Nat → St → Option R9 := fun j s => bif Nat.beq j 2 then normC [5, 6, 10, 14, 124, 125, 128, 129, 132, 133, 136, 137, 138, 139, 140, 143, 144, 147, 148, 151, 152, 153, 154, 157, 158, 159, 160, 161, 162, 165, 166, 167, 168, 205, 206, 207, 208, 211] s (kq9_12 n) else (fun _ _ => none) j s
noncomputable def F9_15 (n : Nat × Nat) : (St → Option R9) → St → Option R9 := fun K s => run (E9 n) (cA (cA (cB (cA (cB (cB (cB (cB (cB (cB (cB (cB c9)))))))))))) (Ann.fst (Ann.fst (Ann.snd (Ann.fst (Ann.snd (Ann.snd (Ann.snd (Ann.snd (Ann.snd (Ann.snd (Ann.snd (Ann.snd an9)))))))))))) (fun s => normC [5, 6, 10, 14, 88, 89, 90, 124, 125, 128, 129, 132, 133, 136, 137, 138, 139, 140, 143, 144, 147, 148, 151, 152, 153, 154, 157, 158, 159, 160, 161, 162, 165, 166, 167, 168, 205, 206, 207, 208, 211] s K) (xb9_14 n) rt9 s
noncomputable def kq9_18 (n : Nat × Nat) (m1 : Nat) : St → Option R9 := run (E9 n) (cB (cB (cB (cA (cA (cB (cA (cB (cB (cB (cB (cB (cB (cB (cB c9))))))))))))))) (Ann.snd (Ann.snd (Ann.snd (Ann.fst (Ann.fst (Ann.snd (Ann.fst (Ann.snd (Ann.snd (Ann.snd (Ann.snd (Ann.snd (Ann.snd (Ann.snd (Ann.snd an9))))))))))))))) (fun s => normC [5, 6, 10, 14, 88, 89, 90, 124, 125, 128, 129, 132, 133, 136, 137, 138, 139, 140, 143, 144, 147, 148, 151, 152, 153, 154, 157, 158, 159, 160, 161, 162, 165, 166, 167, 168, 205, 206, 207, 208, 211] s (loopN (F9_15 n) m1)) (xb9_14 n) rt9
noncomputable def kq9_24 (n : Nat × Nat) : St → Option R9 := run (E9 n) (cB (cB (cB (cB (cB (cB (cB (cB (cB (cB (cB (cB (cB (cB (cB c9))))))))))))))) (Ann.snd (Ann.snd (Ann.snd (Ann.snd (Ann.snd (Ann.snd (Ann.snd (Ann.snd (Ann.snd (Ann.snd (Ann.snd (Ann.snd (Ann.snd (Ann.snd (Ann.snd an9))))))))))))))) rt9 (fun _ _ => none) rt9
noncomputable def xb9_26 (n : Nat × Nat) : Nat → St → Option R9 := fun j s => bif Nat.beq j 4 then normC [5, 6, 17, 22, 205, 206, 207, 208, 211] s (kq9_24 n) else (fun _ _ => none) j s
noncomputable def F9_27 (n : Nat × Nat) : (St → Option R9) → St → Option R9 := fun K s => run (E9 n) (cA (cA (cB (cA (cB (cB (cB (cB (cB (cB (cB (cB (cB (cB (cB (cB (cB (cB c9)))))))))))))))))) (Ann.fst (Ann.fst (Ann.snd (Ann.fst (Ann.snd (Ann.snd (Ann.snd (Ann.snd (Ann.snd (Ann.snd (Ann.snd (Ann.snd (Ann.snd (Ann.snd (Ann.snd (Ann.snd (Ann.snd (Ann.snd an9)))))))))))))))))) (fun s => normC [5, 6, 17, 18, 22, 170, 171, 205, 206, 207, 208, 211] s K) (xb9_26 n) rt9 s
noncomputable def kq9_30 (n : Nat × Nat) (m1 : Nat) : St → Option R9 := run (E9 n) (cB (cB (cB (cA (cA (cB (cA (cB (cB (cB (cB (cB (cB (cB (cB (cB (cB (cB (cB (cB (cB c9))))))))))))))))))))) (Ann.snd (Ann.snd (Ann.snd (Ann.fst (Ann.fst (Ann.snd (Ann.fst (Ann.snd (Ann.snd (Ann.snd (Ann.snd (Ann.snd (Ann.snd (Ann.snd (Ann.snd (Ann.snd (Ann.snd (Ann.snd (Ann.snd (Ann.snd (Ann.snd an9))))))))))))))))))))) (fun s => normC [5, 6, 17, 18, 22, 170, 171, 205, 206, 207, 208, 211] s (loopN (F9_27 n) m1)) (xb9_26 n) rt9
noncomputable def kc9_31 (n : Nat × Nat) (m1 : Nat) : St → Option R9 := fun s => normC [5, 6, 17, 18, 22, 170, 171, 205, 206, 207, 208, 211] s (kq9_30 n m1)
noncomputable def xb9_32 (n : Nat × Nat) (m1 : Nat) : Nat → St → Option R9 := fun j s => bif Nat.beq j 5 then normC [5, 6, 17, 18, 22, 170, 171, 205, 206, 207, 208, 211] s (kq9_30 n m1) else (xb9_26 n) j s
noncomputable def xb9_34 (n : Nat × Nat) (m1 : Nat) : Nat → St → Option R9 := fun j s => bif Nat.beq j 6 then normC [5, 6, 17, 18, 22, 170, 171, 205, 206, 207, 208, 211] s (kc9_31 n m1) else (xb9_32 n m1) j s
noncomputable def F9_35 (n : Nat × Nat) (m1 : Nat) : (St → Option R9) → St → Option R9 := fun K s => run (E9 n) (cA (cA (cB (cB (cA (cA (cB (cB (cA (cA (cB (cA (cB (cB (cB (cB (cB (cB (cB (cB (cB (cB (cB (cB (cB (cB c9)))))))))))))))))))))))))) (Ann.fst (Ann.fst (Ann.snd (Ann.snd (Ann.fst (Ann.fst (Ann.snd (Ann.snd (Ann.fst (Ann.fst (Ann.snd (Ann.fst (Ann.snd (Ann.snd (Ann.snd (Ann.snd (Ann.snd (Ann.snd (Ann.snd (Ann.snd (Ann.snd (Ann.snd (Ann.snd (Ann.snd (Ann.snd (Ann.snd an9)))))))))))))))))))))))))) (fun s => normC [5, 6, 17, 18, 22, 23, 170, 171, 174, 175, 176, 205, 206, 207, 208, 211] s K) (xb9_34 n m1) rt9 s
noncomputable def kq9_40 (n : Nat × Nat) (m1 m2 : Nat) : St → Option R9 := run (E9 n) (cB (cB (cB (cA (cA (cB (cB (cA (cA (cB (cB (cA (cA (cB (cA (cB (cB (cB (cB (cB (cB (cB (cB (cB (cB (cB (cB (cB (cB c9))))))))))))))))))))))))))))) (Ann.snd (Ann.snd (Ann.snd (Ann.fst (Ann.fst (Ann.snd (Ann.snd (Ann.fst (Ann.fst (Ann.snd (Ann.snd (Ann.fst (Ann.fst (Ann.snd (Ann.fst (Ann.snd (Ann.snd (Ann.snd (Ann.snd (Ann.snd (Ann.snd (Ann.snd (Ann.snd (Ann.snd (Ann.snd (Ann.snd (Ann.snd (Ann.snd (Ann.snd an9))))))))))))))))))))))))))))) (fun s => normC [5, 6, 17, 18, 22, 23, 170, 171, 174, 175, 176, 205, 206, 207, 208, 211] s (loopN (F9_35 n m1) m2)) (xb9_34 n m1) rt9
noncomputable def L9_1 (n : Nat × Nat) (m : Nat) (size5 : Int) (pieces6 : List Int) (v36 : Int) (v37 : Int) (v3_0 : Int) (v3_1 : Int) (v3_2 : Int) (v3_3 : Int) (v3_4 : Int) (v3_5 : Int) (v3_6 : Int) (v3_7 : Int) (order7 : List Int) : Option R9 := loopN (F9_4 n) m { tm := [uu, uu, uu, .ptr 3 0, uu, .c (.int .i64 size5), .c (.sl (.int .i64) pieces6 false), .own 7 none false, uu, uu, uu, uu, uu, uu, uu, uu, uu, uu, uu, uu, uu, uu, uu, uu, uu, uu, uu, uu, uu, uu, uu, uu, uu, uu, uu, uu, .c (.int .i64 v36), .c (.int .i64 v37), uu, uu, uu, uu, uu, uu, uu, uu, uu, uu, uu, uu, uu, uu, uu, uu, uu, uu, uu, uu, uu, uu, uu, uu, uu, uu, uu, uu, uu, uu, uu, uu, uu, uu, uu, uu, uu, uu, uu, uu, uu, uu, uu, uu, uu, uu, uu, uu, uu, uu, uu, uu, uu, uu, uu, uu, uu, uu, uu, uu, uu, uu, uu, uu, uu, uu, uu, uu, uu, uu, uu, uu, uu, uu, uu, uu, uu, uu, uu, uu, uu, uu, uu, uu, uu, uu, uu, uu, uu, uu, uu, uu, uu, uu, uu, uu, uu, uu, uu, uu, uu, uu, uu, uu, uu, uu, uu, uu, uu, uu, uu, uu, uu, uu, uu, uu, uu, uu, uu, uu, uu, uu, uu, uu, uu, uu, uu, uu, uu, uu, uu, uu, uu, uu, uu, uu, uu, uu, uu, uu, uu, uu, uu, uu, uu, uu, uu, uu, uu, uu, uu, uu, uu, uu, uu, uu, uu, uu, uu, uu, uu, uu, uu, uu, uu, uu, uu, uu, uu, uu, uu, uu, uu, uu, uu], hp := (upd (upd emp 7 (.arr (.int .i64) order7 false)) 3 (.box [.int .u8 v3_0, .int .u8 v3_1, .int .u8 v3_2, .int .u8 v3_3, .int .u8 v3_4, .int .u8 v3_5, .int .u8 v3_6, .int .u8 v3_7])) }
noncomputable def L9_2 (n : Nat × Nat) (m : Nat) (size5 : Int) (pieces6 : List Int) (half14 : Int) (v89 : Int) (v90 : Int) (plan10 : List Int) (v88 : List Int) : Option R9 := loopN (F9_15 n) m { tm := [uu, uu, uu, uu, uu, .c (.int .i64 size5), .c (.sl (.int .i64) pieces6 false), uu, uu, uu, .own 10 none false, uu, uu, uu, .c (.int .i64 half14), uu, uu, uu, uu, uu, uu, uu, uu, uu, uu, uu, uu, uu, uu, uu, uu, uu, uu, uu, uu, uu, uu, uu, uu, uu, uu, uu, uu, uu, uu, uu, uu, uu, uu, uu, uu, uu, uu, uu, uu, uu, uu, uu, uu, uu, uu, uu, uu, uu, uu, uu, uu, uu, uu, uu, uu, uu, uu, uu, uu, uu, uu, uu, uu, uu, uu, uu, uu, uu, uu, uu, uu, uu, .own 88 none false, .c (.int .i64 v89), .c (.int .i64 v90), uu, uu, uu, uu, uu, uu, uu, uu, uu, uu, uu, uu, uu, uu, uu, uu, uu, uu, uu, uu, uu, uu, uu, uu, uu, uu, uu, uu, uu, uu, uu, uu, uu, uu, uu, uu, uu, uu, uu, uu, uu, uu, uu, uu, uu, uu, uu, uu, uu, uu, uu, uu, uu, uu, uu, uu, uu, uu, uu, uu, uu, uu, uu, uu, uu, uu, uu, uu, uu, uu, uu, uu, uu, uu, uu, uu, uu, uu, uu, uu, uu, uu, uu, uu, uu, uu, uu, uu, uu, uu, uu, uu, uu, uu, uu, uu, uu, uu, uu, uu, uu, uu, uu, uu, uu, uu, uu, uu, uu, uu, uu, uu, uu, uu, uu, uu, uu, uu, uu, uu, uu, uu], hp := (upd (upd emp 88 (.arr (.int .i64) v88 false)) 10 (.arr (.int .i64) plan10 false)) }
noncomputable def L9_3 (n : Nat × Nat) (m1 : Nat) (size5 : Int) (pieces6 : List Int) (half14 : Int) (v89 : Int) (v90 : Int) (plan10 : List Int) (v88 : List Int) : Option R9 := loopN (fun _ => (kq9_18 n m1)) n.2 { tm := [uu, uu, uu, uu, uu, .c (.int .i64 size5), .c (.sl (.int .i64) pieces6 false), uu, uu, uu, .own 10 none false, uu, uu, uu, .c (.int .i64 half14), uu, uu, uu, uu, uu, uu, uu, uu, uu, uu, uu, uu, uu, uu, uu, uu, uu, uu, uu, uu, uu, uu, uu, uu, uu, uu, uu, uu, uu, uu, uu, uu, uu, uu, uu, uu, uu, uu, uu, uu, uu, uu, uu, uu, uu, uu, uu, uu, uu, uu, uu, uu, uu, uu, uu, uu, uu, uu, uu, uu, uu, uu, uu, uu, uu, uu, uu, uu, uu, uu, uu, uu, uu, .own 88 none false, .c (.int .i64 v89), .c (.int .i64 v90), uu, uu, uu, uu, uu, uu, uu, uu, uu, uu, uu, uu, uu, uu, uu, uu, uu, uu, uu, uu, uu, uu, uu, uu, uu, uu, uu, uu, uu, uu, uu, uu, uu, uu, uu, uu, uu, uu, uu, uu, uu, uu, uu, uu, uu, uu, uu, uu, uu, uu, uu, uu, uu, uu, uu, uu, uu, uu, uu, uu, uu, uu, uu, uu, uu, uu, uu, uu, uu, uu, uu, uu, uu, uu, uu, uu, uu, uu, uu, uu, uu, uu, uu, uu, uu, uu, uu, uu, uu, uu, uu, uu, uu, uu, uu, uu, uu, uu, uu, uu, uu, uu, uu, uu, uu, uu, uu, uu, uu, uu, uu, uu, uu, uu, uu, uu, uu, uu, uu, uu, uu, uu], hp := (upd (upd emp 88 (.arr (.int .i64) v88 false)) 10 (.arr (.int .i64) plan10 false)) }
noncomputable def L9_4 (n : Nat × Nat) (m : Nat) (size5 : Int) (pieces6 : List Int) (few17 : Int) (first18 : List Int) (v170 : Int) (v171 : Int) (sorted22 : List Int) : Option R9 := loopN (F9_27 n) m { tm := [uu, uu, uu, uu, uu, .c (.int .i64 size5), .c (.sl (.int .i64) pieces6 false), uu, uu, uu, uu, uu, uu, uu, uu, uu, uu, .c (.int .i64 few17), .c (.sl (.int .i64) first18 false), uu, uu, uu, .own 22 none false, uu, uu, uu, uu, uu, uu, uu, uu, uu, uu, uu, uu, uu, uu, uu, uu, uu, uu, uu, uu, uu, uu, uu, uu, uu, uu, uu, uu, uu, uu, uu, uu, uu, uu, uu, uu, uu, uu, uu, uu, uu, uu, uu, uu, uu, uu, uu, uu, uu, uu, uu, uu, uu, uu, uu, uu, uu, uu, uu, uu, uu, uu, uu, uu, uu, uu, uu, uu, uu, uu, uu, uu, uu, uu, uu, uu, uu, uu, uu, uu, uu, uu, uu, uu, uu, uu, uu, uu, uu, uu, uu, uu, uu, uu, uu, uu, uu, uu, uu, uu, uu, uu, uu, uu, uu, uu, uu, uu, uu, uu, uu, uu, uu, uu, uu, uu, uu, uu, uu, uu, uu, uu, uu, uu, uu, uu, uu, uu, uu, uu, uu, uu, uu, uu, uu, uu, uu, uu, uu, uu, uu, uu, uu, uu, uu, uu, uu, .c (.int .i64 v170), .c (.int .i64 v171), uu, uu, uu, uu, uu, uu, uu, uu, uu, uu, uu, uu, uu, uu, uu, uu, uu, uu, uu, uu, uu, uu, uu, uu, uu, uu, uu, uu, uu, uu, uu, uu, uu, uu, uu, uu, uu, uu, uu, uu, uu], hp := (upd emp 22 (.arr (.int .i64) sorted22 false)) }
noncomputable def L9_5 (n : Nat × Nat) (m1 : Nat) (m : Nat) (size5 : Int) (pieces6 : List Int) (few17 : Int) (first18 : List Int) (v23 : Int) (v170 : Int) (v171 : Int) (v174 : List Int) (v175 : Int) (v176 : Int) (sorted22 : List Int) : Option R9 := loopN (F9_35 n m1) m { tm := [uu, uu, uu, uu, uu, .c (.int .i64 size5), .c (.sl (.int .i64) pieces6 false), uu, uu, uu, uu, uu, uu, uu, uu, uu, uu, .c (.int .i64 few17), .c (.sl (.int .i64) first18 false), uu, uu, uu, .own 22 none false, .c (.int .i64 v23), uu, uu, uu, uu, uu, uu, uu, uu, uu, uu, uu, uu, uu, uu, uu, uu, uu, uu, uu, uu, uu, uu, uu, uu, uu, uu, uu, uu, uu, uu, uu, uu, uu, uu, uu, uu, uu, uu, uu, uu, uu, uu, uu, uu, uu, uu, uu, uu, uu, uu, uu, uu, uu, uu, uu, uu, uu, uu, uu, uu, uu, uu, uu, uu, uu, uu, uu, uu, uu, uu, uu, uu, uu, uu, uu, uu, uu, uu, uu, uu, uu, uu, uu, uu, uu, uu, uu, uu, uu, uu, uu, uu, uu, uu, uu, uu, uu, uu, uu, uu, uu, uu, uu, uu, uu, uu, uu, uu, uu, uu, uu, uu, uu, uu, uu, uu, uu, uu, uu, uu, uu, uu, uu, uu, uu, uu, uu, uu, uu, uu, uu, uu, uu, uu, uu, uu, uu, uu, uu, uu, uu, uu, uu, uu, uu, uu, .c (.int .i64 v170), .c (.int .i64 v171), uu, uu, .c (.sl (.int .i64) v174 false), .c (.int .i64 v175), .c (.int .i64 v176), uu, uu, uu, uu, uu, uu, uu, uu, uu, uu, uu, uu, uu, uu, uu, uu, uu, uu, uu, uu, uu, uu, uu, uu, uu, uu, uu, uu, uu, uu, uu, uu, uu, uu, uu, uu], hp := (upd emp 22 (.arr (.int .i64) sorted22 false)) }
noncomputable def L9_6 (n : Nat × Nat) (m1 m2 : Nat) (size5 : Int) (pieces6 : List Int) (few17 : Int) (first18 : List Int) (v23 : Int) (v170 : Int) (v171 : Int) (v174 : List Int) (v175 : Int) (v176 : Int) (sorted22 : List Int) : Option R9 := loopN (fun _ => (kq9_40 n m1 m2)) n.2 { tm := [uu, uu, uu, uu, uu, .c (.int .i64 size5), .c (.sl (.int .i64) pieces6 false), uu, uu, uu, uu, uu, uu, uu, uu, uu, uu, .c (.int .i64 few17), .c (.sl (.int .i64) first18 false), uu, uu, uu, .own 22 none false, .c (.int .i64 v23), uu, uu, uu, uu, uu, uu, uu, uu, uu, uu, uu, uu, uu, uu, uu, uu, uu, uu, uu, uu, uu, uu, uu, uu, uu, uu, uu, uu, uu, uu, uu, uu, uu, uu, uu, uu, uu, uu, uu, uu, uu, uu, uu, uu, uu, uu, uu, uu, uu, uu, uu, uu, uu, uu, uu, uu, uu, uu, uu, uu, uu, uu, uu, uu, uu, uu, uu, uu, uu, uu, uu, uu, uu, uu, uu, uu, uu, uu, uu, uu, uu, uu, uu, uu, uu, uu, uu, uu, uu, uu, uu, uu, uu, uu, uu, uu, uu, uu, uu, uu, uu, uu, uu, uu, uu, uu, uu, uu, uu, uu, uu, uu, uu, uu, uu, uu, uu, uu, uu, uu, uu, uu, uu, uu, uu, uu, uu, uu, uu, uu, uu, uu, uu, uu, uu, uu, uu, uu, uu, uu, uu, uu, uu, uu, uu, uu, .c (.int .i64 v170), .c (.int .i64 v171), uu, uu, .c (.sl (.int .i64) v174 false), .c (.int .i64 v175), .c (.int .i64 v176), uu, uu, uu, uu, uu, uu, uu, uu, uu, uu, uu, uu, uu, uu, uu, uu, uu, uu, uu, uu, uu, uu, uu, uu, uu, uu, uu, uu, uu, uu, uu, uu, uu, uu, uu, uu], hp := (upd emp 22 (.arr (.int .i64) sorted22 false)) }
theorem L9_1_eq (n : Nat × Nat) (m1 : Nat) (size5 : Int) (pieces6 : List Int) (v36 : Int) (v37 : Int) (v3_0 : Int) (v3_1 : Int) (v3_2 : Int) (v3_3 : Int) (v3_4 : Int) (v3_5 : Int) (v3_6 : Int) (v3_7 : Int) (order7 : List Int) : L9_1 n (m1 + 1) size5 pieces6 v36 v37 v3_0 v3_1 v3_2 v3_3 v3_4 v3_5 v3_6 v3_7 order7 =
 (bif decide (v37 < v36) then (bif inB v37 order7.length then (idx order7 v37).bind fun x2' =>
 (bif inB v37 8 then (idx [v3_0, v3_1, v3_2, v3_3, v3_4, v3_5, v3_6, v3_7] v37).bind fun x3' =>
 (bif (wr .i64 (v37 + 1)) == 0 then none
 else (bif inB (Int.tmod (wr .i64 x3') (wr .i64 (v37 + 1))) (order7.set (Int.toNat v37) v37).length then (idx (order7.set (Int.toNat v37) v37) (Int.tmod (wr .i64 x3') (wr .i64 (v37 + 1)))).bind fun x4' =>
 (bif inB v37 (order7.set (Int.toNat v37) v37).length then (idx (order7.set (Int.toNat v37) v37) v37).bind fun x5' =>
 (bif inB v37 (order7.set (Int.toNat v37) v37).length then (idx (order7.set (Int.toNat v37) v37) v37).bind fun x6' =>
 (bif inB (Int.tmod (wr .i64 x3') (wr .i64 (v37 + 1))) ((order7.set (Int.toNat v37) v37).set (Int.toNat v37) x4').length then (idx ((order7.set (Int.toNat v37) v37).set (Int.toNat v37) x4') (Int.tmod (wr .i64 x3') (wr .i64 (v37 + 1)))).bind fun x7' =>
                    L9_1 n m1 size5 pieces6 v36 (wr .i64 (v37 + 1)) v3_0 v3_1 v3_2 v3_3 v3_4 v3_5 v3_6 v3_7 (((order7.set (Int.toNat v37) v37).set (Int.toNat v37) x4').set (Int.toNat (Int.tmod (wr .i64 x3') (wr .i64 (v37 + 1)))) x5')
 else none)
 else none)
 else none)
 else none))
 else none)
 else none)
 else (S51 n size5 pieces6 order7).bind fun r8' =>
 (S32 n size5 pieces6 order7).bind fun r9' =>
 ((bif ((r9'.2 != 0) == false) then (S24 n r9'.1 r8'.1).bind fun r10' =>
 some (!r10')
 else some true)).bind fun b11' =>
 (bif b11' then some false
 else L9_2 n n.1 size5 pieces6 0 (r8'.2.length : Int) 0 r8'.1 r8'.2)) := by kernel_rfl
theorem L9_2_eq (n : Nat × Nat) (m1 : Nat) (size5 : Int) (pieces6 : List Int) (half14 : Int) (v89 : Int) (v90 : Int) (plan10 : List Int) (v88 : List Int) : L9_2 n (m1 + 1) size5 pieces6 half14 v89 v90 plan10 v88 =
 (bif decide (v90 < v89) then (bif inB v90 v88.length then (idx v88 v90).bind fun x12' =>
 (bif decide (wr .i64 (2 * x12') ≥ size5) then L9_3 n m1 size5 pieces6 (wr .i64 (half14 + 1)) v89 v90 plan10 v88
 else L9_3 n m1 size5 pieces6 half14 v89 v90 plan10 v88)
 else none)
 else (S34 n size5 pieces6).bind fun r13' =>
 (S36 n size5 pieces6).bind fun r14' =>
 (S50 n pieces6).bind fun r15' =>
 (S32 n size5 pieces6 r15').bind fun r16' =>
 ((bif (decide (half14 > 1) == false) then some (r13'.2 != 0)
 else some true)).bind fun b17' =>
 ((bif (b17' == false) then some (r14'.2 != 0)
 else some true)).bind fun b18' =>
 ((bif (b18' == false) then some (r16'.2 != 0)
 else some true)).bind fun b19' =>
 ((bif (b19' == false) then some ((r14'.1.length : Int) != (pieces6.length : Int))
 else some true)).bind fun b20' =>
 ((bif (b20' == false) then some (decide (r13'.1 < 0))
 else some true)).bind fun b21' =>
 ((bif (b21' == false) then some (decide (r13'.1 > 8))
 else some true)).bind fun b22' =>
 ((bif (b22' == false) then (S54 n plan10).bind fun r23' =>
 some (decide (r23' < r13'.1))
 else some true)).bind fun b24' =>
 ((bif (b24' == false) then (S54 n r16'.1).bind fun r25' =>
 some (decide (wr .i64 (2 * r25') > wr .i64 (3 * r13'.1)))
 else some true)).bind fun b26' =>
 ((bif (b26' == false) then (S54 n r14'.1).bind fun r27' =>
 some (r27' != r13'.1)
 else some true)).bind fun b28' =>
 (bif b28' then some false
 else L9_4 n n.1 size5 pieces6 r13'.1 r14'.1 r13'.1 0 [])) := by kernel_rfl
theorem L9_3_raw (n : Nat × Nat) (m1 : Nat) (size5 : Int) (pieces6 : List Int) (half14 : Int) (v89 : Int) (v90 : Int) (plan10 : List Int) (v88 : List Int) : (kq9_18 n m1) { tm := [uu, uu, uu, uu, uu, .c (.int .i64 size5), .c (.sl (.int .i64) pieces6 false), uu, uu, uu, .own 10 none false, uu, uu, uu, .c (.int .i64 half14), uu, uu, uu, uu, uu, uu, uu, uu, uu, uu, uu, uu, uu, uu, uu, uu, uu, uu, uu, uu, uu, uu, uu, uu, uu, uu, uu, uu, uu, uu, uu, uu, uu, uu, uu, uu, uu, uu, uu, uu, uu, uu, uu, uu, uu, uu, uu, uu, uu, uu, uu, uu, uu, uu, uu, uu, uu, uu, uu, uu, uu, uu, uu, uu, uu, uu, uu, uu, uu, uu, uu, uu, uu, .own 88 none false, .c (.int .i64 v89), .c (.int .i64 v90), uu, uu, uu, uu, uu, uu, uu, uu, uu, uu, uu, uu, uu, uu, uu, uu, uu, uu, uu, uu, uu, uu, uu, uu, uu, uu, uu, uu, uu, uu, uu, uu, uu, uu, uu, uu, uu, uu, uu, uu, uu, uu, uu, uu, uu, uu, uu, uu, uu, uu, uu, uu, uu, uu, uu, uu, uu, uu, uu, uu, uu, uu, uu, uu, uu, uu, uu, uu, uu, uu, uu, uu, uu, uu, uu, uu, uu, uu, uu, uu, uu, uu, uu, uu, uu, uu, uu, uu, uu, uu, uu, uu, uu, uu, uu, uu, uu, uu, uu, uu, uu, uu, uu, uu, uu, uu, uu, uu, uu, uu, uu, uu, uu, uu, uu, uu, uu, uu, uu, uu, uu, uu], hp := (upd (upd emp 88 (.arr (.int .i64) v88 false)) 10 (.arr (.int .i64) plan10 false)) } =
    L9_2 n m1 size5 pieces6 half14 v89 (wr .i64 (v90 + 1)) plan10 v88 := by kernel_rfl
theorem L9_4_eq (n : Nat × Nat) (m1 : Nat) (size5 : Int) (pieces6 : List Int) (few17 : Int) (first18 : List Int) (v170 : Int) (v171 : Int) (sorted22 : List Int) : L9_4 n (m1 + 1) size5 pieces6 few17 first18 v170 v171 sorted22 =
 (bif decide (v171 < v170) then L9_5 n m1 n.1 size5 pieces6 few17 first18 v171 v170 v171 first18 (first18.length : Int) 0 sorted22
 else (bif ((sorted22.length : Int) != (pieces6.length : Int)) then some false
 else (S32 n size5 pieces6 sorted22).bind fun r29' =>
 ((bif ((r29'.2 == 0) == true) then (S54 n r29'.1).bind fun r30' =>
 some (r30' == few17)
 else some false)).bind fun b31' =>
 ((bif (b31' == true) then (S17 n).bind fun r32' =>
 some r32'
 else some false)).bind fun b33' =>
 some b33')) := by kernel_rfl
theorem L9_5_eq (n : Nat × Nat) (m1 m2 : Nat) (size5 : Int) (pieces6 : List Int) (few17 : Int) (first18 : List Int) (v23 : Int) (v170 : Int) (v171 : Int) (v174 : List Int) (v175 : Int) (v176 : Int) (sorted22 : List Int) : L9_5 n m1 (m2 + 1) size5 pieces6 few17 first18 v23 v170 v171 v174 v175 v176 sorted22 =
 (bif decide (v176 < v175) then (idx v174 v176).bind fun x34' =>
 (bif (x34' == v23) then (bif decide (sorted22.length + [v176].length ≤ lim) then L9_6 n m1 m2 size5 pieces6 few17 first18 v23 v170 v171 v174 v175 v176 (sorted22 ++ [v176])
 else none)
 else L9_6 n m1 m2 size5 pieces6 few17 first18 v23 v170 v171 v174 v175 v176 sorted22)
 else L9_4 n m1 size5 pieces6 few17 first18 v170 (wr .i64 (v171 + 1)) sorted22) := by kernel_rfl
theorem L9_6_raw (n : Nat × Nat) (m1 m2 : Nat) (size5 : Int) (pieces6 : List Int) (few17 : Int) (first18 : List Int) (v23 : Int) (v170 : Int) (v171 : Int) (v174 : List Int) (v175 : Int) (v176 : Int) (sorted22 : List Int) : (kq9_40 n m1 m2) { tm := [uu, uu, uu, uu, uu, .c (.int .i64 size5), .c (.sl (.int .i64) pieces6 false), uu, uu, uu, uu, uu, uu, uu, uu, uu, uu, .c (.int .i64 few17), .c (.sl (.int .i64) first18 false), uu, uu, uu, .own 22 none false, .c (.int .i64 v23), uu, uu, uu, uu, uu, uu, uu, uu, uu, uu, uu, uu, uu, uu, uu, uu, uu, uu, uu, uu, uu, uu, uu, uu, uu, uu, uu, uu, uu, uu, uu, uu, uu, uu, uu, uu, uu, uu, uu, uu, uu, uu, uu, uu, uu, uu, uu, uu, uu, uu, uu, uu, uu, uu, uu, uu, uu, uu, uu, uu, uu, uu, uu, uu, uu, uu, uu, uu, uu, uu, uu, uu, uu, uu, uu, uu, uu, uu, uu, uu, uu, uu, uu, uu, uu, uu, uu, uu, uu, uu, uu, uu, uu, uu, uu, uu, uu, uu, uu, uu, uu, uu, uu, uu, uu, uu, uu, uu, uu, uu, uu, uu, uu, uu, uu, uu, uu, uu, uu, uu, uu, uu, uu, uu, uu, uu, uu, uu, uu, uu, uu, uu, uu, uu, uu, uu, uu, uu, uu, uu, uu, uu, uu, uu, uu, uu, .c (.int .i64 v170), .c (.int .i64 v171), uu, uu, .c (.sl (.int .i64) v174 false), .c (.int .i64 v175), .c (.int .i64 v176), uu, uu, uu, uu, uu, uu, uu, uu, uu, uu, uu, uu, uu, uu, uu, uu, uu, uu, uu, uu, uu, uu, uu, uu, uu, uu, uu, uu, uu, uu, uu, uu, uu, uu, uu, uu], hp := (upd emp 22 (.arr (.int .i64) sorted22 false)) } =
    L9_5 n m1 m2 size5 pieces6 few17 first18 v23 v170 v171 v174 v175 (wr .i64 (v176 + 1)) sorted22 := by kernel_rfl
noncomputable def S9 (n : Nat × Nat) (s0 : Int × Int × Int × Int × Int × Int × Int × Int × Int × Int × Int) (v1 : Int × Int × Int × Int × Int × Int × Int × Int) : Option R9 := run (E9 n) c9 an9 rt9 (fun _ _ => none) rt9 { tm := [.agg [.int .u8 s0.1, .int .u8 s0.2.1, .int .u8 s0.2.2.1, .int .u8 s0.2.2.2.1, .int .u8 s0.2.2.2.2.1, .int .u8 s0.2.2.2.2.2.1, .int .u8 s0.2.2.2.2.2.2.1, .int .u8 s0.2.2.2.2.2.2.2.1, .int .u8 s0.2.2.2.2.2.2.2.2.1, .int .u8 s0.2.2.2.2.2.2.2.2.2.1, .int .u8 s0.2.2.2.2.2.2.2.2.2.2], .agg [.int .u8 v1.1, .int .u8 v1.2.1, .int .u8 v1.2.2.1, .int .u8 v1.2.2.2.1, .int .u8 v1.2.2.2.2.1, .int .u8 v1.2.2.2.2.2.1, .int .u8 v1.2.2.2.2.2.2.1, .int .u8 v1.2.2.2.2.2.2.2], uu, uu, uu, uu, uu, uu, uu, uu, uu, uu, uu, uu, uu, uu, uu, uu, uu, uu, uu, uu, uu, uu, uu, uu, uu, uu, uu, uu, uu, uu, uu, uu, uu, uu, uu, uu, uu, uu, uu, uu, uu, uu, uu, uu, uu, uu, uu, uu, uu, uu, uu, uu, uu, uu, uu, uu, uu, uu, uu, uu, uu, uu, uu, uu, uu, uu, uu, uu, uu, uu, uu, uu, uu, uu, uu, uu, uu, uu, uu, uu, uu, uu, uu, uu, uu, uu, uu, uu, uu, uu, uu, uu, uu, uu, uu, uu, uu, uu, uu, uu, uu, uu, uu, uu, uu, uu, uu, uu, uu, uu, uu, uu, uu, uu, uu, uu, uu, uu, uu, uu, uu, uu, uu, uu, uu, uu, uu, uu, uu, uu, uu, uu, uu, uu, uu, uu, uu, uu, uu, uu, uu, uu, uu, uu, uu, uu, uu, uu, uu, uu, uu, uu, uu, uu, uu, uu, uu, uu, uu, uu, uu, uu, uu, uu, uu, uu, uu, uu, uu, uu, uu, uu, uu, uu, uu, uu, uu, uu, uu, uu, uu, uu, uu, uu, uu, uu, uu, uu, uu, uu, uu, uu, uu, uu, uu, uu, uu, uu, uu, uu, uu, uu, uu, uu, uu, uu, uu, uu, uu, uu, uu], hp := emp }
theorem S9_eq (n : Nat × Nat) (s0 : Int × Int × Int × Int × Int × Int × Int × Int × Int × Int × Int) (v1 : Int × Int × Int × Int × Int × Int × Int × Int) : S9 n s0 v1 =
 (S48 n s0 8).bind fun r1' =>
 (bif decide (0 ≤ (r1'.2.length : Int)) && decide ((r1'.2.length : Int) ≤ (r1'.2.length : Int)) && decide ((r1'.2.length : Int) ≤ lim) then L9_1 n n.1 r1'.1 r1'.2 ((List.replicate (Int.toNat (r1'.2.length : Int)) (0 : Int)).length : Int) 0 v1.1 v1.2.1 v1.2.2.1 v1.2.2.2.1 v1.2.2.2.2.1 v1.2.2.2.2.2.1 v1.2.2.2.2.2.2.1 v1.2.2.2.2.2.2.2 (List.replicate (Int.toNat (r1'.2.length : Int)) (0 : Int))
 else none) := by kernel_rfl
theorem S9_run (n : Nat × Nat) (xs : pksDen pk9) : S9 n xs.1 xs.2.1 = runG (E9 n) noScope c9 an9 (rtG rk9) (fun _ _ => none) (rtG rk9) (st0 pk9 xs Tryd.f9.ntmps) := by kernel_rfl
noncomputable def P9 (n : Nat × Nat) := phiOf pk9 rk9 (fun xs => S9 n xs.1 xs.2.1)
theorem env9 (n : Nat × Nat) : EnvOK Tryd.prog (E9 n) := envOK0 (consPhi_ok (FC17 n) call17 (consPhi_ok (FC24 n) call24 (consPhi_ok (FC32 n) call32 (consPhi_ok (FC34 n) call34 (consPhi_ok (FC36 n) call36 (consPhi_ok (FC48 n) call48 (consPhi_ok (FC50 n) call50 (consPhi_ok (FC51 n) call51 (consPhi_ok (FC54 n) call54 noPhi_ok))))))))) rfl rfl
theorem par9 (n : Nat × Nat) : EnvPar (E9 n) := envPar0 (consPhi_par phiOf_Par1 (consPhi_par phiOf_Par1 (consPhi_par phiOf_Par1 (consPhi_par phiOf_Par1 (consPhi_par phiOf_Par1 (consPhi_par phiOf_Par1 (consPhi_par phiOf_Par1 (consPhi_par phiOf_Par1 (consPhi_par phiOf_Par1 noPhi_par))))))))) rfl
theorem FC9 (n : Nat × Nat) : FCs Tryd.prog 9 (P9 n) := phiOf_FCs fun xs r h vs hv => FC.of_runG tabOK eqsOK (env9 n) (par9 n) mixed (fun _ p _ => noScope_ok p.1 p.2) Tryd.func9 (c := c9) (an := an9) (pks := pk9) (rks := rk9) (by kernel_rfl) (by kernel_rfl) hv ((S9_run n xs).symm.trans h)
/-D 100 -/
noncomputable def DF100_1 (n : Nat × Nat) (f1 : Int → Int → Option R100) (v0 : Int) (d3 : Int) : Option R100 :=
 (bif decide (d3 < v0) then (bif d3 == 0 then none
 else (bif ((Int.tmod v0 d3) == 0) then some false
 else f1 v0 (wr .i64 (d3 + 1))))
 else some true)
noncomputable def DL100_1 (n : Nat × Nat) (m : Nat) : Int → Int → Option R100 := Nat.rec (motive := fun _ => Int → Int → Option R100) (fun _ _ => none) (fun _ ih => DF100_1 n ih) m
theorem DL100_1_succ (n : Nat × Nat) (m : Nat) : DL100_1 n (m + 1) = DF100_1 n (DL100_1 n m) := rfl
theorem DL100_1_eq (n : Nat × Nat) (hn : n.2 = 1) : ∀ m, L100_1 n m = DL100_1 n m
  | 0 => by funext v0 d3; kernel_rfl
  | m + 1 => by
    have ih := DL100_1_eq n hn m
    funext v0 d3; refine (L100_1_eq n m v0 d3).trans ?_
    rw [DL100_1_succ]
    unfold DF100_1
    (try simp only [ih]) <;> first | with_reducible rfl | rfl
noncomputable def D100 (n : Nat × Nat) (v0 : Int) : Option R100 :=
    DL100_1 n n.1 v0 2
theorem S100_D (n : Nat × Nat) (hn : n.2 = 1) : S100 n = D100 n := by
  funext v0; refine (S100_eq n v0).trans ?_
  unfold D100
  (try simp only [DL100_1_eq n hn]) <;> first | with_reducible rfl | rfl
/-D 89 -/
noncomputable def DL89_4 (n : Nat × Nat) (f1 : Int → Int → List Int → Option R89) (f2 : Int → Int → Int → Int → List Int → Option R89) (v1 : Int) (d6 : Int) (p7 : Int) (q8 : Int) (out5 : List Int) : Option R89 :=
    f2 v1 d6 p7 (wr .i64 (q8 + 1)) out5
theorem DL89_4_eq (n : Nat × Nat) (hn : n.2 = 1) (m1 m2 : Nat) : L89_4 n m1 m2 = DL89_4 n (L89_1 n m1) (L89_3 n m1 m2) := by
  funext v1 d6 p7 q8 out5; refine ((held_eq hn _).trans (L89_4_raw n m1 m2 v1 d6 p7 q8 out5)).trans ?_
  unfold DL89_4
  (try simp only [S100_D n hn]) <;> first | with_reducible rfl | rfl
noncomputable def DF89_3 (n : Nat × Nat) (f1 : Int → Int → List Int → Option R89) (f2 : Int → Int → Int → Int → List Int → Option R89) (v1 : Int) (d6 : Int) (p7 : Int) (q8 : Int) (out5 : List Int) : Option R89 :=
 (bif decide (q8 ≤ d6) then (bif q8 == 0 then none
 else ((bif (((Int.tmod d6 q8) == 0) == true) then (D100 n q8).bind fun r1' =>
 some r1'
 else some false)).bind fun b2' =>
 (bif b2' then DL89_4 n f1 f2 v1 d6 q8 q8 out5
 else DL89_4 n f1 f2 v1 d6 p7 q8 out5))
 else (bif p7 == 0 then none
 else (bif decide (out5.length + [wr .i64 (Int.tdiv d6 p7)].length ≤ lim) then (bif 2 == 0 then none
 else f1 (wr .i64 (Int.tdiv v1 2)) (wr .i64 (Int.tdiv d6 p7)) (out5 ++ [wr .i64 (Int.tdiv d6 p7)]))
 else none)))
noncomputable def DL89_3 (n : Nat × Nat) (f1 : Int → Int → List Int → Option R89) (m : Nat) : Int → Int → Int → Int → List Int → Option R89 := Nat.rec (motive := fun _ => Int → Int → Int → Int → List Int → Option R89) (fun _ _ _ _ _ => none) (fun _ ih => DF89_3 n f1 ih) m
theorem DL89_3_succ (n : Nat × Nat) (f1 : Int → Int → List Int → Option R89) (m : Nat) : DL89_3 n f1 (m + 1) = DF89_3 n f1 (DL89_3 n f1 m) := rfl
theorem DL89_3_eq (n : Nat × Nat) (hn : n.2 = 1) (m1 : Nat) : ∀ m, L89_3 n m1 m = DL89_3 n (L89_1 n m1) m
  | 0 => by funext v1 d6 p7 q8 out5; kernel_rfl
  | m + 1 => by
    have ih := DL89_3_eq n hn m1 m
    funext v1 d6 p7 q8 out5; refine (L89_3_eq n m1 m v1 d6 p7 q8 out5).trans ?_
    rw [DL89_3_succ]
    unfold DF89_3
    (try simp only [ih, DL89_4_eq n hn, S100_D n hn]) <;> first | with_reducible rfl | rfl
noncomputable def DF89_2 (n : Nat × Nat) (f1 : Int → Int → List Int → Option R89) (f2 : Int → Int → Int → List Int → Option R89) (v1 : Int) (d6 : Int) (p7 : Int) (out5 : List Int) : Option R89 :=
 (bif p7 == 0 then none
 else (bif ((Int.tmod d6 p7) != 0) then f2 v1 d6 (wr .i64 (p7 + 1)) out5
 else (bif 2 == 0 then none
 else (bif ((Int.tmod v1 2) == 1) then DL89_3 n f1 n.1 v1 d6 p7 p7 out5
 else (bif p7 == 0 then none
 else (bif decide (out5.length + [wr .i64 (Int.tdiv d6 p7)].length ≤ lim) then (bif 2 == 0 then none
 else f1 (wr .i64 (Int.tdiv v1 2)) (wr .i64 (Int.tdiv d6 p7)) (out5 ++ [wr .i64 (Int.tdiv d6 p7)]))
 else none))))))
noncomputable def DL89_2 (n : Nat × Nat) (f1 : Int → Int → List Int → Option R89) (m : Nat) : Int → Int → Int → List Int → Option R89 := Nat.rec (motive := fun _ => Int → Int → Int → List Int → Option R89) (fun _ _ _ _ => none) (fun _ ih => DF89_2 n f1 ih) m
theorem DL89_2_succ (n : Nat × Nat) (f1 : Int → Int → List Int → Option R89) (m : Nat) : DL89_2 n f1 (m + 1) = DF89_2 n f1 (DL89_2 n f1 m) := rfl
theorem DL89_2_eq (n : Nat × Nat) (hn : n.2 = 1) (m1 : Nat) : ∀ m, L89_2 n m1 m = DL89_2 n (L89_1 n m1) m
  | 0 => by funext v1 d6 p7 out5; kernel_rfl
  | m + 1 => by
    have ih := DL89_2_eq n hn m1 m
    funext v1 d6 p7 out5; refine (L89_2_eq n m1 m v1 d6 p7 out5).trans ?_
    rw [DL89_2_succ]
    unfold DF89_2
    (try simp only [ih, DL89_4_eq n hn, DL89_3_eq n hn, S100_D n hn]) <;> first | with_reducible rfl | rfl
noncomputable def DF89_1 (n : Nat × Nat) (f1 : Int → Int → List Int → Option R89) (v1 : Int) (d6 : Int) (out5 : List Int) : Option R89 :=
 (bif decide (d6 > 1) then DL89_2 n f1 n.1 v1 d6 2 out5
 else some out5)
noncomputable def DL89_1 (n : Nat × Nat) (m : Nat) : Int → Int → List Int → Option R89 := Nat.rec (motive := fun _ => Int → Int → List Int → Option R89) (fun _ _ _ => none) (fun _ ih => DF89_1 n ih) m
theorem DL89_1_succ (n : Nat × Nat) (m : Nat) : DL89_1 n (m + 1) = DF89_1 n (DL89_1 n m) := rfl
theorem DL89_1_eq (n : Nat × Nat) (hn : n.2 = 1) : ∀ m, L89_1 n m = DL89_1 n m
  | 0 => by funext v1 d6 out5; kernel_rfl
  | m + 1 => by
    have ih := DL89_1_eq n hn m
    funext v1 d6 out5; refine (L89_1_eq n m v1 d6 out5).trans ?_
    rw [DL89_1_succ]
    unfold DF89_1
    (try simp only [ih, DL89_4_eq n hn, DL89_3_eq n hn, DL89_2_eq n hn, S100_D n hn]) <;> first | with_reducible rfl | rfl
noncomputable def D89 (n : Nat × Nat) (size0 : Int) (v1 : Int) : Option R89 :=
    DL89_1 n n.1 v1 size0 [size0]
theorem S89_D (n : Nat × Nat) (hn : n.2 = 1) : S89 n = D89 n := by
  funext size0 v1; refine (S89_eq n size0 v1).trans ?_
  unfold D89
  (try simp only [DL89_4_eq n hn, DL89_3_eq n hn, DL89_2_eq n hn, DL89_1_eq n hn, S100_D n hn]) <;> first | with_reducible rfl | rfl
/-D 48 -/
noncomputable def DF48_1 (n : Nat × Nat) (f1 : Int → List Int → Int → Int → List Int → List Int → Option R48) (size6 : Int) (v44 : List Int) (v45 : Int) (v46 : Int) (lengths7 : List Int) (out9 : List Int) : Option R48 :=
 (bif decide (v46 < v45) then (idx v44 v46).bind fun x2' =>
 (bif (lengths7.length : Int) == 0 then none
 else (bif inB (Int.tmod (wr .i64 x2') (lengths7.length : Int)) lengths7.length then (idx lengths7 (Int.tmod (wr .i64 x2') (lengths7.length : Int))).bind fun x3' =>
 (bif decide (out9.length + [x3'].length ≤ lim) then f1 size6 v44 v45 (wr .i64 (v46 + 1)) lengths7 (out9 ++ [x3'])
 else none)
 else none))
 else some (size6, out9))
noncomputable def DL48_1 (n : Nat × Nat) (m : Nat) : Int → List Int → Int → Int → List Int → List Int → Option R48 := Nat.rec (motive := fun _ => Int → List Int → Int → Int → List Int → List Int → Option R48) (fun _ _ _ _ _ _ => none) (fun _ ih => DF48_1 n ih) m
theorem DL48_1_succ (n : Nat × Nat) (m : Nat) : DL48_1 n (m + 1) = DF48_1 n (DL48_1 n m) := rfl
theorem DL48_1_eq (n : Nat × Nat) (hn : n.2 = 1) : ∀ m, L48_1 n m = DL48_1 n m
  | 0 => by funext size6 v44 v45 v46 lengths7 out9; kernel_rfl
  | m + 1 => by
    have ih := DL48_1_eq n hn m
    funext size6 v44 v45 v46 lengths7 out9; refine (L48_1_eq n m size6 v44 v45 v46 lengths7 out9).trans ?_
    rw [DL48_1_succ]
    unfold DF48_1
    (try simp only [ih, S89_D n hn]) <;> first | with_reducible rfl | rfl
noncomputable def DF48_2 (n : Nat × Nat) (f1 : Int → Int → Int → Int → Int → Int → Int → Int → Int → Int → Int → Int → Int → Int → Int → List Int → Option R48) (most1 : Int) (size6 : Int) (v27 : Int) (v28 : Int) (s2_0 : Int) (s2_1 : Int) (s2_2 : Int) (s2_3 : Int) (s2_4 : Int) (s2_5 : Int) (s2_6 : Int) (s2_7 : Int) (s2_8 : Int) (s2_9 : Int) (s2_10 : Int) (lengths7 : List Int) : Option R48 :=
 (bif decide (v28 < v27) then (bif decide (lengths7.length + [wr .i64 (v28 + 1)].length ≤ lim) then f1 most1 size6 v27 (wr .i64 (v28 + 1)) s2_0 s2_1 s2_2 s2_3 s2_4 s2_5 s2_6 s2_7 s2_8 s2_9 s2_10 (lengths7 ++ [wr .i64 (v28 + 1)])
 else none)
 else (bif (wr .i64 (most1 + 1)) == 0 then none
 else (bif bounds none (some (Int.tmod (wr .i64 s2_1) (wr .i64 (most1 + 1)))) none 8 then DL48_1 n n.1 size6 ([s2_3, s2_4, s2_5, s2_6, s2_7, s2_8, s2_9, s2_10].take (Int.toNat (Int.tmod (wr .i64 s2_1) (wr .i64 (most1 + 1))))) (([s2_3, s2_4, s2_5, s2_6, s2_7, s2_8, s2_9, s2_10].take (Int.toNat (Int.tmod (wr .i64 s2_1) (wr .i64 (most1 + 1))))).length : Int) 0 lengths7 []
 else none)))
noncomputable def DL48_2 (n : Nat × Nat) (m : Nat) : Int → Int → Int → Int → Int → Int → Int → Int → Int → Int → Int → Int → Int → Int → Int → List Int → Option R48 := Nat.rec (motive := fun _ => Int → Int → Int → Int → Int → Int → Int → Int → Int → Int → Int → Int → Int → Int → Int → List Int → Option R48) (fun _ _ _ _ _ _ _ _ _ _ _ _ _ _ _ _ => none) (fun _ ih => DF48_2 n ih) m
theorem DL48_2_succ (n : Nat × Nat) (m : Nat) : DL48_2 n (m + 1) = DF48_2 n (DL48_2 n m) := rfl
theorem DL48_2_eq (n : Nat × Nat) (hn : n.2 = 1) : ∀ m, L48_2 n m = DL48_2 n m
  | 0 => by funext most1 size6 v27 v28 s2_0 s2_1 s2_2 s2_3 s2_4 s2_5 s2_6 s2_7 s2_8 s2_9 s2_10 lengths7; kernel_rfl
  | m + 1 => by
    have ih := DL48_2_eq n hn m
    funext most1 size6 v27 v28 s2_0 s2_1 s2_2 s2_3 s2_4 s2_5 s2_6 s2_7 s2_8 s2_9 s2_10 lengths7; refine (L48_2_eq n m most1 size6 v27 v28 s2_0 s2_1 s2_2 s2_3 s2_4 s2_5 s2_6 s2_7 s2_8 s2_9 s2_10 lengths7).trans ?_
    rw [DL48_2_succ]
    unfold DF48_2
    (try simp only [ih, DL48_1_eq n hn, S89_D n hn]) <;> first | with_reducible rfl | rfl
noncomputable def D48 (n : Nat × Nat) (s0 : Int × Int × Int × Int × Int × Int × Int × Int × Int × Int × Int) (most1 : Int) : Option R48 :=
 (bif 24 == 0 then none
 else (bif 2 == 0 then none
 else (bif ((Int.tmod s0.2.2.1 2) == 1) then (bif 2 == 0 then none
 else (D89 n (wr .i64 (1 + (Int.tmod (wr .i64 s0.1) 24))) (wr .i64 (Int.tdiv (wr .i64 s0.2.2.1) 2))).bind fun r1' =>
 (bif (wr .i64 (most1 + 1)) == 0 then none
 else (bif bounds none (some (Int.tmod (wr .i64 s0.2.1) (wr .i64 (most1 + 1)))) none 8 then DL48_1 n n.1 (wr .i64 (1 + (Int.tmod (wr .i64 s0.1) 24))) ([s0.2.2.2.1, s0.2.2.2.2.1, s0.2.2.2.2.2.1, s0.2.2.2.2.2.2.1, s0.2.2.2.2.2.2.2.1, s0.2.2.2.2.2.2.2.2.1, s0.2.2.2.2.2.2.2.2.2.1, s0.2.2.2.2.2.2.2.2.2.2].take (Int.toNat (Int.tmod (wr .i64 s0.2.1) (wr .i64 (most1 + 1))))) (([s0.2.2.2.1, s0.2.2.2.2.1, s0.2.2.2.2.2.1, s0.2.2.2.2.2.2.1, s0.2.2.2.2.2.2.2.1, s0.2.2.2.2.2.2.2.2.1, s0.2.2.2.2.2.2.2.2.2.1, s0.2.2.2.2.2.2.2.2.2.2].take (Int.toNat (Int.tmod (wr .i64 s0.2.1) (wr .i64 (most1 + 1))))).length : Int) 0 r1' []
 else none)))
 else DL48_2 n n.1 most1 (wr .i64 (1 + (Int.tmod (wr .i64 s0.1) 24))) (wr .i64 (1 + (Int.tmod (wr .i64 s0.1) 24))) 0 s0.1 s0.2.1 s0.2.2.1 s0.2.2.2.1 s0.2.2.2.2.1 s0.2.2.2.2.2.1 s0.2.2.2.2.2.2.1 s0.2.2.2.2.2.2.2.1 s0.2.2.2.2.2.2.2.2.1 s0.2.2.2.2.2.2.2.2.2.1 s0.2.2.2.2.2.2.2.2.2.2 [])))
theorem S48_D (n : Nat × Nat) (hn : n.2 = 1) : S48 n = D48 n := by
  funext s0 most1; refine (S48_eq n s0 most1).trans ?_
  unfold D48
  (try simp only [DL48_1_eq n hn, DL48_2_eq n hn, S89_D n hn]) <;> first | with_reducible rfl | rfl
/-D 50 -/
noncomputable def DL50_3 (n : Nat × Nat) (f1 : List Int → Int → List Int → Option R50) (f2 : List Int → Int → List Int → Int → Int → List Int → Option R50) (pieces0 : List Int) (length4 : Int) (v11 : List Int) (v12 : Int) (v13 : Int) (out3 : List Int) : Option R50 :=
    f2 pieces0 length4 v11 v12 (wr .i64 (v13 + 1)) out3
theorem DL50_3_eq (n : Nat × Nat) (hn : n.2 = 1) (m1 m2 : Nat) : L50_3 n m1 m2 = DL50_3 n (L50_1 n m1) (L50_2 n m1 m2) := by
  funext pieces0 length4 v11 v12 v13 out3; refine ((held_eq hn _).trans (L50_3_raw n m1 m2 pieces0 length4 v11 v12 v13 out3)).trans ?_
  unfold DL50_3
  first | with_reducible rfl | rfl
noncomputable def DF50_2 (n : Nat × Nat) (f1 : List Int → Int → List Int → Option R50) (f2 : List Int → Int → List Int → Int → Int → List Int → Option R50) (pieces0 : List Int) (length4 : Int) (v11 : List Int) (v12 : Int) (v13 : Int) (out3 : List Int) : Option R50 :=
 (bif decide (v13 < v12) then (idx v11 v13).bind fun x1' =>
 (bif (x1' == length4) then (bif decide (out3.length + [v13].length ≤ lim) then DL50_3 n f1 f2 pieces0 length4 v11 v12 v13 (out3 ++ [v13])
 else none)
 else DL50_3 n f1 f2 pieces0 length4 v11 v12 v13 out3)
 else f1 pieces0 (wr .i64 (length4 - 1)) out3)
noncomputable def DL50_2 (n : Nat × Nat) (f1 : List Int → Int → List Int → Option R50) (m : Nat) : List Int → Int → List Int → Int → Int → List Int → Option R50 := Nat.rec (motive := fun _ => List Int → Int → List Int → Int → Int → List Int → Option R50) (fun _ _ _ _ _ _ => none) (fun _ ih => DF50_2 n f1 ih) m
theorem DL50_2_succ (n : Nat × Nat) (f1 : List Int → Int → List Int → Option R50) (m : Nat) : DL50_2 n f1 (m + 1) = DF50_2 n f1 (DL50_2 n f1 m) := rfl
theorem DL50_2_eq (n : Nat × Nat) (hn : n.2 = 1) (m1 : Nat) : ∀ m, L50_2 n m1 m = DL50_2 n (L50_1 n m1) m
  | 0 => by funext pieces0 length4 v11 v12 v13 out3; kernel_rfl
  | m + 1 => by
    have ih := DL50_2_eq n hn m1 m
    funext pieces0 length4 v11 v12 v13 out3; refine (L50_2_eq n m1 m pieces0 length4 v11 v12 v13 out3).trans ?_
    rw [DL50_2_succ]
    unfold DF50_2
    (try simp only [ih, DL50_3_eq n hn]) <;> first | with_reducible rfl | rfl
noncomputable def DF50_1 (n : Nat × Nat) (f1 : List Int → Int → List Int → Option R50) (pieces0 : List Int) (length4 : Int) (out3 : List Int) : Option R50 :=
 (bif decide (length4 > 0) then DL50_2 n f1 n.1 pieces0 length4 pieces0 (pieces0.length : Int) 0 out3
 else some out3)
noncomputable def DL50_1 (n : Nat × Nat) (m : Nat) : List Int → Int → List Int → Option R50 := Nat.rec (motive := fun _ => List Int → Int → List Int → Option R50) (fun _ _ _ => none) (fun _ ih => DF50_1 n ih) m
theorem DL50_1_succ (n : Nat × Nat) (m : Nat) : DL50_1 n (m + 1) = DF50_1 n (DL50_1 n m) := rfl
theorem DL50_1_eq (n : Nat × Nat) (hn : n.2 = 1) : ∀ m, L50_1 n m = DL50_1 n m
  | 0 => by funext pieces0 length4 out3; kernel_rfl
  | m + 1 => by
    have ih := DL50_1_eq n hn m
    funext pieces0 length4 out3; refine (L50_1_eq n m pieces0 length4 out3).trans ?_
    rw [DL50_1_succ]
    unfold DF50_1
    (try simp only [ih, DL50_3_eq n hn, DL50_2_eq n hn]) <;> first | with_reducible rfl | rfl
noncomputable def D50 (n : Nat × Nat) (pieces0 : List Int) : Option R50 :=
    DL50_1 n n.1 pieces0 24 []
theorem S50_D (n : Nat × Nat) (hn : n.2 = 1) : S50 n = D50 n := by
  funext pieces0; refine (S50_eq n pieces0).trans ?_
  unfold D50
  (try simp only [DL50_3_eq n hn, DL50_2_eq n hn, DL50_1_eq n hn]) <;> first | with_reducible rfl | rfl
/-D 51 -/
noncomputable def DF51_2 (n : Nat × Nat) (f1 : Int → List Int → List Int → Int → Int → List Int → List Int → Option R51) (f2 : Int → List Int → Int → Int → List Int → Int → Int → List Int → List Int → Option R51) (size0 : Int) (pieces1 : List Int) (i11 : Int) (s12 : Int) (v22 : List Int) (v23 : Int) (v24 : Int) (v8 : List Int) (left9 : List Int) : Option R51 :=
 ((bif (decide (s12 < (left9.length : Int)) == true) then (bif inB s12 left9.length then (idx left9 s12).bind fun x2' =>
 (idx pieces1 i11).bind fun x3' =>
 some (decide (x2' < x3'))
 else none)
 else some false)).bind fun b4' =>
 (bif b4' then f2 size0 pieces1 i11 (wr .i64 (s12 + 1)) v22 v23 v24 v8 left9
 else (bif (s12 == (left9.length : Int)) then (bif decide (left9.length + [size0].length ≤ lim) then (bif inB s12 (left9 ++ [size0]).length then (idx (left9 ++ [size0]) s12).bind fun x5' =>
 (idx pieces1 i11).bind fun x6' =>
 (bif inB s12 (left9 ++ [size0]).length then (idx (left9 ++ [size0]) s12).bind fun x7' =>
 (bif inB i11 v8.length then (idx v8 i11).bind fun x8' =>
                f1 size0 pieces1 v22 v23 (wr .i64 (v24 + 1)) (v8.set (Int.toNat i11) s12) ((left9 ++ [size0]).set (Int.toNat s12) (wr .i64 (x5' - x6')))
 else none)
 else none)
 else none)
 else none)
 else (bif inB s12 left9.length then (idx left9 s12).bind fun x9' =>
 (idx pieces1 i11).bind fun x10' =>
 (bif inB s12 left9.length then (idx left9 s12).bind fun x11' =>
 (bif inB i11 v8.length then (idx v8 i11).bind fun x12' =>
              f1 size0 pieces1 v22 v23 (wr .i64 (v24 + 1)) (v8.set (Int.toNat i11) s12) (left9.set (Int.toNat s12) (wr .i64 (x9' - x10')))
 else none)
 else none)
 else none)))
noncomputable def DL51_2 (n : Nat × Nat) (f1 : Int → List Int → List Int → Int → Int → List Int → List Int → Option R51) (m : Nat) : Int → List Int → Int → Int → List Int → Int → Int → List Int → List Int → Option R51 := Nat.rec (motive := fun _ => Int → List Int → Int → Int → List Int → Int → Int → List Int → List Int → Option R51) (fun _ _ _ _ _ _ _ _ _ => none) (fun _ ih => DF51_2 n f1 ih) m
theorem DL51_2_succ (n : Nat × Nat) (f1 : Int → List Int → List Int → Int → Int → List Int → List Int → Option R51) (m : Nat) : DL51_2 n f1 (m + 1) = DF51_2 n f1 (DL51_2 n f1 m) := rfl
theorem DL51_2_eq (n : Nat × Nat) (hn : n.2 = 1) (m1 : Nat) : ∀ m, L51_2 n m1 m = DL51_2 n (L51_1 n m1) m
  | 0 => by funext size0 pieces1 i11 s12 v22 v23 v24 v8 left9; kernel_rfl
  | m + 1 => by
    have ih := DL51_2_eq n hn m1 m
    funext size0 pieces1 i11 s12 v22 v23 v24 v8 left9; refine (L51_2_eq n m1 m size0 pieces1 i11 s12 v22 v23 v24 v8 left9).trans ?_
    rw [DL51_2_succ]
    unfold DF51_2
    (try simp only [ih]) <;> first | with_reducible rfl | rfl
noncomputable def DF51_3 (n : Nat × Nat) (f1 : Int → Int → List Int → (List (Int × Int)) → List Int → List Int → Option R51) (v70 : Int) (v71 : Int) (left9 : List Int) (name13 : List (Int × Int)) (plan14 : List Int) (v69 : List Int) : Option R51 :=
 (bif decide (v71 < v70) then (bif inB v71 v69.length then (idx v69 v71).bind fun x13' =>
 (bif (!((alook name13 x13').isSome)) then (bif decide (plan14.length + [((alook (aset name13 x13' (name13.length : Int)) x13').getD 0)].length ≤ lim) then f1 v70 (wr .i64 (v71 + 1)) left9 (aset name13 x13' (name13.length : Int)) (plan14 ++ [((alook (aset name13 x13' (name13.length : Int)) x13').getD 0)]) v69
 else none)
 else (bif decide (plan14.length + [((alook name13 x13').getD 0)].length ≤ lim) then f1 v70 (wr .i64 (v71 + 1)) left9 name13 (plan14 ++ [((alook name13 x13').getD 0)]) v69
 else none))
 else none)
 else some (plan14, left9))
noncomputable def DL51_3 (n : Nat × Nat) (m : Nat) : Int → Int → List Int → (List (Int × Int)) → List Int → List Int → Option R51 := Nat.rec (motive := fun _ => Int → Int → List Int → (List (Int × Int)) → List Int → List Int → Option R51) (fun _ _ _ _ _ _ => none) (fun _ ih => DF51_3 n ih) m
theorem DL51_3_succ (n : Nat × Nat) (m : Nat) : DL51_3 n (m + 1) = DF51_3 n (DL51_3 n m) := rfl
theorem DL51_3_eq (n : Nat × Nat) (hn : n.2 = 1) : ∀ m, L51_3 n m = DL51_3 n m
  | 0 => by funext v70 v71 left9 name13 plan14 v69; kernel_rfl
  | m + 1 => by
    have ih := DL51_3_eq n hn m
    funext v70 v71 left9 name13 plan14 v69; refine (L51_3_eq n m v70 v71 left9 name13 plan14 v69).trans ?_
    rw [DL51_3_succ]
    unfold DF51_3
    (try simp only [ih, DL51_2_eq n hn]) <;> first | with_reducible rfl | rfl
noncomputable def DF51_1 (n : Nat × Nat) (f1 : Int → List Int → List Int → Int → Int → List Int → List Int → Option R51) (size0 : Int) (pieces1 : List Int) (v22 : List Int) (v23 : Int) (v24 : Int) (v8 : List Int) (left9 : List Int) : Option R51 :=
 (bif decide (v24 < v23) then (idx v22 v24).bind fun x1' =>
      DL51_2 n f1 n.1 size0 pieces1 x1' 0 v22 v23 v24 v8 left9
 else DL51_3 n n.1 (v8.length : Int) 0 left9 [] [] v8)
noncomputable def DL51_1 (n : Nat × Nat) (m : Nat) : Int → List Int → List Int → Int → Int → List Int → List Int → Option R51 := Nat.rec (motive := fun _ => Int → List Int → List Int → Int → Int → List Int → List Int → Option R51) (fun _ _ _ _ _ _ _ => none) (fun _ ih => DF51_1 n ih) m
theorem DL51_1_succ (n : Nat × Nat) (m : Nat) : DL51_1 n (m + 1) = DF51_1 n (DL51_1 n m) := rfl
theorem DL51_1_eq (n : Nat × Nat) (hn : n.2 = 1) : ∀ m, L51_1 n m = DL51_1 n m
  | 0 => by funext size0 pieces1 v22 v23 v24 v8 left9; kernel_rfl
  | m + 1 => by
    have ih := DL51_1_eq n hn m
    funext size0 pieces1 v22 v23 v24 v8 left9; refine (L51_1_eq n m size0 pieces1 v22 v23 v24 v8 left9).trans ?_
    rw [DL51_1_succ]
    unfold DF51_1
    (try simp only [ih, DL51_2_eq n hn, DL51_3_eq n hn]) <;> first | with_reducible rfl | rfl
noncomputable def D51 (n : Nat × Nat) (size0 : Int) (pieces1 : List Int) (order2 : List Int) : Option R51 :=
 (bif decide (0 ≤ (pieces1.length : Int)) && decide ((pieces1.length : Int) ≤ (pieces1.length : Int)) && decide ((pieces1.length : Int) ≤ lim) then DL51_1 n n.1 size0 pieces1 order2 (order2.length : Int) 0 (List.replicate (Int.toNat (pieces1.length : Int)) (0 : Int)) []
 else none)
theorem S51_D (n : Nat × Nat) (hn : n.2 = 1) : S51 n = D51 n := by
  funext size0 pieces1 order2; refine (S51_eq n size0 pieces1 order2).trans ?_
  unfold D51
  (try simp only [DL51_2_eq n hn, DL51_3_eq n hn, DL51_1_eq n hn]) <;> first | with_reducible rfl | rfl
/-D 54 -/
noncomputable def DF54_1 (n : Nat × Nat) (f1 : Int → List Int → Int → Int → Option R54) (v3 : Int) (v6 : List Int) (v7 : Int) (v8 : Int) : Option R54 :=
 (bif decide (v8 < v7) then (idx v6 v8).bind fun x1' =>
      f1 (if (wr .i64 (x1' + 1)) > v3 then (wr .i64 (x1' + 1)) else v3) v6 v7 (wr .i64 (v8 + 1))
 else some v3)
noncomputable def DL54_1 (n : Nat × Nat) (m : Nat) : Int → List Int → Int → Int → Option R54 := Nat.rec (motive := fun _ => Int → List Int → Int → Int → Option R54) (fun _ _ _ _ => none) (fun _ ih => DF54_1 n ih) m
theorem DL54_1_succ (n : Nat × Nat) (m : Nat) : DL54_1 n (m + 1) = DF54_1 n (DL54_1 n m) := rfl
theorem DL54_1_eq (n : Nat × Nat) (hn : n.2 = 1) : ∀ m, L54_1 n m = DL54_1 n m
  | 0 => by funext v3 v6 v7 v8; kernel_rfl
  | m + 1 => by
    have ih := DL54_1_eq n hn m
    funext v3 v6 v7 v8; refine (L54_1_eq n m v3 v6 v7 v8).trans ?_
    rw [DL54_1_succ]
    unfold DF54_1
    (try simp only [ih]) <;> first | with_reducible rfl | rfl
noncomputable def D54 (n : Nat × Nat) (plan0 : List Int) : Option R54 :=
    DL54_1 n n.1 0 plan0 (plan0.length : Int) 0
theorem S54_D (n : Nat × Nat) (hn : n.2 = 1) : S54 n = D54 n := by
  funext plan0; refine (S54_eq n plan0).trans ?_
  unfold D54
  (try simp only [DL54_1_eq n hn]) <;> first | with_reducible rfl | rfl
/-D 9 -/
noncomputable def DL9_3 (n : Nat × Nat) (f1 : Int → List Int → Int → Int → Int → List Int → List Int → Option R9) (size5 : Int) (pieces6 : List Int) (half14 : Int) (v89 : Int) (v90 : Int) (plan10 : List Int) (v88 : List Int) : Option R9 :=
    f1 size5 pieces6 half14 v89 (wr .i64 (v90 + 1)) plan10 v88
theorem DL9_3_eq (n : Nat × Nat) (hn : n.2 = 1) (m1 : Nat) : L9_3 n m1 = DL9_3 n (L9_2 n m1) := by
  funext size5 pieces6 half14 v89 v90 plan10 v88; refine ((held_eq hn _).trans (L9_3_raw n m1 size5 pieces6 half14 v89 v90 plan10 v88)).trans ?_
  unfold DL9_3
  (try simp only [S17_D n hn, S24_D n hn, S32_D n hn, S34_D n hn, S36_D n hn, S48_D n hn, S50_D n hn, S51_D n hn, S54_D n hn]) <;> first | with_reducible rfl | rfl
noncomputable def DL9_6 (n : Nat × Nat) (f1 : Int → List Int → Int → List Int → Int → Int → List Int → Option R9) (f2 : Int → List Int → Int → List Int → Int → Int → Int → List Int → Int → Int → List Int → Option R9) (size5 : Int) (pieces6 : List Int) (few17 : Int) (first18 : List Int) (v23 : Int) (v170 : Int) (v171 : Int) (v174 : List Int) (v175 : Int) (v176 : Int) (sorted22 : List Int) : Option R9 :=
    f2 size5 pieces6 few17 first18 v23 v170 v171 v174 v175 (wr .i64 (v176 + 1)) sorted22
theorem DL9_6_eq (n : Nat × Nat) (hn : n.2 = 1) (m1 m2 : Nat) : L9_6 n m1 m2 = DL9_6 n (L9_4 n m1) (L9_5 n m1 m2) := by
  funext size5 pieces6 few17 first18 v23 v170 v171 v174 v175 v176 sorted22; refine ((held_eq hn _).trans (L9_6_raw n m1 m2 size5 pieces6 few17 first18 v23 v170 v171 v174 v175 v176 sorted22)).trans ?_
  unfold DL9_6
  (try simp only [DL9_3_eq n hn, S17_D n hn, S24_D n hn, S32_D n hn, S34_D n hn, S36_D n hn, S48_D n hn, S50_D n hn, S51_D n hn, S54_D n hn]) <;> first | with_reducible rfl | rfl
noncomputable def DF9_5 (n : Nat × Nat) (f1 : Int → List Int → Int → List Int → Int → Int → List Int → Option R9) (f2 : Int → List Int → Int → List Int → Int → Int → Int → List Int → Int → Int → List Int → Option R9) (size5 : Int) (pieces6 : List Int) (few17 : Int) (first18 : List Int) (v23 : Int) (v170 : Int) (v171 : Int) (v174 : List Int) (v175 : Int) (v176 : Int) (sorted22 : List Int) : Option R9 :=
 (bif decide (v176 < v175) then (idx v174 v176).bind fun x34' =>
 (bif (x34' == v23) then (bif decide (sorted22.length + [v176].length ≤ lim) then DL9_6 n f1 f2 size5 pieces6 few17 first18 v23 v170 v171 v174 v175 v176 (sorted22 ++ [v176])
 else none)
 else DL9_6 n f1 f2 size5 pieces6 few17 first18 v23 v170 v171 v174 v175 v176 sorted22)
 else f1 size5 pieces6 few17 first18 v170 (wr .i64 (v171 + 1)) sorted22)
noncomputable def DL9_5 (n : Nat × Nat) (f1 : Int → List Int → Int → List Int → Int → Int → List Int → Option R9) (m : Nat) : Int → List Int → Int → List Int → Int → Int → Int → List Int → Int → Int → List Int → Option R9 := Nat.rec (motive := fun _ => Int → List Int → Int → List Int → Int → Int → Int → List Int → Int → Int → List Int → Option R9) (fun _ _ _ _ _ _ _ _ _ _ _ => none) (fun _ ih => DF9_5 n f1 ih) m
theorem DL9_5_succ (n : Nat × Nat) (f1 : Int → List Int → Int → List Int → Int → Int → List Int → Option R9) (m : Nat) : DL9_5 n f1 (m + 1) = DF9_5 n f1 (DL9_5 n f1 m) := rfl
theorem DL9_5_eq (n : Nat × Nat) (hn : n.2 = 1) (m1 : Nat) : ∀ m, L9_5 n m1 m = DL9_5 n (L9_4 n m1) m
  | 0 => by funext size5 pieces6 few17 first18 v23 v170 v171 v174 v175 v176 sorted22; kernel_rfl
  | m + 1 => by
    have ih := DL9_5_eq n hn m1 m
    funext size5 pieces6 few17 first18 v23 v170 v171 v174 v175 v176 sorted22; refine (L9_5_eq n m1 m size5 pieces6 few17 first18 v23 v170 v171 v174 v175 v176 sorted22).trans ?_
    rw [DL9_5_succ]
    unfold DF9_5
    (try simp only [ih, DL9_3_eq n hn, DL9_6_eq n hn, S17_D n hn, S24_D n hn, S32_D n hn, S34_D n hn, S36_D n hn, S48_D n hn, S50_D n hn, S51_D n hn, S54_D n hn]) <;> first | with_reducible rfl | rfl
noncomputable def DF9_4 (n : Nat × Nat) (f1 : Int → List Int → Int → List Int → Int → Int → List Int → Option R9) (size5 : Int) (pieces6 : List Int) (few17 : Int) (first18 : List Int) (v170 : Int) (v171 : Int) (sorted22 : List Int) : Option R9 :=
 (bif decide (v171 < v170) then DL9_5 n f1 n.1 size5 pieces6 few17 first18 v171 v170 v171 first18 (first18.length : Int) 0 sorted22
 else (bif ((sorted22.length : Int) != (pieces6.length : Int)) then some false
 else (D32 n size5 pieces6 sorted22).bind fun r29' =>
 ((bif ((r29'.2 == 0) == true) then (D54 n r29'.1).bind fun r30' =>
 some (r30' == few17)
 else some false)).bind fun b31' =>
 ((bif (b31' == true) then (D17 n).bind fun r32' =>
 some r32'
 else some false)).bind fun b33' =>
 some b33'))
noncomputable def DL9_4 (n : Nat × Nat) (m : Nat) : Int → List Int → Int → List Int → Int → Int → List Int → Option R9 := Nat.rec (motive := fun _ => Int → List Int → Int → List Int → Int → Int → List Int → Option R9) (fun _ _ _ _ _ _ _ => none) (fun _ ih => DF9_4 n ih) m
theorem DL9_4_succ (n : Nat × Nat) (m : Nat) : DL9_4 n (m + 1) = DF9_4 n (DL9_4 n m) := rfl
theorem DL9_4_eq (n : Nat × Nat) (hn : n.2 = 1) : ∀ m, L9_4 n m = DL9_4 n m
  | 0 => by funext size5 pieces6 few17 first18 v170 v171 sorted22; kernel_rfl
  | m + 1 => by
    have ih := DL9_4_eq n hn m
    funext size5 pieces6 few17 first18 v170 v171 sorted22; refine (L9_4_eq n m size5 pieces6 few17 first18 v170 v171 sorted22).trans ?_
    rw [DL9_4_succ]
    unfold DF9_4
    (try simp only [ih, DL9_3_eq n hn, DL9_6_eq n hn, DL9_5_eq n hn, S17_D n hn, S24_D n hn, S32_D n hn, S34_D n hn, S36_D n hn, S48_D n hn, S50_D n hn, S51_D n hn, S54_D n hn]) <;> first | with_reducible rfl | rfl
noncomputable def DF9_2 (n : Nat × Nat) (f1 : Int → List Int → Int → Int → Int → List Int → List Int → Option R9) (size5 : Int) (pieces6 : List Int) (half14 : Int) (v89 : Int) (v90 : Int) (plan10 : List Int) (v88 : List Int) : Option R9 :=
 (bif decide (v90 < v89) then (bif inB v90 v88.length then (idx v88 v90).bind fun x12' =>
 (bif decide (wr .i64 (2 * x12') ≥ size5) then DL9_3 n f1 size5 pieces6 (wr .i64 (half14 + 1)) v89 v90 plan10 v88
 else DL9_3 n f1 size5 pieces6 half14 v89 v90 plan10 v88)
 else none)
 else (D34 n size5 pieces6).bind fun r13' =>
 (D36 n size5 pieces6).bind fun r14' =>
 (D50 n pieces6).bind fun r15' =>
 (D32 n size5 pieces6 r15').bind fun r16' =>
 ((bif (decide (half14 > 1) == false) then some (r13'.2 != 0)
 else some true)).bind fun b17' =>
 ((bif (b17' == false) then some (r14'.2 != 0)
 else some true)).bind fun b18' =>
 ((bif (b18' == false) then some (r16'.2 != 0)
 else some true)).bind fun b19' =>
 ((bif (b19' == false) then some ((r14'.1.length : Int) != (pieces6.length : Int))
 else some true)).bind fun b20' =>
 ((bif (b20' == false) then some (decide (r13'.1 < 0))
 else some true)).bind fun b21' =>
 ((bif (b21' == false) then some (decide (r13'.1 > 8))
 else some true)).bind fun b22' =>
 ((bif (b22' == false) then (D54 n plan10).bind fun r23' =>
 some (decide (r23' < r13'.1))
 else some true)).bind fun b24' =>
 ((bif (b24' == false) then (D54 n r16'.1).bind fun r25' =>
 some (decide (wr .i64 (2 * r25') > wr .i64 (3 * r13'.1)))
 else some true)).bind fun b26' =>
 ((bif (b26' == false) then (D54 n r14'.1).bind fun r27' =>
 some (r27' != r13'.1)
 else some true)).bind fun b28' =>
 (bif b28' then some false
 else DL9_4 n n.1 size5 pieces6 r13'.1 r14'.1 r13'.1 0 []))
noncomputable def DL9_2 (n : Nat × Nat) (m : Nat) : Int → List Int → Int → Int → Int → List Int → List Int → Option R9 := Nat.rec (motive := fun _ => Int → List Int → Int → Int → Int → List Int → List Int → Option R9) (fun _ _ _ _ _ _ _ => none) (fun _ ih => DF9_2 n ih) m
theorem DL9_2_succ (n : Nat × Nat) (m : Nat) : DL9_2 n (m + 1) = DF9_2 n (DL9_2 n m) := rfl
theorem DL9_2_eq (n : Nat × Nat) (hn : n.2 = 1) : ∀ m, L9_2 n m = DL9_2 n m
  | 0 => by funext size5 pieces6 half14 v89 v90 plan10 v88; kernel_rfl
  | m + 1 => by
    have ih := DL9_2_eq n hn m
    funext size5 pieces6 half14 v89 v90 plan10 v88; refine (L9_2_eq n m size5 pieces6 half14 v89 v90 plan10 v88).trans ?_
    rw [DL9_2_succ]
    unfold DF9_2
    (try simp only [ih, DL9_3_eq n hn, DL9_6_eq n hn, DL9_5_eq n hn, DL9_4_eq n hn, S17_D n hn, S24_D n hn, S32_D n hn, S34_D n hn, S36_D n hn, S48_D n hn, S50_D n hn, S51_D n hn, S54_D n hn]) <;> first | with_reducible rfl | rfl
noncomputable def DF9_1 (n : Nat × Nat) (f1 : Int → List Int → Int → Int → Int → Int → Int → Int → Int → Int → Int → Int → List Int → Option R9) (size5 : Int) (pieces6 : List Int) (v36 : Int) (v37 : Int) (v3_0 : Int) (v3_1 : Int) (v3_2 : Int) (v3_3 : Int) (v3_4 : Int) (v3_5 : Int) (v3_6 : Int) (v3_7 : Int) (order7 : List Int) : Option R9 :=
 (bif decide (v37 < v36) then (bif inB v37 order7.length then (idx order7 v37).bind fun x2' =>
 (bif inB v37 8 then (idx [v3_0, v3_1, v3_2, v3_3, v3_4, v3_5, v3_6, v3_7] v37).bind fun x3' =>
 (bif (wr .i64 (v37 + 1)) == 0 then none
 else (bif inB (Int.tmod (wr .i64 x3') (wr .i64 (v37 + 1))) (order7.set (Int.toNat v37) v37).length then (idx (order7.set (Int.toNat v37) v37) (Int.tmod (wr .i64 x3') (wr .i64 (v37 + 1)))).bind fun x4' =>
 (bif inB v37 (order7.set (Int.toNat v37) v37).length then (idx (order7.set (Int.toNat v37) v37) v37).bind fun x5' =>
 (bif inB v37 (order7.set (Int.toNat v37) v37).length then (idx (order7.set (Int.toNat v37) v37) v37).bind fun x6' =>
 (bif inB (Int.tmod (wr .i64 x3') (wr .i64 (v37 + 1))) ((order7.set (Int.toNat v37) v37).set (Int.toNat v37) x4').length then (idx ((order7.set (Int.toNat v37) v37).set (Int.toNat v37) x4') (Int.tmod (wr .i64 x3') (wr .i64 (v37 + 1)))).bind fun x7' =>
                    f1 size5 pieces6 v36 (wr .i64 (v37 + 1)) v3_0 v3_1 v3_2 v3_3 v3_4 v3_5 v3_6 v3_7 (((order7.set (Int.toNat v37) v37).set (Int.toNat v37) x4').set (Int.toNat (Int.tmod (wr .i64 x3') (wr .i64 (v37 + 1)))) x5')
 else none)
 else none)
 else none)
 else none))
 else none)
 else none)
 else (D51 n size5 pieces6 order7).bind fun r8' =>
 (D32 n size5 pieces6 order7).bind fun r9' =>
 ((bif ((r9'.2 != 0) == false) then (D24 n r9'.1 r8'.1).bind fun r10' =>
 some (!r10')
 else some true)).bind fun b11' =>
 (bif b11' then some false
 else DL9_2 n n.1 size5 pieces6 0 (r8'.2.length : Int) 0 r8'.1 r8'.2))
noncomputable def DL9_1 (n : Nat × Nat) (m : Nat) : Int → List Int → Int → Int → Int → Int → Int → Int → Int → Int → Int → Int → List Int → Option R9 := Nat.rec (motive := fun _ => Int → List Int → Int → Int → Int → Int → Int → Int → Int → Int → Int → Int → List Int → Option R9) (fun _ _ _ _ _ _ _ _ _ _ _ _ _ => none) (fun _ ih => DF9_1 n ih) m
theorem DL9_1_succ (n : Nat × Nat) (m : Nat) : DL9_1 n (m + 1) = DF9_1 n (DL9_1 n m) := rfl
theorem DL9_1_eq (n : Nat × Nat) (hn : n.2 = 1) : ∀ m, L9_1 n m = DL9_1 n m
  | 0 => by funext size5 pieces6 v36 v37 v3_0 v3_1 v3_2 v3_3 v3_4 v3_5 v3_6 v3_7 order7; kernel_rfl
  | m + 1 => by
    have ih := DL9_1_eq n hn m
    funext size5 pieces6 v36 v37 v3_0 v3_1 v3_2 v3_3 v3_4 v3_5 v3_6 v3_7 order7; refine (L9_1_eq n m size5 pieces6 v36 v37 v3_0 v3_1 v3_2 v3_3 v3_4 v3_5 v3_6 v3_7 order7).trans ?_
    rw [DL9_1_succ]
    unfold DF9_1
    (try simp only [ih, DL9_3_eq n hn, DL9_6_eq n hn, DL9_5_eq n hn, DL9_4_eq n hn, DL9_2_eq n hn, S17_D n hn, S24_D n hn, S32_D n hn, S34_D n hn, S36_D n hn, S48_D n hn, S50_D n hn, S51_D n hn, S54_D n hn]) <;> first | with_reducible rfl | rfl
noncomputable def D9 (n : Nat × Nat) (s0 : Int × Int × Int × Int × Int × Int × Int × Int × Int × Int × Int) (v1 : Int × Int × Int × Int × Int × Int × Int × Int) : Option R9 :=
 (D48 n s0 8).bind fun r1' =>
 (bif decide (0 ≤ (r1'.2.length : Int)) && decide ((r1'.2.length : Int) ≤ (r1'.2.length : Int)) && decide ((r1'.2.length : Int) ≤ lim) then DL9_1 n n.1 r1'.1 r1'.2 ((List.replicate (Int.toNat (r1'.2.length : Int)) (0 : Int)).length : Int) 0 v1.1 v1.2.1 v1.2.2.1 v1.2.2.2.1 v1.2.2.2.2.1 v1.2.2.2.2.2.1 v1.2.2.2.2.2.2.1 v1.2.2.2.2.2.2.2 (List.replicate (Int.toNat (r1'.2.length : Int)) (0 : Int))
 else none)
theorem S9_D (n : Nat × Nat) (hn : n.2 = 1) : S9 n = D9 n := by
  funext s0 v1; refine (S9_eq n s0 v1).trans ?_
  unfold D9
  (try simp only [DL9_3_eq n hn, DL9_6_eq n hn, DL9_5_eq n hn, DL9_4_eq n hn, DL9_2_eq n hn, DL9_1_eq n hn, S17_D n hn, S24_D n hn, S32_D n hn, S34_D n hn, S36_D n hn, S48_D n hn, S50_D n hn, S51_D n hn, S54_D n hn]) <;> first | with_reducible rfl | rfl
/-D 13 -/
end Go.Proofs.YtgmonagekfjnmaaDoor
set_option linter.unusedVariables false
set_option linter.unusedSimpArgs false
namespace Go.Proofs.YtgmonagekfjnmaaDoor
open Go.Vi
abbrev N : Nat × Nat := (1000000, 1)
theorem works_eq : D17 N = some true := by kernel_rfl
end Go.Proofs.YtgmonagekfjnmaaDoor
set_option linter.unusedVariables false
set_option linter.unusedSimpArgs false
set_option maxRecDepth 100000
namespace Go.Proofs.YtgmonagekfjnmaaDoor
open Go.Vi
noncomputable def c3 : Code := bodyOf Tryd.f3
/-D 16 -/
/-D 72 -/
/-D 27 -/
/-D 67 -/
/-D 68 -/
/-D 29 -/
/-D 19 -/
/-D 21 -/
/-D 73 -/
/-D 74 -/
/-D 23 -/
/-D 3 -/
end Go.Proofs.YtgmonagekfjnmaaDoor
set_option linter.unusedVariables false
set_option linter.unusedSimpArgs false
namespace Go.Proofs.YtgmonagekfjnmaaDoor
open Go.Vi
theorem hN1 : 1000 ≤ N.1 := by decide
theorem wr_ok {x : Int} (h1 : -9223372036854775808 ≤ x) (h2 : x ≤ 9223372036854775807) : wr .i64 x = x := by
  have : wr .i64 x = (x + 9223372036854775808) % 18446744073709551616 - 9223372036854775808 := by
    simp only [wr, IntKind.wrap, IntKind.signed, IntKind.bits]
    simp
    split <;> omega
  rw [this]
  omega
theorem wr_succ {k : Nat} (h : k < 1000000) : wr .i64 ((k : Int) + 1) = ((k + 1 : Nat) : Int) := by
  rw [wr_ok (by omega) (by omega)]; omega
theorem idx_nat {α : Type} {l : List α} {k : Nat} (h : k < l.length) : idx l (k : Int) = some l[k] := by
  unfold idx
  rw [if_pos (by omega), Int.toNat_natCast, List.getElem?_eq_getElem h]
theorem idx_int {α : Type} {l : List α} {k : Nat} {i : Int} (hi : i = k) (h : k < l.length) : idx l i = some l[k] := by
  subst hi
  exact idx_nat h
theorem drop_cons {α : Type} {l : List α} {k : Nat} (h : k < l.length) : l.drop k = l[k] :: l.drop (k + 1) := List.drop_eq_getElem_cons h
theorem inB_nat {k n : Nat} (h : k < n) : inB (k : Int) n = true := by
  unfold inB
  simp [h]
theorem lim_dec {α : Type} {a : Nat} {x : α} (h : a < 1000000) : decide (a + [x].length ≤ lim) = true := decide_eq_true (by simp [lim]; omega)
theorem dlt_t {a b : Nat} (h : a < b) : decide ((a : Int) < (b : Int)) = true := decide_eq_true (by omega)
theorem dlt_f {a b : Nat} (h : ¬ a < b) : decide ((a : Int) < (b : Int)) = false := decide_eq_false (by omega)
theorem take_snoc {α : Type} {l : List α} {k : Nat} (h : k < l.length) : l.take (k + 1) = l.take k ++ [l[k]] := (List.take_append_getElem h).symm
theorem max_if (a b : Int) : (if b > a then b else a) = max a b := by
  by_cases h : b > a
  · rw [if_pos h, Int.max_eq_right (by omega)]
  · rw [if_neg h, Int.max_eq_left (by omega)]
/-- Two lists are the same. -/
theorem same_loop (n : Nat × Nat) (a b : List Int) (hl : a.length = b.length) (hs : a.length < 1000) : ∀ (m k : Nat), k ≤ a.length → a.length - k < m → DL24_1 n m a b (k : Int) = some (decide (a.drop k = b.drop k))
  | 0, k, _, h => by omega
  | m + 1, k, hk, h => by
    rw [DL24_1_succ]
    unfold DF24_1
    by_cases hlt : k < a.length
    · have ih := same_loop n a b hl hs m (k + 1) (by omega) (by omega)
      rw [dlt_t hlt, cond_true, idx_nat hlt, idx_nat (by omega : k < b.length), wr_succ (by omega), ih, drop_cons hlt, drop_cons (by omega : k < b.length)]
      simp only [Option.bind_some, List.cons.injEq]
      by_cases e : a[k] = b[k]
      · simp [e]
      · rw [show (a[k] != b[k]) = true by simpa using e, cond_true]; simp [e]
    · rw [dlt_f hlt, cond_false, List.drop_of_length_le (by omega), List.drop_of_length_le (by omega)]
      simp
theorem same_eq {n : Nat × Nat} (hn : 1000 ≤ n.1) {a b : List Int} (hs : a.length < 900) : D24 n a b = some (decide (a = b)) := by
  unfold D24
  by_cases hl : a.length = b.length
  · rw [show (((a.length : Int)) != (b.length : Int)) = false by simp [hl], cond_false]
    have := same_loop n a b hl (by omega) n.1 0 (by omega) (by omega)
    simpa using this
  · rw [show (((a.length : Int)) != (b.length : Int)) = true by simpa using (by omega : (a.length : Int) ≠ b.length), cond_true]
    rw [decide_eq_false (fun e => hl (by rw [e]))]
/-- The first place at which something holds, or -1. -/
def fnd (q : Int → Bool) : Nat → List Int → Int
  | _, [] => -1
  | k, x :: l => if q x then (k : Int) else fnd q (k + 1) l
theorem fnd_bnd (q : Int → Bool) : ∀ (l : List Int) (k : Nat), fnd q k l = -1 ∧ (∀ x ∈ l, q x = false) ∨ (k ≤ fnd q k l ∧ fnd q k l < k + l.length ∧ ∃ x ∈ l, q x = true)
  | [], k => by simp [fnd]
  | x :: l, k => by
    unfold fnd
    by_cases h : q x = true
    · rw [if_pos h]
      exact .inr ⟨by omega, by simp; omega, x, by simp, h⟩
    · rw [if_neg h]
      rcases fnd_bnd q l (k + 1) with ⟨h1, h2⟩ | ⟨h1, h2, y, hy, hq⟩
      · exact .inl ⟨h1, fun y hy => (List.mem_cons.1 hy).elim (fun e => by rw [e]; simpa using h) (fun hy => h2 y hy)⟩
      · exact .inr ⟨by omega, by simp; omega, y, by simp [hy], hq⟩
theorem fnd_ge (q : Int → Bool) (l : List Int) (k : Nat) : (0 ≤ fnd q k l) ↔ ∃ x ∈ l, q x = true := by
  rcases fnd_bnd q l k with ⟨h1, h2⟩ | ⟨h1, h2, h3⟩
  · constructor
    · intro h; omega
    · rintro ⟨x, hx, hq⟩; rw [h2 x hx] at hq; cases hq
  · exact ⟨fun _ => h3, fun _ => by omega⟩
/-- A job's error. -/
def BadP (sz p : Int) : Prop := p < 1 ∨ sz < p
instance (sz p : Int) : Decidable (BadP sz p) := inferInstanceAs (Decidable (_ ∨ _))
def chk (sz : Int) (ps : List Int) : Int := if sz < 1 ∨ 24 < sz then 1 else if 8 < ps.length then 3 else if ∃ p ∈ ps, BadP sz p then 1 else 0
structure Job (sz : Int) (ps : List Int) : Prop where
  lo : 1 ≤ sz
  hi : sz ≤ 24
  len : ps.length ≤ 8
  ok : ∀ p ∈ ps, 1 ≤ p ∧ p ≤ sz
theorem chk_job {sz : Int} {ps : List Int} : chk sz ps = 0 ↔ Job sz ps := by
  unfold chk
  constructor
  · intro h
    split at h
    · omega
    · split at h
      · omega
      · split at h
        · omega
        · rename_i h1 h2 h3
          refine ⟨by omega, by omega, by omega, fun p hp => ?_⟩
          have : ¬ BadP sz p := fun hb => h3 ⟨p, hp, hb⟩
          unfold BadP at this
          omega
  · intro h
    have := h.lo
    have := h.hi
    have := h.len
    rw [if_neg (by omega), if_neg (by omega), if_neg]
    rintro ⟨p, hp, hb⟩
    have := h.ok p hp
    unfold BadP at hb
    omega
theorem bad_eq (n : Nat × Nat) (p sz : Int) : D76 n p sz = some (decide (BadP sz p)) := by
  unfold D76 BadP
  by_cases h : p < 1
  · rw [decide_eq_true h]; simp [h]
  · rw [decide_eq_false h]; simp [h]
theorem idxf_loop (n : Nat × Nat) (l : List Int) (sz : Int) (hs : l.length < 100000) : ∀ (m k : Nat), k ≤ l.length → l.length - k < m → DL79c76_1 n m l sz (l.length : Int) (k : Int) = some (fnd (fun p => decide (BadP sz p)) k (l.drop k))
  | 0, k, _, h => by omega
  | m + 1, k, hk, h => by
    rw [DL79c76_1_succ]
    unfold DF79c76_1
    by_cases hlt : k < l.length
    · have ih := idxf_loop n l sz hs m (k + 1) (by omega) (by omega)
      rw [dlt_t hlt, cond_true, idx_nat hlt, Option.bind_some, bad_eq, Option.bind_some, wr_succ (by omega), ih, drop_cons hlt]
      generalize l.drop (k + 1) = t at *
      generalize l[k] = x at *
      unfold fnd
      by_cases e : BadP sz x
      · simp [e]
      · simp only [e, decide_false, cond_false, Bool.false_eq_true, if_false]
        cases t <;> rfl
    · rw [dlt_f hlt, cond_false, List.drop_of_length_le (by omega)]
      rfl
theorem anyb_eq {n : Nat × Nat} (l : List Int) (sz : Int) (hs : l.length < n.1) (hs2 : l.length < 100000) : D75c76 n l sz = some (decide (∃ p ∈ l, BadP sz p)) := by
  unfold D75c76 D79c76
  have := idxf_loop n l sz hs2 n.1 0 (by omega) (by omega)
  rw [show ((0 : Nat) : Int) = 0 from rfl, List.drop_zero] at this
  rw [this, Option.bind_some]
  congr 1
  apply decide_eq_decide.2
  have := fnd_ge (fun p => decide (BadP sz p)) l 0
  simp only [decide_eq_true_eq] at this
  exact this
theorem Check_eq {n : Nat × Nat} (hn : 1000 ≤ n.1) (sz : Int) (ps : List Int) : D26 n sz ps = some (chk sz ps) := by
  unfold D26 chk
  by_cases h1 : sz < 1
  · rw [decide_eq_true h1, if_pos (.inl h1)]; rfl
  · rw [decide_eq_false h1]
    by_cases h2 : 24 < sz
    · rw [if_pos (.inr h2), decide_eq_true (show sz > 24 from h2)]; rfl
    · rw [if_neg (by omega), decide_eq_false (show ¬ sz > 24 from h2)]
      simp only [beq_self_eq_true, cond_true, Option.bind_some, cond_false]
      by_cases h3 : 8 < ps.length
      · rw [if_pos h3, decide_eq_true (show (ps.length : Int) > 8 by omega), cond_true]
      · rw [if_neg h3, decide_eq_false (show ¬ (ps.length : Int) > 8 by omega), cond_false, anyb_eq ps sz (by omega) (by omega), Option.bind_some]
        by_cases h4 : ∃ p ∈ ps, BadP sz p
        · rw [if_pos h4, decide_eq_true h4, cond_true]
        · rw [if_neg h4, decide_eq_false h4, cond_false]
/-- How many sheets a plan has. -/
def mny (l : List Int) : Int := l.foldl (fun a s => max a (s + 1)) 0
/-- How much of a sheet is used. -/
def usd : List Int → List Int → Int → Int
  | p :: ps, x :: l, s => (if x = s then p else 0) + usd ps l s
  | _, _, _ => 0
theorem fold_mny : ∀ (l : List Int) (a : Int), a ≤ l.foldl (fun a s => max a (s + 1)) a ∧ (∀ x ∈ l, x < l.foldl (fun a s => max a (s + 1)) a)
  | [], a => by simp
  | x :: l, a => by
    rw [List.foldl_cons]
    obtain ⟨h1, h2⟩ := fold_mny l (max a (x + 1))
    refine ⟨by omega, fun y hy => ?_⟩
    rcases List.mem_cons.1 hy with rfl | hy
    · omega
    · exact h2 y hy
theorem mny_nn (l : List Int) : 0 ≤ mny l := (fold_mny l 0).1
theorem mny_lt {l : List Int} {x : Int} (h : x ∈ l) : x < mny l := (fold_mny l 0).2 x h
theorem mny_snoc (l : List Int) (x : Int) : mny (l ++ [x]) = max (mny l) (x + 1) := by simp [mny, List.foldl_append]
theorem mny_nil : mny [] = 0 := rfl
theorem usd_snoc (s x p : Int) : ∀ {ps l : List Int}, ps.length = l.length → usd (ps ++ [p]) (l ++ [x]) s = usd ps l s + if x = s then p else 0
  | [], [], _ => by simp [usd]
  | q :: ps, y :: l, h => by
    simp only [List.cons_append, usd]
    rw [usd_snoc s x p (by simpa using h)]
    omega
  | [], _ :: _, h => by simp at h
  | _ :: _, [], h => by simp at h
theorem usd_none {s : Int} : ∀ {ps l : List Int}, s ∉ l → usd ps l s = 0
  | [], [], _ => rfl
  | [], _ :: _, _ => rfl
  | _ :: _, [], _ => rfl
  | q :: ps, y :: l, h => by
    simp only [List.mem_cons, not_or] at h
    simp only [usd, if_neg (fun e => h.1 (Eq.symm e)), usd_none h.2]
    omega
theorem usd_nn {s : Int} : ∀ {ps l : List Int}, (∀ p ∈ ps, 0 ≤ p) → 0 ≤ usd ps l s
  | [], _, _ => by simp [usd]
  | _ :: _, [], _ => by simp [usd]
  | q :: ps, y :: l, h => by
    have h1 := h q (by simp)
    have h2 := usd_nn (s := s) (ps := ps) (l := l) (fun p hp => h p (by simp [hp]))
    simp only [usd]
    split <;> omega
/-- The error of sheets' order. -/
def oer : Int → List Int → Int
  | _, [] => 0
  | m, x :: l => if x < 0 then 2 else if m < x then 7 else oer (max m (x + 1)) l
/-- What is left of each sheet. -/
def lf (sz : Int) (ps l : List Int) : List Int := (List.range (mny l).toNat).map fun s : Nat => sz - usd ps l (s : Int)
theorem lf_len (sz : Int) (ps l : List Int) : ((lf sz ps l).length : Int) = mny l := by
  have := mny_nn l
  simp [lf]
  omega
theorem lf_get {sz : Int} {ps l : List Int} {s : Nat} (h : s < (lf sz ps l).length) : (lf sz ps l)[s] = sz - usd ps l (s : Int) := by simp [lf]
theorem lf_step (sz p x : Int) {ps l : List Int} (hl : ps.length = l.length) (h0 : 0 ≤ x) (h1 : x ≤ mny l) :
    lf sz (ps ++ [p]) (l ++ [x]) = (if x = mny l then lf sz ps l ++ [sz] else lf sz ps l).set x.toNat (sz - usd ps l x - p) := by
  have hm := mny_nn l
  have hll := lf_len sz ps l
  apply List.ext_getElem
  · have := lf_len sz (ps ++ [p]) (l ++ [x])
    rw [mny_snoc] at this
    rw [List.length_set]
    split
    · simp only [List.length_append, List.length_cons, List.length_nil]; omega
    · omega
  · intro s h2 h3
    rw [lf_get h2, usd_snoc _ _ _ hl, List.getElem_set]
    by_cases e : x.toNat = s
    · rw [if_pos e, if_pos (show x = (s : Int) by omega), show (s : Int) = x by omega]
      omega
    · rw [if_neg e, if_neg (show ¬ x = (s : Int) by omega)]
      rw [List.length_set] at h3
      split at h3
      · rename_i hx
        simp only [List.length_append, List.length_cons, List.length_nil] at h3
        have h4 : s < (lf sz ps l).length := by omega
        simp only [if_pos hx]
        rw [List.getElem_append_left h4, lf_get h4]
        omega
      · rename_i hx
        simp only [if_neg hx]
        rw [lf_get h3]
        omega
theorem bounds_hi {k n : Nat} (h : k ≤ n) : bounds none (some (k : Int)) none n = true := by
  unfold bounds
  simp
  omega
/-- A plan that is one. -/
structure Pln (sz : Int) (ps l : List Int) : Prop where
  job : Job sz ps
  len : l.length = ps.length
  ord : oer 0 l = 0
  fit : ∀ x ∈ l, usd ps l x ≤ sz
theorem oer_bnd : ∀ (l : List Int) (m : Int), 0 ≤ m → oer m l = 0 → (∀ x ∈ l, 0 ≤ x ∧ x < m + l.length) ∧ l.foldl (fun a s => max a (s + 1)) m ≤ m + l.length
  | [], m, _, _ => by simp
  | x :: l, m, hm, h => by
    unfold oer at h
    split at h
    · omega
    · split at h
      · omega
      · obtain ⟨h1, h2⟩ := oer_bnd l _ (by omega) h
        rw [List.foldl_cons, List.length_cons]
        refine ⟨fun y hy => ?_, by omega⟩
        rcases List.mem_cons.1 hy with rfl | hy
        · omega
        · have := h1 y hy
          omega
theorem Pln.rng {sz : Int} {ps l : List Int} (h : Pln sz ps l) : ∀ x ∈ l, 0 ≤ x ∧ x ≤ 100000 := fun x hx => by
  have := (oer_bnd l 0 (by omega) h.ord).1 x hx
  have := h.job.len
  have := h.len
  omega
theorem Pln.mny {sz : Int} {ps l : List Int} (h : Pln sz ps l) : mny l ≤ 8 := by
  have h1 := (oer_bnd l 0 (by omega) h.ord).2
  have := h.job.len
  have := h.len
  unfold Proofs.YtgmonagekfjnmaaDoor.mny
  omega
/-- The groups' numbers, put where their pieces are: an error, or none, and what there is. -/
def pin (g : Int) : List Int → List Int → Int × List Int
  | [], out => (0, out)
  | x :: r, out => if x < 0 ∨ (out.length : Int) ≤ x then (2, out) else if 0 ≤ out.getD x.toNat 0 then (6, out) else pin g r (out.set x.toNat g)
/-- Numbers by their first places. -/
def tid : List Int → List Int → List Int
  | _, [] => []
  | met, x :: l => if x ∈ met then fnd (fun y => x == y) 0 met :: tid met l else (met.length : Int) :: tid (met ++ [x]) l
theorem tid_len : ∀ (l met : List Int), (tid met l).length = l.length
  | [], _ => rfl
  | x :: l, met => by
    unfold tid
    split <;> simp [tid_len l]
theorem find_loop (n : Nat × Nat) (l : List Int) (v : Int) (hs : l.length < 1000) : ∀ (m k : Nat), k ≤ l.length → l.length - k < m → DL95_1 n m l v (l.length : Int) (k : Int) = some (fnd (fun y => v == y) k (l.drop k))
  | 0, k, _, h => by omega
  | m + 1, k, hk, h => by
    rw [DL95_1_succ]
    unfold DF95_1
    by_cases hlt : k < l.length
    · have ih := find_loop n l v hs m (k + 1) (by omega) (by omega)
      rw [dlt_t hlt, cond_true, idx_nat hlt, Option.bind_some, wr_succ (by omega), ih, drop_cons hlt]
      generalize l.drop (k + 1) = t at *
      generalize l[k] = x at *
      unfold fnd
      by_cases e : v = x
      · subst e
        simp
      · rw [show (v == x) = false from beq_false_of_ne e]
        simp only [cond_false, Bool.false_eq_true, if_false]
        cases t <;> rfl
    · rw [dlt_f hlt, cond_false, List.drop_of_length_le (by omega)]
      rfl
theorem find_eq {n : Nat × Nat} (hn : 1000 ≤ n.1) (l : List Int) (v : Int) (hs : l.length < 900) : D95 n l v = some (fnd (fun y => v == y) 0 l) := by
  unfold D95
  have := find_loop n l v (by omega) n.1 0 (by omega) (by omega)
  simpa using this
theorem fnd_mem (v : Int) (l : List Int) : (0 ≤ fnd (fun y => v == y) 0 l) ↔ v ∈ l := by
  rw [fnd_ge]
  simp
theorem tid_loop (n : Nat × Nat) (hn : 1000 ≤ n.1) (l : List Int) (hs : l.length < 800) : ∀ (m k : Nat) (met out : List Int), k ≤ l.length → l.length - k < m → met.length ≤ k → out.length = k →
    DL71_1 n m l (l.length : Int) (k : Int) met out = some (out ++ tid met (l.drop k))
  | 0, k, _, _, _, h, _, _ => by omega
  | m + 1, k, met, out, hk, h, h1, h2 => by
    rw [DL71_1_succ]
    unfold DF71_1
    by_cases hlt : k < l.length
    · rw [dlt_t hlt, cond_true, idx_nat hlt, Option.bind_some, find_eq hn met _ (by omega), Option.bind_some, drop_cons hlt]
      have hm := fnd_mem l[k] met
      unfold tid
      by_cases e : l[k] ∈ met
      · have hf : ¬ fnd (fun y => l[k] == y) 0 met < 0 := Int.not_lt.2 (hm.2 e)
        rw [if_pos e, decide_eq_false hf, cond_false, lim_dec (by omega), cond_true, wr_succ (by omega), tid_loop n hn l hs m (k + 1) _ _ (by omega) (by omega) (by omega) (by simp; omega), List.append_assoc, List.singleton_append]
      · have hf : fnd (fun y => l[k] == y) 0 met < 0 := Int.not_le.1 (fun h => e (hm.1 h))
        rw [if_neg e, decide_eq_true hf, cond_true, lim_dec (by omega), cond_true, lim_dec (by omega), cond_true, wr_succ (by omega), tid_loop n hn l hs m (k + 1) _ _ (by omega) (by omega) (by simp; omega) (by simp; omega), List.append_assoc, List.singleton_append]
    · rw [dlt_f hlt, cond_false, List.drop_of_length_le (by omega)]
      simp [tid]
theorem tid_eq {n : Nat × Nat} (hn : 1000 ≤ n.1) (l : List Int) (hs : l.length < 800) : D71 n l = some (tid [] l) := by
  unfold D71
  have := tid_loop n hn l hs n.1 0 [] [] (by omega) (by omega) (by simp) (by simp)
  simpa using this
theorem rep_eq : ∀ k ≤ 8, D69 N [-1] ((k : Nat) : Int) = some (List.replicate k (-1))
  | 0, _ => by kernel_rfl
  | 1, _ => by kernel_rfl
  | 2, _ => by kernel_rfl
  | 3, _ => by kernel_rfl
  | 4, _ => by kernel_rfl
  | 5, _ => by kernel_rfl
  | 6, _ => by kernel_rfl
  | 7, _ => by kernel_rfl
  | 8, _ => by kernel_rfl
  | k + 9, h => by omega
end Go.Proofs.YtgmonagekfjnmaaDoor
/-
  Sheets: the search, for any function that is handed plans.
-/
set_option linter.unusedVariables false
set_option linter.unusedSimpArgs false
namespace Go.Proofs.YtgmonagekfjnmaaDoor
open Go.Vi
/-! All plans with at most so many sheets that begin with some numbers, in ascending order. -/
def rm (sz : Int) (L : List Int) (s : Nat) : Int := L.getD s sz
def up (sz : Int) (L : List Int) (s : Nat) (p : Int) : List Int := (if s = L.length then L ++ [sz] else L).set s (rm sz L s - p)
def pl (sz : Int) (mo : Nat) : List Int → List Int → List Int → List (List Int)
  | [], b, _ => [b]
  | p :: r, b, L => (List.range' 0 (min (L.length + 1) mo)).flatMap fun s => if p ≤ rm sz L s then pl sz mo r (b ++ [(s : Int)]) (up sz L s p) else []
/-- A function handed all plans, as long as it returns true. -/
def fv {V : Type} (c : List Int → V → Bool × V) : List (List Int) → V → Bool × V
  | [], v => (true, v)
  | q :: r, v => if (c q v).1 then fv c r (c q v).2 else (false, (c q v).2)
theorem fv_app {V : Type} (c : List Int → V → Bool × V) (b : List (List Int)) : ∀ (a : List (List Int)) (v : V), fv c (a ++ b) v = if (fv c a v).1 then fv c b (fv c a v).2 else (false, (fv c a v).2)
  | [], v => by simp [fv]
  | q :: r, v => by
    have e1 : ∀ l, fv c (q :: l) v = if (c q v).1 then fv c l (c q v).2 else (false, (c q v).2) := fun _ => rfl
    rw [List.cons_append, e1, e1]
    by_cases h : (c q v).1 = true
    · rw [if_pos h, if_pos h, fv_app c b r]
    · rw [if_neg h, if_neg h]; rfl
/-! The search's three places. -/
section
variable {V : Type}
abbrev SR (V : Type) := Unit × V × Unit
abbrev FN (V : Type) := Int → List Int → Int → Int → V → List Int → List Int → Option (SR V)
def lpF (b x f2 : FN V) : FN V := fun size0 pieces1 most2 i10 v plan8 left9 =>
    (bif inB i10 plan8.length then (idx plan8 i10).bind fun x21' =>
      (bif inB i10 plan8.length then (idx plan8 i10).bind fun x22' =>
        (bif inB i10 (plan8.set (Int.toNat i10) (wr .i64 (x21' + 1))).length then (idx (plan8.set (Int.toNat i10) (wr .i64 (x21' + 1))) i10).bind fun x23' =>
          ((bif (decide (x23' ≥ most2) == false) then ((bif (decide (x23' > 0) == true) then (bif inB (wr .i64 (x23' - 1)) left9.length then (idx left9 (wr .i64 (x23' - 1))).bind fun x24' =>
                    some (x24' == size0)
                  else none)
                else some false)).bind fun b25' =>
              some b25'
            else some true)).bind fun b26' =>
          (bif b26' then (bif inB i10 (plan8.set (Int.toNat i10) (wr .i64 (x21' + 1))).length then (idx (plan8.set (Int.toNat i10) (wr .i64 (x21' + 1))) i10).bind fun x27' =>
              b size0 pieces1 most2 i10 v ((plan8.set (Int.toNat i10) (wr .i64 (x21' + 1))).set (Int.toNat i10) (-1)) left9
            else none)
          else (bif inB x23' left9.length then (idx left9 x23').bind fun x28' =>
              (idx pieces1 i10).bind fun x29' =>
              (bif decide (x28' ≥ x29') then (bif inB x23' left9.length then (idx left9 x23').bind fun x30' =>
                  (idx pieces1 i10).bind fun x31' =>
                  (bif inB x23' left9.length then (idx left9 x23').bind fun x32' =>
                    x size0 pieces1 most2 (wr .i64 (i10 + 1)) v (plan8.set (Int.toNat i10) (wr .i64 (x21' + 1))) (left9.set (Int.toNat x23') (wr .i64 (x30' - x31')))
                  else none)
                else none)
              else f2 size0 pieces1 most2 i10 v (plan8.set (Int.toNat i10) (wr .i64 (x21' + 1))) left9)
            else none))
        else none)
      else none)
    else none)
def LP (b x : FN V) : Nat → FN V
  | 0 => fun _ _ _ _ _ _ _ => none
  | q + 1 => lpF b x (LP b x q)
def bkF (x : FN V) : FN V := fun size0 pieces1 most2 i10 v plan8 left9 =>
    (bif decide (wr .i64 (i10 - 1) < 0) then some ((), v, ())
    else (bif inB (wr .i64 (i10 - 1)) plan8.length then (idx plan8 (wr .i64 (i10 - 1))).bind fun x4' =>
        (bif inB x4' left9.length then (idx left9 x4').bind fun x5' =>
          (idx pieces1 (wr .i64 (i10 - 1))).bind fun x6' =>
          (bif inB x4' left9.length then (idx left9 x4').bind fun x7' =>
            x size0 pieces1 most2 (wr .i64 (i10 - 1)) v plan8 (left9.set (Int.toNat x4') (wr .i64 (x5' + x6')))
          else none)
        else none)
      else none))
def nxF (C : List Int → V → Option (Bool × List Int × V × Unit)) (q0 : Nat) (b x : FN V) : FN V := fun size0 pieces1 most2 i10 v plan8 left9 =>
    (bif (i10 == (pieces1.length : Int)) then (C plan8 v).bind fun r20' =>
      (bif Nat.beq r20'.2.1.length plan8.length then (bif (!r20'.1) then some ((), r20'.2.2.1, ())
        else b size0 pieces1 most2 i10 r20'.2.2.1 r20'.2.1 left9)
      else none)
    else LP b x q0 size0 pieces1 most2 i10 v plan8 left9)
def GB (C : List Int → V → Option (Bool × List Int × V × Unit)) (q0 : Nat) : Nat → FN V × FN V
  | 0 => ((fun _ _ _ _ _ _ _ => none), (fun _ _ _ _ _ _ _ => none))
  | m + 1 => (bkF (GB C q0 m).2, nxF C q0 (GB C q0 m).1 (GB C q0 m).2)
def srch (C : List Int → V → Option (Bool × List Int × V × Unit)) (q0 : Nat) (size0 : Int) (pieces1 : List Int) (most2 : Int) (cp : V) (r1' r2' : List Int) : Option (SR V) :=
    (bif (0 == (pieces1.length : Int)) then (C r1' cp).bind fun r3' =>
      (bif Nat.beq r3'.2.1.length r1'.length then (bif (!r3'.1) then some ((), r3'.2.2.1, ())
        else (GB C q0 q0).1 size0 pieces1 most2 0 r3'.2.2.1 r3'.2.1 r2')
      else none)
    else LP (GB C q0 q0).1 (GB C q0 q0).2 q0 size0 pieces1 most2 0 cp r1' r2')
theorem idx_app {α : Type} (b : List α) (t : α) (R : List α) : idx (b ++ t :: R) (b.length : Int) = some t := by
  rw [idx_nat (by simp)]
  simp
theorem set_app {α : Type} (b : List α) (t y : α) (R : List α) : (b ++ t :: R).set (Int.toNat (b.length : Int)) y = b ++ y :: R := by
  rw [Int.toNat_natCast]
  simp [List.set_append]
def fil (sz : Int) (mo : Nat) (L : List Int) : List Int := L ++ List.replicate (mo - L.length) sz
theorem fil_len {sz : Int} {mo : Nat} {L : List Int} (h : L.length ≤ mo) : (fil sz mo L).length = mo := by simp [fil]; omega
theorem fil_get {sz : Int} {mo : Nat} {L : List Int} {s : Nat} (hs : s < (fil sz mo L).length) : (fil sz mo L)[s] = rm sz L s := by
  unfold fil rm at *
  by_cases h : s < L.length
  · rw [List.getElem_append_left h, List.getD_eq_getElem?_getD, List.getElem?_eq_getElem h, Option.getD_some]
  · rw [List.getElem_append_right (by omega), List.getElem_replicate, List.getD_eq_getElem?_getD, List.getElem?_eq_none (by omega), Option.getD_none]
theorem fil_up {sz : Int} {mo : Nat} {L : List Int} {s : Nat} (p : Int) (h1 : s ≤ L.length) (h2 : s < mo) : (fil sz mo L).set s (rm sz L s - p) = fil sz mo (up sz L s p) := by
  unfold up
  generalize rm sz L s - p = y
  unfold fil
  by_cases h : s = L.length
  · rw [if_pos h]
    subst h
    obtain ⟨k, hk⟩ : ∃ k, mo - L.length = k + 1 := ⟨mo - L.length - 1, by omega⟩
    rw [hk, List.replicate_succ, List.set_append, if_neg (by omega), Nat.sub_self, List.set_cons_zero, List.set_append, if_neg (by omega), Nat.sub_self, List.set_cons_zero]
    simp only [List.length_append, List.length_cons, List.length_nil, List.append_assoc, List.singleton_append]
    rw [show mo - (L.length + (0 + 1)) = k by omega]
  · rw [if_neg h, List.set_append, if_pos (by omega), List.length_set]
theorem fil_back {sz : Int} {mo : Nat} {L : List Int} {s : Nat} (p : Int) (h1 : s ≤ L.length) (h2 : s < mo) (h3 : L.length ≤ mo) : (fil sz mo (up sz L s p)).set s (rm sz L s) = fil sz mo L := by
  rw [← fil_up p h1 h2, List.set_set]
  have hs : s < (fil sz mo L).length := by rw [fil_len h3]; exact h2
  rw [← fil_get hs]
  simp
theorem up_len {sz : Int} {L : List Int} {s : Nat} (p : Int) (h1 : s ≤ L.length) : (up sz L s p).length = max L.length (s + 1) := by
  unfold up
  rw [List.length_set]
  split
  · simp; omega
  · omega
theorem rm_get {sz : Int} {L : List Int} {s : Nat} (hs : s < L.length) : rm sz L s = L[s] := by unfold rm; rw [List.getD_eq_getElem?_getD, List.getElem?_eq_getElem hs, Option.getD_some]
theorem up_get {sz : Int} {L : List Int} {s i : Nat} (p : Int) (hi : i < (up sz L s p).length) : (up sz L s p)[i] = if s = i then rm sz L s - p else rm sz L i := by
  unfold up at hi ⊢
  rw [List.getElem_set]
  split
  · rfl
  · rename_i hne
    rw [List.length_set] at hi
    split
    · rename_i he
      simp only [if_pos he, List.length_append, List.length_cons, List.length_nil] at hi
      rw [List.getElem_append_left (by omega)]
      exact (rm_get _).symm
    · rename_i he
      simp only [if_neg he] at hi
      exact (rm_get _).symm
theorem rm_up {sz : Int} {L : List Int} {s : Nat} (p : Int) (h1 : s ≤ L.length) : rm sz (up sz L s p) s = rm sz L s - p := by
  have h := up_len (sz := sz) p h1
  have hs : s < (up sz L s p).length := by omega
  rw [rm_get hs, up_get p hs, if_pos rfl]
theorem up_mem {sz : Int} {L : List Int} {s : Nat} {p : Int} (h1 : s ≤ L.length) : ∀ x ∈ up sz L s p, x = rm sz L s - p ∨ x ∈ L := fun x hx => by
  obtain ⟨i, hi, e⟩ := List.getElem_of_mem hx
  have hl := up_len (sz := sz) p h1
  rw [up_get p hi] at e
  split at e
  · exact .inl e.symm
  · rename_i hne
    right
    rw [rm_get (by omega)] at e
    rw [← e]
    exact List.getElem_mem _
theorem rm_rng {sz : Int} {L : List Int} (hL : ∀ x ∈ L, 0 ≤ x ∧ x < sz) (h : 0 ≤ sz) (s : Nat) : 0 ≤ rm sz L s ∧ rm sz L s ≤ sz := by
  unfold rm
  by_cases hs : s < L.length
  · rw [List.getD_eq_getElem?_getD, List.getElem?_eq_getElem hs, Option.getD_some]
    have := hL _ (List.getElem_mem hs)
    omega
  · rw [List.getD_eq_getElem?_getD, List.getElem?_eq_none (by omega), Option.getD_none]
    omega
theorem up_rng {sz : Int} {L : List Int} {s : Nat} {p : Int} (hL : ∀ x ∈ L, 0 ≤ x ∧ x < sz) (h : 0 ≤ sz) (h1 : s ≤ L.length) (hp : 1 ≤ p) (hf : p ≤ rm sz L s) : ∀ x ∈ up sz L s p, 0 ≤ x ∧ x < sz := fun x hx => by
  have := rm_rng hL h s
  rcases up_mem h1 x hx with e | e
  · omega
  · exact hL x e
/-! The loop over the sheets for one piece. -/
structure SI (sz : Int) (mo : Nat) (ps : List Int) (b L : List Int) : Prop where
  job : Job sz ps
  le : b.length ≤ ps.length
  lm : L.length ≤ mo
  lb : L.length ≤ b.length
  rng : ∀ x ∈ L, 0 ≤ x ∧ x < sz
  mo : mo ≤ 1000
theorem SI.child {sz : Int} {mo : Nat} {ps b L : List Int} (h : SI sz mo ps b L) (hb : b.length < ps.length) {s : Nat} (h1 : s ≤ L.length) (h2 : s < mo) (hf : ps[b.length] ≤ rm sz L s) : SI sz mo ps (b ++ [(s : Int)]) (up sz L s ps[b.length]) := by
  have hl := up_len (sz := sz) ps[b.length] h1
  have := h.lm
  have := h.lb
  have := h.job.lo
  have hp := h.job.ok _ (List.getElem_mem hb)
  exact ⟨h.job, by simp; omega, by omega, by simp; omega, up_rng h.rng (by omega) h1 hp.1 hf, h.mo⟩
variable {b1 x1 f2 : FN V} {sz : Int} {mo : Nat} {ps b L : List Int}
theorem lp_end (h : SI sz mo ps b L) (hb : b.length < ps.length) (v : V) (R : List Int) :
    lpF b1 x1 f2 sz ps mo (b.length : Int) v (b ++ (((min (L.length + 1) mo : Nat) : Int) - 1) :: R) (fil sz mo L) = b1 sz ps mo (b.length : Int) v (b ++ (-1) :: R) (fil sz mo L) := by
  have := h.mo
  have := h.lm
  have h8 := h.job.len
  have hlb := h.lb
  have hfl := fil_len (sz := sz) h.lm
  generalize hM : min (L.length + 1) mo = M
  unfold lpF
  rw [inB_nat (by simp), cond_true, idx_app, Option.bind_some, cond_true, Option.bind_some, wr_ok (by omega) (by omega), show (M : Int) - 1 + 1 = M by omega, set_app, inB_nat (by simp), cond_true, idx_app, Option.bind_some, cond_true, Option.bind_some, set_app]
  by_cases e : mo ≤ M
  · rw [decide_eq_true (show (M : Int) ≥ mo by omega)]
    simp only [show (true == false) = false from rfl, cond_false, Option.bind_some, cond_true]
  · have hM1 : M = L.length + 1 := by omega
    rw [decide_eq_false (show ¬ (M : Int) ≥ mo by omega), decide_eq_true (show (M : Int) > 0 by omega), wr_ok (by omega) (by omega), show (M : Int) - 1 = (L.length : Int) by omega, inB_nat (by omega), idx_nat (by omega), fil_get (by omega)]
    have : rm sz L L.length = sz := by unfold rm; rw [List.getD_eq_getElem?_getD, List.getElem?_eq_none (by omega), Option.getD_none]
    rw [this]
    simp only [beq_self_eq_true, cond_true, Option.bind_some]
/-- One sheet, which is used or the next one: whether the piece has room. -/
theorem lp_one (h : SI sz mo ps b L) (hb : b.length < ps.length) (v : V) (R : List Int) {s : Nat} (h1 : s ≤ L.length) (h2 : s < mo) :
    lpF b1 x1 f2 sz ps mo (b.length : Int) v (b ++ ((s : Int) - 1) :: R) (fil sz mo L) =
      if ps[b.length] ≤ rm sz L s then x1 sz ps mo ((b.length + 1 : Nat) : Int) v (b ++ (s : Int) :: R) (fil sz mo (up sz L s ps[b.length])) else f2 sz ps mo (b.length : Int) v (b ++ (s : Int) :: R) (fil sz mo L) := by
  have := h.mo
  have := h.lm
  have h8 := h.job.len
  have hlb := h.lb
  have hlo := h.job.lo
  have hhi := h.job.hi
  have hfl := fil_len (sz := sz) h.lm
  have hp := h.job.ok _ (List.getElem_mem hb)
  have hr := rm_rng h.rng (by omega) s
  unfold lpF
  rw [inB_nat (by simp), cond_true, idx_app, Option.bind_some, cond_true, Option.bind_some, wr_ok (by omega) (by omega), show (s : Int) - 1 + 1 = s by omega, set_app, inB_nat (by simp), cond_true, idx_app, Option.bind_some, cond_true, Option.bind_some, set_app]
  rw [decide_eq_false (show ¬ (s : Int) ≥ mo by omega)]
  have hc : ((bif (decide ((s : Int) > 0) == true) then (bif inB (wr .i64 ((s : Int) - 1)) (fil sz mo L).length then (idx (fil sz mo L) (wr .i64 ((s : Int) - 1))).bind fun x24' => some (x24' == sz) else none) else some false)) = some false := by
    by_cases e : s = 0
    · subst e; rfl
    · rw [decide_eq_true (show (s : Int) > 0 by omega), wr_ok (by omega) (by omega), show (s : Int) - 1 = ((s - 1 : Nat) : Int) by omega, inB_nat (by omega), idx_nat (by omega), fil_get (by omega)]
      simp only [beq_self_eq_true, cond_true, Option.bind_some]
      have hs : s - 1 < L.length := by omega
      have e2 : rm sz L (s - 1) = L[s - 1] := by unfold rm; rw [List.getD_eq_getElem?_getD, List.getElem?_eq_getElem hs, Option.getD_some]
      have := h.rng _ (List.getElem_mem hs)
      rw [e2, beq_false_of_ne (by omega)]
  simp only [beq_self_eq_true, cond_true]
  rw [hc]
  simp only [Option.bind_some, cond_false]
  rw [inB_nat (by omega : s < (fil sz mo L).length), idx_nat (by omega : s < (fil sz mo L).length), fil_get (by omega), idx_nat hb]
  simp only [Option.bind_some, cond_true]
  by_cases e : ps[b.length] ≤ rm sz L s
  · rw [decide_eq_true (show rm sz L s ≥ ps[b.length] from e), if_pos e, cond_true, wr_ok (x := rm sz L s - ps[b.length]) (by omega) (by omega), Int.toNat_natCast, fil_up _ h1 h2, wr_succ (by omega)]
  · rw [decide_eq_false (show ¬ rm sz L s ≥ ps[b.length] from e), if_neg e, cond_false]
/-! All of it. -/
def fu : Nat → Nat → Nat
  | 0, _ => 1
  | r + 1, i => 1 + (i + 1) * (2 + fu r (i + 1))
/-- What a function does that is handed plans and hands them back. -/
def Pure (C : List Int → V → Option (Bool × List Int × V × Unit)) (c : List Int → V → Bool × V) : Prop := ∀ (q : List Int) (v : V), q.length ≤ 8 → C q v = some ((c q v).1, q, (c q v).2, ())
variable {C : List Int → V → Option (Bool × List Int × V × Unit)} {c : List Int → V → Bool × V} {q0 : Nat}
theorem srch_leaf (hC : Pure C c) (h : SI sz mo ps b L) (hb : b.length = ps.length) (v : V) (m : Nat) :
    (GB C q0 (m + 1)).2 sz ps mo (b.length : Int) v b (fil sz mo L) = if (fv c [b] v).1 then (GB C q0 m).1 sz ps mo (b.length : Int) (fv c [b] v).2 b (fil sz mo L) else some ((), (fv c [b] v).2, ()) := by
  show nxF C q0 _ _ sz ps mo (b.length : Int) v b (fil sz mo L) = _
  unfold nxF
  have := h.job.len
  rw [show ((b.length : Int) == (ps.length : Int)) = true by simp [hb], cond_true, hC b v (by omega), Option.bind_some, show Nat.beq b.length b.length = true by simp, cond_true]
  unfold fv
  by_cases e : (c b v).1 = true
  · simp only [e, Bool.not_true, cond_false, if_true, fv]
  · simp only [Bool.not_eq_true] at e
    simp only [e, Bool.not_false, cond_true, Bool.false_eq_true, if_false]
/-- Back from a piece's sheet. -/
theorem srch_back (h : SI sz mo ps b L) (hb : b.length < ps.length) (v : V) (R : List Int) {s : Nat} (h1 : s ≤ L.length) (h2 : s < mo) (hf : ps[b.length] ≤ rm sz L s) (m : Nat) :
    (GB C q0 (m + 1)).1 sz ps mo ((b.length + 1 : Nat) : Int) v (b ++ (s : Int) :: R) (fil sz mo (up sz L s ps[b.length])) = (GB C q0 m).2 sz ps mo (b.length : Int) v (b ++ (s : Int) :: R) (fil sz mo L) := by
  have h8 := h.job.len
  have hlo := h.job.lo
  have hhi := h.job.hi
  have hlm := h.lm
  have hp := h.job.ok _ (List.getElem_mem hb)
  have hr := rm_rng h.rng (by omega) s
  have hul := up_len (sz := sz) ps[b.length] h1
  have hfl := fil_len (sz := sz) (mo := mo) (L := up sz L s ps[b.length]) (by omega)
  show bkF _ sz ps mo _ v _ _ = _
  unfold bkF
  rw [wr_ok (by omega) (by omega), show ((b.length + 1 : Nat) : Int) - 1 = (b.length : Int) by omega, decide_eq_false (by omega), cond_false, inB_nat (by simp), cond_true, idx_app, Option.bind_some, inB_nat (by omega), cond_true, idx_nat (by omega : s < (fil sz mo (up sz L s ps[b.length])).length), Option.bind_some, idx_nat hb, Option.bind_some, cond_true, Option.bind_some, fil_get (by omega), rm_up _ h1, wr_ok (by omega) (by omega), Int.toNat_natCast, show rm sz L s - ps[b.length] + ps[b.length] = rm sz L s by omega, fil_back _ h1 h2 hlm]
theorem srch_node (hC : Pure C c) (hq : 1100 ≤ q0) : ∀ (r b L : List Int), SI sz mo ps b L → ps.drop b.length = r → ∀ v, ∃ K, K ≤ fu r.length b.length ∧ ∀ m,
    (GB C q0 (m + K)).2 sz ps mo (b.length : Int) v (b ++ List.replicate (ps.length - b.length) (-1)) (fil sz mo L) = if (fv c (pl sz mo r b L) v).1 then (GB C q0 m).1 sz ps mo (b.length : Int) (fv c (pl sz mo r b L) v).2 (b ++ List.replicate (ps.length - b.length) (-1)) (fil sz mo L) else some ((), (fv c (pl sz mo r b L) v).2, ()) := by
  intro r
  induction r with
  | nil =>
    intro b L h hr v
    have hle := h.le
    have hb : b.length = ps.length := by have := List.drop_eq_nil_iff.1 hr; omega
    refine ⟨1, Nat.le_refl _, fun m => ?_⟩
    rw [hb, Nat.sub_self, List.replicate_zero, List.append_nil, ← hb]
    exact srch_leaf hC h hb v m
  | cons p r ih =>
    intro b L h hr v
    have hb : b.length < ps.length := by
      rcases Nat.lt_or_ge b.length ps.length with h | h
      · exact h
      · rw [List.drop_eq_nil_of_le h] at hr; cases hr
    have hp : ps[b.length] = p ∧ ps.drop (b.length + 1) = r := by
      rw [drop_cons hb] at hr
      exact ⟨(List.cons.inj hr).1, (List.cons.inj hr).2⟩
    obtain ⟨hp1, hp2⟩ := hp
    have hmo := h.mo
    have hlm := h.lm
    have hlb := h.lb
    have h8 := h.job.len
    -- the loop from some sheet on
    have loop : ∀ (d s : Nat), s + d = min (L.length + 1) mo → ∀ (v : V) (q : Nat), d < q → ∃ K, K ≤ d * (2 + fu r.length (b.length + 1)) ∧ ∀ m,
        LP (GB C q0 (m + K)).1 (GB C q0 (m + K)).2 q sz ps mo (b.length : Int) v (b ++ ((s : Int) - 1) :: List.replicate (ps.length - (b.length + 1)) (-1)) (fil sz mo L) =
          if (fv c ((List.range' s d).flatMap fun s => if p ≤ rm sz L s then pl sz mo r (b ++ [(s : Int)]) (up sz L s p) else []) v).1 then (GB C q0 m).1 sz ps mo (b.length : Int) (fv c ((List.range' s d).flatMap fun s => if p ≤ rm sz L s then pl sz mo r (b ++ [(s : Int)]) (up sz L s p) else []) v).2 (b ++ (-1) :: List.replicate (ps.length - (b.length + 1)) (-1)) (fil sz mo L)
          else some ((), (fv c ((List.range' s d).flatMap fun s => if p ≤ rm sz L s then pl sz mo r (b ++ [(s : Int)]) (up sz L s p) else []) v).2, ()) := by
      intro d
      induction d with
      | zero =>
        intro s hs v q hq1
        obtain ⟨q, rfl⟩ : ∃ k, q = k + 1 := ⟨q - 1, by omega⟩
        refine ⟨0, Nat.zero_le _, fun m => ?_⟩
        have := lp_end (b1 := (GB C q0 m).1) (x1 := (GB C q0 m).2) (f2 := LP (GB C q0 m).1 (GB C q0 m).2 q) h hb v (List.replicate (ps.length - (b.length + 1)) (-1))
        rw [← hs, Nat.add_zero] at this
        exact this
      | succ d ihd =>
        intro s hs v q hq1
        obtain ⟨q, rfl⟩ : ∃ k, q = k + 1 := ⟨q - 1, by omega⟩
        have h1 : s ≤ L.length := by omega
        have h2 : s < mo := by omega
        rw [List.range'_succ, List.flatMap_cons]
        have one := fun m => lp_one (b1 := (GB C q0 m).1) (x1 := (GB C q0 m).2) (f2 := LP (GB C q0 m).1 (GB C q0 m).2 q) h hb v (List.replicate (ps.length - (b.length + 1)) (-1)) h1 h2
        rw [hp1] at one
        by_cases hf : p ≤ rm sz L s
        · have hch := h.child hb h1 h2 (by rw [hp1]; exact hf)
          rw [hp1] at hch
          obtain ⟨Kc, hKc, hc⟩ := ih (b ++ [(s : Int)]) (up sz L s p) hch (by simp only [List.length_append, List.length_cons, List.length_nil]; exact hp2) v
          simp only [List.length_append, List.length_cons, List.length_nil, Nat.zero_add, List.append_assoc, List.singleton_append] at hc hKc
          rw [if_pos hf]
          simp only [if_pos hf] at one
          generalize hQ : pl sz mo r (b ++ [(s : Int)]) (up sz L s p) = Q at *
          by_cases hgo : (fv c Q v).1 = true
          · obtain ⟨K2, hK2, hl⟩ := ihd (s + 1) (by omega) (fv c Q v).2 q0 (by omega)
            refine ⟨K2 + 2 + Kc, ?_, fun m => ?_⟩
            · rw [Nat.add_mul, Nat.one_mul]; omega
            · refine (one _).trans ?_
              have := hc (m + (K2 + 2))
              rw [show m + (K2 + 2) + Kc = m + (K2 + 2 + Kc) by omega] at this
              rw [this, if_pos hgo, show m + (K2 + 2) = (m + K2 + 1) + 1 by omega]
              have hbk := srch_back (C := C) (q0 := q0) h hb (fv c Q v).2 (List.replicate (ps.length - (b.length + 1)) (-1)) h1 h2 (by rw [hp1]; exact hf) (m + K2 + 1)
              rw [hp1] at hbk
              rw [hbk]
              have hx : (GB C q0 (m + K2 + 1)).2 = nxF C q0 (GB C q0 (m + K2)).1 (GB C q0 (m + K2)).2 := rfl
              rw [hx]
              unfold nxF
              rw [beq_false_of_ne (show (b.length : Int) ≠ (ps.length : Int) by omega), cond_false]
              have := hl m
              rw [show ((s + 1 : Nat) : Int) - 1 = (s : Int) by omega] at this
              rw [this]
              simp only [fv_app]
              simp only [if_pos hgo]
          · refine ⟨Kc, ?_, fun m => ?_⟩
            · rw [Nat.add_mul, Nat.one_mul]; omega
            · refine (one _).trans ?_
              rw [hc m, if_neg hgo]
              simp only [fv_app]
              simp only [if_neg hgo]
              simp
        · rw [if_neg hf, List.nil_append]
          obtain ⟨K, hK, hl⟩ := ihd (s + 1) (by omega) v q (by omega)
          refine ⟨K, ?_, fun m => ?_⟩
          · rw [Nat.add_mul, Nat.one_mul]; omega
          · have := one (m + K)
            rw [if_neg hf] at this
            refine this.trans ?_
            rw [← hl m, show ((s + 1 : Nat) : Int) - 1 = (s : Int) by omega]
    obtain ⟨K, hK, hl⟩ := loop (min (L.length + 1) mo) 0 (by omega) v q0 (by omega)
    refine ⟨K + 1, ?_, fun m => ?_⟩
    · have : min (L.length + 1) mo * (2 + fu r.length (b.length + 1)) ≤ (b.length + 1) * (2 + fu r.length (b.length + 1)) := Nat.mul_le_mul_right _ (by omega)
      simp only [List.length_cons, fu]
      omega
    · have hx : (GB C q0 (m + (K + 1))).2 = nxF C q0 (GB C q0 (m + K)).1 (GB C q0 (m + K)).2 := rfl
      have hrep : List.replicate (ps.length - b.length) (-1 : Int) = (-1) :: List.replicate (ps.length - (b.length + 1)) (-1) := by
        rw [← List.replicate_succ]; congr 1; omega
      rw [hx, hrep]
      unfold nxF
      rw [beq_false_of_ne (show (b.length : Int) ≠ (ps.length : Int) by omega), cond_false]
      have := hl m
      rw [show ((0 : Nat) : Int) - 1 = -1 by omega] at this
      rw [this]
      rfl
/-- The search hands over all plans with at most so many sheets, in ascending order. -/
theorem srch_eq (hC : Pure C c) (hq : 1000000 ≤ q0) (hj : Job sz ps) (hm : mo ≤ 1000) (v : V) : srch C q0 sz ps mo v (List.replicate ps.length (-1)) (List.replicate mo sz) = some ((), (fv c (pl sz mo ps [] []) v).2, ()) := by
  have hsi : SI sz mo ps [] [] := ⟨hj, by simp, by simp, by simp, by simp, hm⟩
  have h8 := hj.len
  have back0 : ∀ (m : Nat) (v : V) (a l : List Int), (GB C q0 (m + 1)).1 sz ps mo 0 v a l = some ((), v, ()) := fun m v a l => rfl
  have hfu : fu ps.length 0 ≤ 900000 := by
    have : ∀ k ≤ 8, fu k 0 ≤ 900000 := by decide
    exact this _ h8
  obtain ⟨K, hK, h⟩ := srch_node (q0 := q0) hC (by omega) ps [] [] hsi rfl v
  rw [List.length_nil] at hK
  have key : ∀ m, K ≤ m → (GB C q0 (m + 1)).2 sz ps mo 0 v (List.replicate ps.length (-1)) (List.replicate mo sz) = some ((), (fv c (pl sz mo ps [] []) v).2, ()) := fun m hm => by
    have := h (m + 1 - K)
    rw [show m + 1 - K + K = m + 1 by omega] at this
    have e : fil sz mo [] = List.replicate mo sz := by simp [fil]
    rw [e] at this
    refine Eq.trans this ?_
    split
    · rw [show m + 1 - K = (m - K) + 1 by omega]
      rfl
    · rfl
  have hx : ∀ m, (GB C q0 (m + 1)).2 = nxF C q0 (GB C q0 m).1 (GB C q0 m).2 := fun _ => rfl
  have k2 := key q0 (by omega)
  rw [hx] at k2
  unfold nxF at k2
  unfold srch
  exact k2
end
end Go.Proofs.YtgmonagekfjnmaaDoor
set_option linter.unusedVariables false
set_option linter.unusedSimpArgs false
set_option maxRecDepth 100000
namespace Go.Proofs.YtgmonagekfjnmaaDoor
open Go.Vi
noncomputable def c5 : Code := bodyOf Tryd.f5
/-D 99 -/
/-D 83 -/
/-D 35 -/
/-D 37 -/
/-D 39 -/
/-D 5 -/
end Go.Proofs.YtgmonagekfjnmaaDoor
set_option linter.unusedVariables false
set_option linter.unusedSimpArgs false
namespace Go.Proofs.YtgmonagekfjnmaaDoor
open Go.Vi
theorem rep2_eq (x : Int) : ∀ k ≤ 8, D69 N [x] ((k : Nat) : Int) = some (List.replicate k x)
  | 0, _ => by kernel_rfl
  | 1, _ => by kernel_rfl
  | 2, _ => by kernel_rfl
  | 3, _ => by kernel_rfl
  | 4, _ => by kernel_rfl
  | 5, _ => by kernel_rfl
  | 6, _ => by kernel_rfl
  | 7, _ => by kernel_rfl
  | 8, _ => by kernel_rfl
  | k + 9, h => by omega
theorem L84c85io0001_LP (n : Nat × Nat) (f1 : FN (List Int) × FN (List Int)) : ∀ q, DL84c85io0001_4 n f1 q = LP f1.1 f1.2 q
  | 0 => rfl
  | q + 1 => by
    rw [DL84c85io0001_4_succ, L84c85io0001_LP n f1 q]
    rfl
theorem G84c85io0001_GB (n : Nat × Nat) : ∀ m, DG84c85io0001_1 n m = GB (D85io11 n) n.1 m
  | 0 => rfl
  | m + 1 => by
    rw [DG84c85io0001_1_succ, G84c85io0001_GB n m]
    refine Prod.ext rfl ?_
    funext a b d e v p l
    show DF84c85io0001_3 n _ a b d e v p l = nxF (D85io11 n) n.1 _ _ a b d e v p l
    unfold DF84c85io0001_3 nxF
    rw [L84c85io0001_LP]
theorem M84c85io0001_LP (n : Nat × Nat) : ∀ q, DL84c85io0001_2 n q = LP (GB (D85io11 n) n.1 n.1).1 (GB (D85io11 n) n.1 n.1).2 q
  | 0 => rfl
  | q + 1 => by
    rw [DL84c85io0001_2_succ, M84c85io0001_LP n q, ← G84c85io0001_GB]
    rfl
theorem D84c85io0001_srch (n : Nat × Nat) (sz : Int) (ps : List Int) (most : Int) (v : List Int) : D84c85io0001 n sz ps most v = (D69 n [-1] (ps.length : Int)).bind fun r1 => (D69 n [sz] most).bind fun r2 => srch (D85io11 n) n.1 sz ps most v r1 r2 := by
  unfold D84c85io0001 srch
  rw [M84c85io0001_LP, ← G84c85io0001_GB]
  rfl
theorem D84c85io0001_eq {c : List Int → List Int → Bool × List Int} (hC : Pure (D85io11 N) c) {sz : Int} {ps : List Int} (hj : Job sz ps) {mo : Nat} (hm : mo ≤ 8) (v : List Int) : D84c85io0001 N sz ps mo v = some ((), (fv c (pl sz mo ps [] []) v).2, ()) := by
  rw [D84c85io0001_srch, rep_eq _ hj.len, Option.bind_some, rep2_eq _ _ hm, Option.bind_some]
  exact srch_eq hC (Nat.le_refl _) hj (by omega) v
theorem L84c86io0001_LP (n : Nat × Nat) (f1 : FN (Int) × FN (Int)) : ∀ q, DL84c86io0001_4 n f1 q = LP f1.1 f1.2 q
  | 0 => rfl
  | q + 1 => by
    rw [DL84c86io0001_4_succ, L84c86io0001_LP n f1 q]
    rfl
theorem G84c86io0001_GB (n : Nat × Nat) : ∀ m, DG84c86io0001_1 n m = GB (D86io11 n) n.1 m
  | 0 => rfl
  | m + 1 => by
    rw [DG84c86io0001_1_succ, G84c86io0001_GB n m]
    refine Prod.ext rfl ?_
    funext a b d e v p l
    show DF84c86io0001_3 n _ a b d e v p l = nxF (D86io11 n) n.1 _ _ a b d e v p l
    unfold DF84c86io0001_3 nxF
    rw [L84c86io0001_LP]
theorem M84c86io0001_LP (n : Nat × Nat) : ∀ q, DL84c86io0001_2 n q = LP (GB (D86io11 n) n.1 n.1).1 (GB (D86io11 n) n.1 n.1).2 q
  | 0 => rfl
  | q + 1 => by
    rw [DL84c86io0001_2_succ, M84c86io0001_LP n q, ← G84c86io0001_GB]
    rfl
theorem D84c86io0001_srch (n : Nat × Nat) (sz : Int) (ps : List Int) (most : Int) (v : Int) : D84c86io0001 n sz ps most v = (D69 n [-1] (ps.length : Int)).bind fun r1 => (D69 n [sz] most).bind fun r2 => srch (D86io11 n) n.1 sz ps most v r1 r2 := by
  unfold D84c86io0001 srch
  rw [M84c86io0001_LP, ← G84c86io0001_GB]
  rfl
theorem D84c86io0001_eq {c : List Int → Int → Bool × Int} (hC : Pure (D86io11 N) c) {sz : Int} {ps : List Int} (hj : Job sz ps) {mo : Nat} (hm : mo ≤ 8) (v : Int) : D84c86io0001 N sz ps mo v = some ((), (fv c (pl sz mo ps [] []) v).2, ()) := by
  rw [D84c86io0001_srch, rep_eq _ hj.len, Option.bind_some, rep2_eq _ _ hm, Option.bind_some]
  exact srch_eq hC (Nat.le_refl _) hj (by omega) v
theorem L84c98io0001_LP (n : Nat × Nat) (f1 : FN (Bool) × FN (Bool)) : ∀ q, DL84c98io0001_4 n f1 q = LP f1.1 f1.2 q
  | 0 => rfl
  | q + 1 => by
    rw [DL84c98io0001_4_succ, L84c98io0001_LP n f1 q]
    rfl
theorem G84c98io0001_GB (n : Nat × Nat) : ∀ m, DG84c98io0001_1 n m = GB (D98io11 n) n.1 m
  | 0 => rfl
  | m + 1 => by
    rw [DG84c98io0001_1_succ, G84c98io0001_GB n m]
    refine Prod.ext rfl ?_
    funext a b d e v p l
    show DF84c98io0001_3 n _ a b d e v p l = nxF (D98io11 n) n.1 _ _ a b d e v p l
    unfold DF84c98io0001_3 nxF
    rw [L84c98io0001_LP]
theorem M84c98io0001_LP (n : Nat × Nat) : ∀ q, DL84c98io0001_2 n q = LP (GB (D98io11 n) n.1 n.1).1 (GB (D98io11 n) n.1 n.1).2 q
  | 0 => rfl
  | q + 1 => by
    rw [DL84c98io0001_2_succ, M84c98io0001_LP n q, ← G84c98io0001_GB]
    rfl
theorem D84c98io0001_srch (n : Nat × Nat) (sz : Int) (ps : List Int) (most : Int) (v : Bool) : D84c98io0001 n sz ps most v = (D69 n [-1] (ps.length : Int)).bind fun r1 => (D69 n [sz] most).bind fun r2 => srch (D98io11 n) n.1 sz ps most v r1 r2 := by
  unfold D84c98io0001 srch
  rw [M84c98io0001_LP, ← G84c98io0001_GB]
  rfl
theorem D84c98io0001_eq {c : List Int → Bool → Bool × Bool} (hC : Pure (D98io11 N) c) {sz : Int} {ps : List Int} (hj : Job sz ps) {mo : Nat} (hm : mo ≤ 8) (v : Bool) : D84c98io0001 N sz ps mo v = some ((), (fv c (pl sz mo ps [] []) v).2, ()) := by
  rw [D84c98io0001_srch, rep_eq _ hj.len, Option.bind_some, rep2_eq _ _ hm, Option.bind_some]
  exact srch_eq hC (Nat.le_refl _) hj (by omega) v
theorem clone_eq (n : Nat × Nat) (l : List Int) (h : l.length ≤ 1000) : D56 n l = some l := by
  unfold D56 HF56
  rw [decide_eq_true (show l.length ≤ lim by simp [lim]; omega), cond_true]
theorem pure85 : Pure (D85io11 N) (fun q _ => (false, q)) := fun q v h => by
  unfold D85io11 D56v
  rw [clone_eq N q (by omega)]
  rfl
theorem pure98 : Pure (D98io11 N) (fun _ _ => (false, true)) := fun q v h => rfl
theorem pure86 : Pure (D86io11 N) (fun _ v => (true, wr .i64 (v + 1))) := fun q v h => rfl
theorem fv85 : ∀ (l : List (List Int)) (v : List Int), (fv (fun q (_ : List Int) => (false, q)) l v).2 = l.headD v
  | [], _ => rfl
  | _ :: _, _ => rfl
theorem fv98 : ∀ (l : List (List Int)), (fv (fun _ (_ : Bool) => (false, true)) l false).2 = !l.isEmpty
  | [] => rfl
  | _ :: _ => rfl
theorem fv86 : ∀ (l : List (List Int)) (k : Nat), k + l.length < 1000000 → (fv (fun _ (v : Int) => (true, wr .i64 (v + 1))) l (k : Int)).2 = ((k + l.length : Nat) : Int)
  | [], _, _ => rfl
  | q :: l, k, h => by
    rw [List.length_cons] at h
    have := fv86 l (k + 1) (by omega)
    unfold fv
    rw [if_pos rfl, wr_succ (by omega), this]
    simp only [List.length_cons]
    congr 1
    omega
/-! How many plans there are at most. -/
def cb : Nat → Nat → Nat
  | 0, _ => 1
  | r + 1, i => (i + 1) * cb r (i + 1)
theorem flat_len {α β : Type} (f : α → List β) (k : Nat) : ∀ (l : List α), (∀ a ∈ l, (f a).length ≤ k) → (l.flatMap f).length ≤ l.length * k
  | [], _ => by simp
  | a :: l, h => by
    have h1 := h a (by simp)
    have h2 := flat_len f k l (fun b hb => h b (by simp [hb]))
    rw [List.flatMap_cons, List.length_append, List.length_cons, Nat.succ_mul]
    omega
theorem pl_count (sz : Int) (mo : Nat) : ∀ (r b L : List Int), L.length ≤ b.length → (pl sz mo r b L).length ≤ cb r.length b.length
  | [], b, L, _ => by simp [pl, cb]
  | p :: r, b, L, h => by
    unfold pl
    refine Nat.le_trans (flat_len _ (cb r.length (b.length + 1)) _ (fun s hs => ?_)) ?_
    · have hs1 : s ≤ L.length := by have := List.mem_range'_1.1 hs; omega
      split
      · have := pl_count sz mo r (b ++ [(s : Int)]) (up sz L s p) (by rw [up_len p hs1]; simp; omega)
        simpa using this
      · simp
    · simp only [List.length_range', List.length_cons, cb]
      exact Nat.mul_le_mul_right _ (by omega)
theorem cb8 {k : Nat} (h : k ≤ 8) : cb k 0 ≤ 100000 := by
  have : ∀ k ≤ 8, cb k 0 ≤ 100000 := by decide
  exact this _ h
/-- What begins a plan. -/
structure Rs (sz : Int) (ps b L : List Int) : Prop where
  job : Job sz ps
  le : b.length ≤ ps.length
  nn : ∀ x ∈ b, 0 ≤ x
  my : mny b ≤ b.length
  left : L = lf sz (ps.take b.length) b
theorem Rs.len {sz : Int} {ps b L : List Int} (h : Rs sz ps b L) : (L.length : Int) = mny b := by rw [h.left]; exact lf_len _ _ _
theorem Rs.rm {sz : Int} {ps b L : List Int} (h : Rs sz ps b L) {s : Nat} (hs : s ≤ L.length) : rm sz L s = sz - usd (ps.take b.length) b s := by
  have hl := h.len
  by_cases e : s < L.length
  · rw [rm_get e]
    have := h.left
    subst this
    exact lf_get e
  · unfold Proofs.YtgmonagekfjnmaaDoor.rm
    rw [List.getD_eq_getElem?_getD, List.getElem?_eq_none (by omega), Option.getD_none, usd_none (fun hm => by have := mny_lt hm; omega)]
    omega
theorem Rs.child {sz : Int} {ps b L : List Int} (h : Rs sz ps b L) (hb : b.length < ps.length) {s : Nat} (hs : s ≤ L.length) : Rs sz ps (b ++ [(s : Int)]) (up sz L s ps[b.length]) := by
  have hl := h.len
  have hmy := h.my
  refine ⟨h.job, by simp; omega, fun x hx => ?_, ?_, ?_⟩
  · rcases List.mem_append.1 hx with hx | hx
    · exact h.nn x hx
    · rw [List.mem_singleton.1 hx]; omega
  · rw [mny_snoc, List.length_append]
    simp only [List.length_cons, List.length_nil]
    omega
  · have := lf_step sz ps[b.length] (s : Int) (ps := ps.take b.length) (l := b) (by simp; omega) (by omega) (by omega)
    rw [← take_snoc hb, ← h.left, ← h.rm hs] at this
    rw [List.length_append, List.length_singleton, this]
    unfold up
    rw [Int.toNat_natCast]
    by_cases e : s = L.length
    · rw [if_pos e, if_pos (by omega)]
    · rw [if_neg e, if_neg (by omega)]
theorem Rs.nil {sz : Int} {ps : List Int} (h : Job sz ps) : Rs sz ps [] [] := ⟨h, by simp, by simp, by simp [mny], rfl⟩
/-! The reference's plans. -/
/-! Plans by their number of sheets. -/
theorem mny_app (a : List Int) : ∀ b : List Int, mny a ≤ mny (a ++ b) := fun b => by
  unfold mny
  rw [List.foldl_append]
  exact (fold_mny b _).1
theorem pl_pre {sz : Int} {mo : Nat} : ∀ (r b L q : List Int), q ∈ pl sz mo r b L → ∃ t, t.length = r.length ∧ q = b ++ t
  | [], b, L, q, h => ⟨[], rfl, by simpa [pl] using h⟩
  | p :: r, b, L, q, h => by
    unfold pl at h
    obtain ⟨s, _, hq⟩ := List.mem_flatMap.1 h
    split at hq
    · obtain ⟨t, ht, e⟩ := pl_pre r _ _ q hq
      exact ⟨(s : Int) :: t, by simp [ht], by rw [e]; simp⟩
    · simp at hq
theorem flat_congr {α β : Type} {f g : α → List β} : ∀ {l : List α}, (∀ a ∈ l, f a = g a) → l.flatMap f = l.flatMap g
  | [], _ => rfl
  | a :: l, h => by rw [List.flatMap_cons, List.flatMap_cons, h a (by simp), flat_congr (fun b hb => h b (by simp [hb]))]
theorem pl_filter {sz : Int} {mo big : Nat} (hmb : mo ≤ big) : ∀ (r b L : List Int), (L.length : Int) = mny b → L.length ≤ mo → pl sz mo r b L = (pl sz big r b L).filter fun q => decide (mny q ≤ mo)
  | [], b, L, h, hm => by
    unfold pl
    rw [List.filter_cons, if_pos (by simp; omega), List.filter_nil]
  | p :: r, b, L, h, hm => by
    have hkid : ∀ s ≤ L.length, max L.length (s + 1) ≤ mo → (if p ≤ rm sz L s then pl sz mo r (b ++ [(s : Int)]) (up sz L s p) else []) = (if p ≤ rm sz L s then pl sz big r (b ++ [(s : Int)]) (up sz L s p) else []).filter fun q => decide (mny q ≤ mo) := fun s hs hs2 => by
      split
      · refine pl_filter hmb r _ _ ?_ (by rw [up_len p hs]; exact hs2)
        rw [up_len p hs, mny_snoc]
        omega
      · rfl
    unfold pl
    rw [List.filter_flatMap]
    by_cases h1 : L.length + 1 ≤ mo
    · rw [Nat.min_eq_left h1, Nat.min_eq_left (Nat.le_trans h1 hmb)]
      refine flat_congr ?_
      intro s hs
      have := List.mem_range'_1.1 hs
      exact hkid s (by omega) (by omega)
    · have hL : mo = L.length := by omega
      rw [Nat.min_eq_right (by omega : mo ≤ L.length + 1)]
      have hk2 : ((List.range' 0 mo).flatMap fun s => if p ≤ rm sz L s then pl sz mo r (b ++ [(s : Int)]) (up sz L s p) else []) = (List.range' 0 mo).flatMap fun a => (if p ≤ rm sz L a then pl sz big r (b ++ [(a : Int)]) (up sz L a p) else []).filter fun q => decide (mny q ≤ mo) := by
        refine flat_congr ?_
        intro s hs
        have := List.mem_range'_1.1 hs
        exact hkid s (by omega) (by omega)
      rw [hk2]
      by_cases h2 : big = mo
      · rw [h2, Nat.min_eq_right (by omega : mo ≤ L.length + 1)]
      · rw [Nat.min_eq_left (by omega : L.length + 1 ≤ big), List.range'_1_concat, List.flatMap_append, List.flatMap_cons, List.flatMap_nil, List.append_nil, ← hL]
        suffices hz : ((if p ≤ rm sz L (0 + mo) then pl sz big r (b ++ [((0 + mo : Nat) : Int)]) (up sz L (0 + mo) p) else []).filter fun q => decide (mny q ≤ mo)) = [] by rw [hz, List.append_nil]
        rw [List.filter_eq_nil_iff]
        intro q hq
        split at hq
        · obtain ⟨t, _, e⟩ := pl_pre r _ _ q hq
          have := mny_app (b ++ [((0 + mo : Nat) : Int)]) t
          rw [mny_snoc, ← e] at this
          simp only [decide_eq_true_eq]
          omega
        · simp at hq
theorem pl_ne {sz : Int} {mo : Nat} : ∀ (r b L : List Int), (∀ p ∈ r, p ≤ sz) → L.length + r.length ≤ mo → pl sz mo r b L ≠ []
  | [], b, L, _, _ => by simp [pl]
  | p :: r, b, L, hp, hm => by
    rw [List.length_cons] at hm
    have hr : rm sz L L.length = sz := by unfold rm; rw [List.getD_eq_getElem?_getD, List.getElem?_eq_none (by omega), Option.getD_none]
    have ih := pl_ne (sz := sz) (mo := mo) r (b ++ [(L.length : Int)]) (up sz L L.length p) (fun q hq => hp q (by simp [hq])) (by rw [up_len p (Nat.le_refl _)]; omega)
    obtain ⟨q, hq⟩ := List.exists_mem_of_ne_nil _ ih
    refine List.ne_nil_of_mem (a := q) ?_
    unfold pl
    refine List.mem_flatMap.2 ⟨L.length, List.mem_range'_1.2 (by omega), ?_⟩
    rw [if_pos (by rw [hr]; exact hp p (by simp))]
    exact hq
/-- All plans with at most so many sheets. -/
def apl (sz : Int) (ps : List Int) (mo : Nat) : List (List Int) := pl sz mo ps [] []
def fwg (f : Nat → Bool) : Nat → Nat → Nat
  | 0, k => k
  | d + 1, k => if f k then k else fwg f d (k + 1)
theorem fwg_spec (f : Nat → Bool) : ∀ (d k : Nat), f (k + d) = true → f (fwg f d k) = true ∧ k ≤ fwg f d k ∧ fwg f d k ≤ k + d ∧ ∀ j, k ≤ j → j < fwg f d k → f j = false
  | 0, k, h => ⟨h, Nat.le_refl _, Nat.le_refl _, fun j h1 h2 => by unfold fwg at h2; omega⟩
  | d + 1, k, h => by
    unfold fwg
    by_cases e : f k = true
    · rw [if_pos e]
      exact ⟨e, Nat.le_refl _, by omega, fun j h1 h2 => by omega⟩
    · rw [if_neg e]
      obtain ⟨h1, h2, h3, h4⟩ := fwg_spec f d (k + 1) (by rw [show k + 1 + d = k + (d + 1) by omega]; exact h)
      refine ⟨h1, by omega, by omega, fun j hj1 hj2 => ?_⟩
      by_cases hj : j = k
      · rw [hj]; simpa using e
      · exact h4 j (by omega) hj2
/-- The fewest sheets. -/
def fw (sz : Int) (ps : List Int) : Nat := fwg (fun k => !(apl sz ps k).isEmpty) ps.length 0
theorem apl_len {sz : Int} {ps : List Int} (hj : Job sz ps) : apl sz ps ps.length ≠ [] := pl_ne ps [] [] (fun p hp => (hj.ok p hp).2) (by simp)
theorem fw_spec {sz : Int} {ps : List Int} (hj : Job sz ps) : apl sz ps (fw sz ps) ≠ [] ∧ fw sz ps ≤ ps.length ∧ ∀ j < fw sz ps, apl sz ps j = [] := by
  have h0 : (fun k => !(apl sz ps k).isEmpty) (0 + ps.length) = true := by
    rw [Nat.zero_add]
    have := apl_len hj
    show (!(apl sz ps ps.length).isEmpty) = true
    cases h : apl sz ps ps.length
    · exact absurd h this
    · rfl
  obtain ⟨h1, h2, h3, h4⟩ := fwg_spec (fun k => !(apl sz ps k).isEmpty) ps.length 0 h0
  refine ⟨fun e => ?_, by unfold fw; omega, fun j hj => ?_⟩
  · unfold fw at e
    simp only [e] at h1
    exact absurd h1 (by simp)
  · have := h4 j (by omega) hj
    cases h : apl sz ps j
    · rfl
    · simp [h] at this
theorem apl_count {sz : Int} {ps : List Int} (hj : Job sz ps) (mo : Nat) : (apl sz ps mo).length ≤ 100000 :=
  Nat.le_trans (pl_count sz mo ps [] [] (by simp)) (cb8 hj.len)
theorem apl_filter {sz : Int} {ps : List Int} {mo big : Nat} (h : mo ≤ big) : apl sz ps mo = (apl sz ps big).filter fun q => decide (mny q ≤ mo) := pl_filter h ps [] [] rfl (by simp)
theorem apl_le {sz : Int} {ps : List Int} {mo : Nat} {q : List Int} (h : q ∈ apl sz ps mo) : mny q ≤ mo := by
  rw [apl_filter (Nat.le_refl mo)] at h
  simpa using (List.mem_filter.1 h).2
theorem apl_down {sz : Int} {ps : List Int} {mo big : Nat} {q : List Int} (hb : q ∈ apl sz ps big) (h : mny q ≤ mo) (hm : mo ≤ big) : q ∈ apl sz ps mo := by
  rw [apl_filter hm]
  exact List.mem_filter.2 ⟨hb, by simpa using h⟩
theorem fw_mny {sz : Int} {ps : List Int} (hj : Job sz ps) {q : List Int} (h : q ∈ apl sz ps (fw sz ps)) : mny q = fw sz ps := by
  obtain ⟨h1, h2, h3⟩ := fw_spec hj
  have h4 := apl_le h
  by_cases e : mny q = fw sz ps
  · exact e
  · have h0 := mny_nn q
    have := apl_down (mo := fw sz ps - 1) h (by omega) (by omega)
    rw [h3 _ (by omega)] at this
    cases this
theorem apl_qlen {sz : Int} {ps : List Int} {mo : Nat} {q : List Int} (h : q ∈ apl sz ps mo) : q.length = ps.length := by
  obtain ⟨t, ht, e⟩ := pl_pre ps [] [] q h
  rw [e, List.nil_append, ht]
theorem least_loop {sz : Int} {ps : List Int} (hj : Job sz ps) : ∀ (m k : Nat), k ≤ fw sz ps → fw sz ps - k < m → DL82_1 N m sz ps (k : Int) = some ((fw sz ps : Nat) : Int)
  | 0, k, _, h => by omega
  | m + 1, k, hk, h => by
    obtain ⟨h1, h2, h3⟩ := fw_spec hj
    have h8 := hj.len
    rw [DL82_1_succ]
    unfold DF82_1
    rw [D84c98io0001_eq pure98 hj (by omega : k ≤ 8), Option.bind_some, fv98]
    by_cases e : k = fw sz ps
    · subst e
      have : (pl sz (fw sz ps) ps [] []).isEmpty = false := by
        cases hh : pl sz (fw sz ps) ps [] []
        · exact absurd hh h1
        · rfl
      simp only [this, Bool.not_false, show (true == false) = false from rfl, cond_false, Option.bind_some, cond_true]
    · have : pl sz k ps [] [] = [] := h3 k (by omega)
      simp only [this, List.isEmpty_nil, Bool.not_true, beq_self_eq_true, cond_true, Option.bind_some]
      rw [beq_false_of_ne (show (k : Int) ≠ (ps.length : Int) by omega), cond_false, wr_succ (by omega), least_loop hj m (k + 1) (by omega) (by omega)]
theorem least_eq {sz : Int} {ps : List Int} (hj : Job sz ps) : D82 N sz ps = some ((fw sz ps : Nat) : Int) := by
  unfold D82
  obtain ⟨h1, h2, h3⟩ := fw_spec hj
  exact least_loop hj N.1 0 (by omega) (by have : N.1 = 1000000 := rfl; have := hj.len; omega)
def fwS (sz : Int) (ps : List Int) : Int × Int := if chk sz ps ≠ 0 then (0, chk sz ps) else (fw sz ps, 0)
def fsS (sz : Int) (ps : List Int) : List Int × Int := if chk sz ps ≠ 0 then ([], chk sz ps) else ((apl sz ps (fw sz ps)).headD [], 0)
def cnS (sz : Int) (ps : List Int) : Int × Int := if chk sz ps ≠ 0 then (0, chk sz ps) else ((apl sz ps (fw sz ps)).length, 0)
theorem Fewest_eq (sz : Int) (ps : List Int) : D34 N sz ps = some (fwS sz ps) := by
  unfold D34 fwS
  rw [Check_eq hN1, Option.bind_some]
  by_cases h : chk sz ps = 0
  · have hj := chk_job.1 h
    rw [h, bne_self_eq_false, cond_false, if_neg (by simp), least_eq hj, Option.bind_some]
  · rw [show (chk sz ps != 0) = true by simpa using h, cond_true, if_pos h]
theorem First_eq (sz : Int) (ps : List Int) : D36 N sz ps = some (fsS sz ps) := by
  unfold D36 fsS
  rw [Check_eq hN1, Option.bind_some]
  by_cases h : chk sz ps = 0
  · have hj := chk_job.1 h
    obtain ⟨h1, h2, h3⟩ := fw_spec hj
    have h8 := hj.len
    rw [h, bne_self_eq_false, cond_false, if_neg (by simp), least_eq hj, Option.bind_some, D84c85io0001_eq pure85 hj (by omega), Option.bind_some, fv85]
    rfl
  · rw [show (chk sz ps != 0) = true by simpa using h, cond_true, if_pos h]
theorem Count_eq (sz : Int) (ps : List Int) : D38 N sz ps = some (cnS sz ps) := by
  unfold D38 cnS
  rw [Check_eq hN1, Option.bind_some]
  by_cases h : chk sz ps = 0
  · have hj := chk_job.1 h
    obtain ⟨h1, h2, h3⟩ := fw_spec hj
    have h8 := hj.len
    have hc := apl_count hj (fw sz ps)
    have hf := fv86 (pl sz (fw sz ps) ps [] []) 0 (by unfold apl at hc; omega)
    rw [h, bne_self_eq_false, cond_false, if_neg (by simp), least_eq hj, Option.bind_some, D84c86io0001_eq pure86 hj (by omega), Option.bind_some, show (0 : Int) = ((0 : Nat) : Int) from rfl, hf, Nat.zero_add]
    rfl
  · rw [show (chk sz ps != 0) = true by simpa using h, cond_true, if_pos h]
theorem head_mem {l : List (List Int)} (h : l ≠ []) : ∃ hl : 0 < l.length, l[0] = l.headD [] ∧ l.headD [] ∈ l := by
  cases l with
  | nil => exact absurd rfl h
  | cons a l => exact ⟨by simp, rfl, by simp⟩
theorem usd_app (s : Int) : ∀ (a a' l l' : List Int), a.length = l.length → usd (a ++ a') (l ++ l') s = usd a l s + usd a' l' s
  | [], a', [], l', _ => by simp [usd]
  | p :: a, a', x :: l, l', h => by
    simp only [List.cons_append, usd]
    rw [usd_app s a a' l l' (by simpa using h)]
    omega
  | [], _, _ :: _, _, h => by simp at h
  | _ :: _, _, [], _, h => by simp at h
def okT (sz : Int) (mo : Nat) : List Int → List Int → List Int → Prop
  | _, [], t => t = []
  | L, p :: r, t => ∃ (s : Nat) (t' : List Int), t = (s : Int) :: t' ∧ s ≤ L.length ∧ s < mo ∧ p ≤ rm sz L s ∧ okT sz mo (up sz L s p) r t'
theorem mem_pl {sz : Int} {mo : Nat} : ∀ (r b L q : List Int), q ∈ pl sz mo r b L ↔ ∃ t, q = b ++ t ∧ okT sz mo L r t
  | [], b, L, q => by
    unfold pl okT
    simp
  | p :: r, b, L, q => by
    unfold pl okT
    rw [List.mem_flatMap]
    constructor
    · rintro ⟨s, hs, hq⟩
      have hs := List.mem_range'_1.1 hs
      split at hq
      · rename_i hf
        obtain ⟨t, ht, hk⟩ := (mem_pl r _ _ q).1 hq
        exact ⟨(s : Int) :: t, by rw [ht]; simp, s, t, rfl, by omega, by omega, hf, hk⟩
      · cases hq
    · rintro ⟨t, ht, s, t', rfl, h1, h2, hf, hk⟩
      refine ⟨s, List.mem_range'_1.2 (by omega), ?_⟩
      rw [if_pos hf]
      exact (mem_pl r _ _ q).2 ⟨t', by rw [ht]; simp, hk⟩
theorem okT_iff {sz : Int} {ps : List Int} {mo : Nat} (hj : Job sz ps) : ∀ (r b L t : List Int), Rs sz ps b L → ps.drop b.length = r → (∀ x, usd (ps.take b.length) b x ≤ sz) → mny b ≤ mo → t.length = r.length →
    (okT sz mo L r t ↔ oer (mny b) t = 0 ∧ (∀ x, usd ps (b ++ t) x ≤ sz) ∧ mny (b ++ t) ≤ mo)
  | [], b, L, t, h, hr, hu, hm, ht => by
    have : t = [] := List.length_eq_zero_iff.1 (by simpa using ht)
    subst this
    have hle := h.le
    have hb : b.length = ps.length := by have := List.drop_eq_nil_iff.1 hr; omega
    rw [hb, List.take_length] at hu
    unfold okT oer
    rw [List.append_nil]
    exact ⟨fun _ => ⟨rfl, hu, hm⟩, fun _ => rfl⟩
  | p :: r, b, L, [], h, hr, hu, hm, ht => by simp at ht
  | p :: r, b, L, x :: t, h, hr, hu, hm, ht => by
    have hb : b.length < ps.length := by
      rcases Nat.lt_or_ge b.length ps.length with h | h
      · exact h
      · rw [List.drop_eq_nil_of_le h] at hr; cases hr
    have hp : ps[b.length] = p ∧ ps.drop (b.length + 1) = r := by
      rw [drop_cons hb] at hr
      exact ⟨(List.cons.inj hr).1, (List.cons.inj hr).2⟩
    obtain ⟨hp1, hp2⟩ := hp
    have hlen := h.len
    have hpr := hj.ok _ (List.getElem_mem hb)
    rw [hp1] at hpr
    have hut : ∀ s : Int, usd (ps.take (b.length + 1)) (b ++ [x]) s = usd (ps.take b.length) b s + if x = s then p else 0 := fun s => by
      rw [take_snoc hb, usd_snoc _ _ _ (by simp; omega), hp1]
    have hps : ps = ps.take (b.length + 1) ++ r := by rw [← hp2, List.take_append_drop]
    have hut2 : ∀ s : Int, usd ps (b ++ x :: t) s = usd (ps.take (b.length + 1)) (b ++ [x]) s + usd r t s := fun s => by
      have := usd_app s (ps.take (b.length + 1)) r (b ++ [x]) t (by simp; omega)
      rw [← hps, List.append_assoc, List.singleton_append] at this
      exact this
    have hnn : ∀ s : Int, 0 ≤ usd r t s := fun s => usd_nn (fun q hq => by
      rw [← hp2] at hq
      have := hj.ok q (List.mem_of_mem_drop hq)
      omega)
    have main : ∀ s : Nat, x = (s : Int) → s ≤ L.length → p ≤ rm sz L s → s < mo → (okT sz mo (up sz L s p) r t ↔ oer (mny (b ++ [x])) t = 0 ∧ (∀ y, usd ps ((b ++ [x]) ++ t) y ≤ sz) ∧ mny ((b ++ [x]) ++ t) ≤ mo) := by
      intro s hs h1 hf h2
      subst hs
      have hc := h.child hb h1
      rw [hp1] at hc
      refine okT_iff hj r (b ++ [(s : Int)]) (up sz L s p) t hc (by simp only [List.length_append, List.length_cons, List.length_nil]; exact hp2) (fun y => ?_) (by rw [mny_snoc]; omega) (by simpa using ht)
      rw [List.length_append, List.length_singleton, hut y]
      by_cases e : (s : Int) = y
      · rw [if_pos e, ← e]
        have := h.rm h1
        omega
      · rw [if_neg e]
        have := hu y
        omega
    unfold okT oer
    constructor
    · rintro ⟨s, t', he, h1, h2, hf, hk⟩
      obtain ⟨hx, rfl⟩ := List.cons.inj he
      obtain ⟨m1, m2, m3⟩ := (main s hx h1 hf h2).1 hk
      rw [List.append_assoc, List.singleton_append] at m3
      simp only [List.append_assoc, List.singleton_append] at m2
      rw [if_neg (by omega), if_neg (by omega)]
      rw [mny_snoc] at m1
      exact ⟨m1, m2, m3⟩
    · rintro ⟨m1, m2, m3⟩
      split at m1
      · omega
      · split at m1
        · omega
        · rename_i hx0 hx1
          have hmx : x < mny (b ++ x :: t) := mny_lt (by simp)
          have h1 : x.toNat ≤ L.length := by omega
          have hf : p ≤ rm sz L x.toNat := by
            have e1 := m2 x
            rw [hut2 x, hut x, if_pos rfl] at e1
            have e2 := hnn x
            rw [h.rm h1, show ((x.toNat : Nat) : Int) = x by omega]
            omega
          refine ⟨x.toNat, t, by rw [show ((x.toNat : Nat) : Int) = x by omega], h1, by omega, hf, ?_⟩
          refine (main x.toNat (by omega) h1 hf (by omega)).2 ⟨?_, ?_, ?_⟩
          · rw [mny_snoc]; exact m1
          · simp only [List.append_assoc, List.singleton_append]; exact m2
          · rw [List.append_assoc, List.singleton_append]; exact m3
theorem apl_iff {sz : Int} {ps : List Int} {mo : Nat} (hj : Job sz ps) {q : List Int} : q ∈ apl sz ps mo ↔ Pln sz ps q ∧ mny q ≤ mo := by
  unfold apl
  have hlo := hj.lo
  rw [mem_pl]
  constructor
  · rintro ⟨t, ht, hk⟩
    rw [List.nil_append] at ht
    subst ht
    have hl : q.length = ps.length := apl_qlen (mo := mo) (sz := sz) (by unfold apl; exact (mem_pl ps [] [] q).2 ⟨q, by simp, hk⟩)
    obtain ⟨h1, h2, h3⟩ := (okT_iff hj ps [] [] q (Rs.nil hj) rfl (fun x => by simp [usd]; omega) (by rw [mny_nil]; omega) hl).1 hk
    exact ⟨⟨hj, hl, h1, fun x _ => h2 x⟩, h3⟩
  · rintro ⟨hp, hm⟩
    refine ⟨q, by simp, ?_⟩
    refine (okT_iff hj ps [] [] q (Rs.nil hj) rfl (fun x => by simp [usd]; omega) (by rw [mny_nil]; omega) hp.len).2 ⟨hp.ord, fun x => ?_, hm⟩
    rw [List.nil_append]
    by_cases hx : x ∈ q
    · exact hp.fit x hx
    · rw [usd_none hx]; omega
/-- No plan has fewer sheets. -/
theorem fw_le {sz : Int} {ps q : List Int} (h : Pln sz ps q) : (fw sz ps : Int) ≤ mny q := by
  obtain ⟨h1, h2, h3⟩ := fw_spec h.job
  have h0 := mny_nn q
  by_cases e : (fw sz ps : Int) ≤ mny q
  · exact e
  · have := (apl_iff (mo := (mny q).toNat) h.job).2 ⟨h, by omega⟩
    rw [h3 _ (by omega)] at this
    cases this
/-- The first plan with the fewest sheets. -/
def fst (sz : Int) (ps : List Int) : List Int := (apl sz ps (fw sz ps)).headD []
theorem fst_mem {sz : Int} {ps : List Int} (hj : Job sz ps) : fst sz ps ∈ apl sz ps (fw sz ps) := (head_mem (fw_spec hj).1).2.2
theorem fst_pln {sz : Int} {ps : List Int} (hj : Job sz ps) : Pln sz ps (fst sz ps) := ((apl_iff hj).1 (fst_mem hj)).1
theorem fst_mny {sz : Int} {ps : List Int} (hj : Job sz ps) : mny (fst sz ps) = fw sz ps := fw_mny hj (fst_mem hj)
theorem fsS_eq {sz : Int} {ps : List Int} (hj : Job sz ps) : fsS sz ps = (fst sz ps, 0) := by unfold fsS fst; rw [if_neg (by simpa using chk_job.2 hj)]
theorem fwS_eq {sz : Int} {ps : List Int} (hj : Job sz ps) : fwS sz ps = ((fw sz ps : Int), 0) := by unfold fwS; rw [if_neg (by simpa using chk_job.2 hj)]
theorem cnS_eq {sz : Int} {ps : List Int} (hj : Job sz ps) : cnS sz ps = (((apl sz ps (fw sz ps)).length : Int), 0) := by unfold cnS; rw [if_neg (by simpa using chk_job.2 hj)]
end Go.Proofs.YtgmonagekfjnmaaDoor
