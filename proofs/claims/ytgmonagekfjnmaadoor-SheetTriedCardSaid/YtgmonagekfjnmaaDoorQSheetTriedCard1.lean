/- Texts of this claim, joined: G100 to Sn. -/
import Derived.KernelRfl
import Derived.Test.YtgmonagekfjnmaaDoorProg
import Derived.WalkKit
import Derived.Test.YtgmonagekfjnmaaDoorP6
set_option linter.unusedVariables false
set_option linter.unusedSimpArgs false
set_option maxRecDepth 100000
namespace Go.Proofs.YtgmonagekfjnmaaDoor
open Go.Vi
abbrev R100 := Bool
noncomputable def c100 : Code := bodyOf Tryd.f100
noncomputable def an100 : Ann := (.s .l (.s (.s .l (.j [] (.j [0, 3] (.s (.s .l (.j [0, 3] .l .l)) (.s (.j [0, 3] (.s .l (.j [0, 3] .l .l)) .l) .l)) .l) .l)) .l))
def pk100 : List PK := [.c (.int .i64)]
def rk100 : List RK := [.c .bool 2]
noncomputable def rt100 (st : St) : Option R100 := rtG rk100 st
noncomputable def E100 (n : Nat × Nat) : Env := { T := tab, phi := noPhi, eff := fun _ => false, fuel := n.1, hold := n.2 }
noncomputable def kq100_1 (n : Nat × Nat) : St → Option R100 := run (E100 n) (cB (cB c100)) (Ann.snd (Ann.snd an100)) rt100 (fun _ _ => none) rt100
noncomputable def xb100_3 (n : Nat × Nat) : Nat → St → Option R100 := fun j s => bif Nat.beq j 0 then normC [] s (kq100_1 n) else (fun _ _ => none) j s
noncomputable def F100_4 (n : Nat × Nat) : (St → Option R100) → St → Option R100 := fun K s => run (E100 n) (cA (cA (cB (cA (cB c100))))) (Ann.fst (Ann.fst (Ann.snd (Ann.fst (Ann.snd an100))))) (fun s => normC [0, 3] s K) (xb100_3 n) rt100 s
noncomputable def L100_1 (n : Nat × Nat) (m : Nat) (v0 : Int) (d3 : Int) : Option R100 := loopN (F100_4 n) m { tm := [.c (.int .i64 v0), uu, uu, .c (.int .i64 d3), uu, uu, uu, uu, uu, uu, uu, uu, uu], hp := emp }
theorem L100_1_eq (n : Nat × Nat) (m1 : Nat) (v0 : Int) (d3 : Int) : L100_1 n (m1 + 1) v0 d3 =
 (bif decide (d3 < v0) then (bif d3 == 0 then none
 else (bif ((Int.tmod v0 d3) == 0) then some false
 else L100_1 n m1 v0 (wr .i64 (d3 + 1))))
 else some true) := by kernel_rfl
noncomputable def S100 (n : Nat × Nat) (v0 : Int) : Option R100 := run (E100 n) c100 an100 rt100 (fun _ _ => none) rt100 { tm := [.c (.int .i64 v0), uu, uu, uu, uu, uu, uu, uu, uu, uu, uu, uu, uu], hp := emp }
theorem S100_eq (n : Nat × Nat) (v0 : Int) : S100 n v0 =
    L100_1 n n.1 v0 2 := by kernel_rfl
theorem S100_run (n : Nat × Nat) (xs : pksDen pk100) : S100 n xs.1 = runG (E100 n) noScope c100 an100 (rtG rk100) (fun _ _ => none) (rtG rk100) (st0 pk100 xs Tryd.f100.ntmps) := by kernel_rfl
noncomputable def P100 (n : Nat × Nat) := phiOf pk100 rk100 (fun xs => S100 n xs.1)
theorem call100 : CallOK Tryd.prog 100 := callOK_of Tryd.func100 (by kernel_rfl) (by kernel_rfl)
theorem env100 (n : Nat × Nat) : EnvOK Tryd.prog (E100 n) := envOK0 noPhi_ok rfl rfl
theorem par100 (n : Nat × Nat) : EnvPar (E100 n) := envPar0 noPhi_par rfl
theorem FC100 (n : Nat × Nat) : FCs Tryd.prog 100 (P100 n) := phiOf_FCs fun xs r h vs hv => FC.of_runG tabOK eqsOK (env100 n) (par100 n) mixed (fun _ p _ => noScope_ok p.1 p.2) Tryd.func100 (c := c100) (an := an100) (pks := pk100) (rks := rk100) (by kernel_rfl) (by kernel_rfl) hv ((S100_run n xs).symm.trans h)
abbrev R89 := List Int
noncomputable def c89 : Code := bodyOf Tryd.f89
noncomputable def an89 : Ann := (.s .l (.s .l (.s (.s .l (.j [5] (.j [1, 5, 6, 37, 38] (.s (.s .l (.j [1, 5, 6, 37, 38] .l .l)) (.s (.j [1, 5, 6, 37, 38] (.s .l (.s (.j [1, 5, 6, 7, 37, 38] (.j [1, 5, 6, 7, 37, 38] (.s (.s .l (.j [1, 5, 6, 7, 37, 38] .l .l)) (.j [1, 5, 6, 7, 37, 38] .l .l)) .l) .l) (.s (.s .l (.j [1, 5, 6, 7, 37, 38] (.s .l (.j [1, 5, 6, 7, 37, 38] (.j [1, 5, 6, 7, 8, 37, 38] (.s (.s .l (.j [1, 5, 6, 7, 8, 37, 38] .l .l)) (.j [] (.j [1, 5, 6, 7, 8, 37, 38] (.s .l (.j [1, 5, 6, 7, 8, 37, 38] .l .l)) .l) .l)) .l) .l)) .l)) .l))) .l) .l)) .l) .l)) .l)))
def pk89 : List PK := [.c (.int .i64), .c (.int .i64)]
def rk89 : List RK := [.own (.int .i64) 4]
noncomputable def rt89 (st : St) : Option R89 := rtG rk89 st
noncomputable def E89 (n : Nat × Nat) : Env := { T := tab, phi := (consPhi 100 (fun _ => true) (P100 n) noPhi), eff := fun _ => false, fuel := n.1, hold := n.2 }
noncomputable def kq89_1 (n : Nat × Nat) : St → Option R89 := run (E89 n) (cB (cB (cB c89))) (Ann.snd (Ann.snd (Ann.snd an89))) rt89 (fun _ _ => none) rt89
noncomputable def xb89_3 (n : Nat × Nat) : Nat → St → Option R89 := fun j s => bif Nat.beq j 0 then normC [5] s (kq89_1 n) else (fun _ _ => none) j s
noncomputable def F89_4 (n : Nat × Nat) : (St → Option R89) → St → Option R89 := fun K s => run (E89 n) (cA (cA (cB (cA (cB (cB c89)))))) (Ann.fst (Ann.fst (Ann.snd (Ann.fst (Ann.snd (Ann.snd an89)))))) (fun s => normC [1, 5, 6, 37, 38] s K) (xb89_3 n) rt89 s
noncomputable def kq89_7 (n : Nat × Nat) (m1 : Nat) : St → Option R89 := run (E89 n) (cB (cB (cA (cA (cB (cA (cB (cB c89)))))))) (Ann.snd (Ann.snd (Ann.fst (Ann.fst (Ann.snd (Ann.fst (Ann.snd (Ann.snd an89)))))))) (fun s => normC [1, 5, 6, 37, 38] s (loopN (F89_4 n) m1)) (xb89_3 n) rt89
noncomputable def kc89_8 (n : Nat × Nat) (m1 : Nat) : St → Option R89 := fun s => normC [1, 5, 6, 37, 38] s (kq89_7 n m1)
noncomputable def xb89_9 (n : Nat × Nat) (m1 : Nat) : Nat → St → Option R89 := fun j s => bif Nat.beq j 1 then normC [1, 5, 6, 37, 38] s (kq89_7 n m1) else (xb89_3 n) j s
noncomputable def kq89_10 (n : Nat × Nat) (m1 : Nat) : St → Option R89 := run (E89 n) (cB (cB (cA (cA (cB (cA (cA (cB (cA (cB (cB c89))))))))))) (Ann.snd (Ann.snd (Ann.fst (Ann.fst (Ann.snd (Ann.fst (Ann.fst (Ann.snd (Ann.fst (Ann.snd (Ann.snd an89))))))))))) (kc89_8 n m1) (xb89_9 n m1) rt89
noncomputable def xb89_12 (n : Nat × Nat) (m1 : Nat) : Nat → St → Option R89 := fun j s => bif Nat.beq j 2 then normC [1, 5, 6, 7, 37, 38] s (kq89_10 n m1) else (xb89_9 n m1) j s
noncomputable def F89_13 (n : Nat × Nat) (m1 : Nat) : (St → Option R89) → St → Option R89 := fun K s => run (E89 n) (cA (cA (cA (cB (cA (cA (cB (cA (cA (cB (cA (cB (cB c89))))))))))))) (Ann.fst (Ann.fst (Ann.fst (Ann.snd (Ann.fst (Ann.fst (Ann.snd (Ann.fst (Ann.fst (Ann.snd (Ann.fst (Ann.snd (Ann.snd an89))))))))))))) (fun s => normC [1, 5, 6, 7, 37, 38] s K) (xb89_12 n m1) rt89 s
noncomputable def kq89_18 (n : Nat × Nat) (m1 : Nat) : St → Option R89 := run (E89 n) (cB (cB (cB (cA (cA (cB (cA (cA (cB (cA (cB (cB c89)))))))))))) (Ann.snd (Ann.snd (Ann.snd (Ann.fst (Ann.fst (Ann.snd (Ann.fst (Ann.fst (Ann.snd (Ann.fst (Ann.snd (Ann.snd an89)))))))))))) (kc89_8 n m1) (xb89_9 n m1) rt89
noncomputable def kc89_19 (n : Nat × Nat) (m1 : Nat) : St → Option R89 := fun s => normC [1, 5, 6, 7, 37, 38] s (kq89_18 n m1)
noncomputable def xb89_21 (n : Nat × Nat) (m1 : Nat) : Nat → St → Option R89 := fun j s => bif Nat.beq j 4 then normC [1, 5, 6, 7, 37, 38] s (kc89_19 n m1) else (xb89_9 n m1) j s
noncomputable def F89_22 (n : Nat × Nat) (m1 : Nat) : (St → Option R89) → St → Option R89 := fun K s => run (E89 n) (cA (cA (cB (cA (cB (cA (cB (cB (cA (cA (cB (cA (cA (cB (cA (cB (cB c89))))))))))))))))) (Ann.fst (Ann.fst (Ann.snd (Ann.fst (Ann.snd (Ann.fst (Ann.snd (Ann.snd (Ann.fst (Ann.fst (Ann.snd (Ann.fst (Ann.fst (Ann.snd (Ann.fst (Ann.snd (Ann.snd an89))))))))))))))))) (fun s => normC [1, 5, 6, 7, 8, 37, 38] s K) (xb89_21 n m1) rt89 s
noncomputable def kq89_25 (n : Nat × Nat) (m1 m2 : Nat) : St → Option R89 := run (E89 n) (cB (cB (cA (cA (cB (cA (cB (cA (cB (cB (cA (cA (cB (cA (cA (cB (cA (cB (cB c89))))))))))))))))))) (Ann.snd (Ann.snd (Ann.fst (Ann.fst (Ann.snd (Ann.fst (Ann.snd (Ann.fst (Ann.snd (Ann.snd (Ann.fst (Ann.fst (Ann.snd (Ann.fst (Ann.fst (Ann.snd (Ann.fst (Ann.snd (Ann.snd an89))))))))))))))))))) (fun s => normC [1, 5, 6, 7, 8, 37, 38] s (loopN (F89_22 n m1) m2)) (xb89_21 n m1) rt89
noncomputable def L89_1 (n : Nat × Nat) (m : Nat) (v1 : Int) (d6 : Int) (out5 : List Int) : Option R89 := loopN (F89_4 n) m { tm := [uu, .c (.int .i64 v1), uu, uu, uu, .own 5 none false, .c (.int .i64 d6), uu, uu, uu, uu, uu, uu, uu, uu, uu, uu, uu, uu, uu, uu, uu, uu, uu, uu, uu, uu, uu, uu, uu, uu, uu, uu, uu, uu, uu, uu, uu, uu, uu, uu, uu, uu, uu, uu, uu, uu, uu, uu], hp := (upd emp 5 (.arr (.int .i64) out5 false)) }
noncomputable def L89_2 (n : Nat × Nat) (m1 : Nat) (m : Nat) (v1 : Int) (d6 : Int) (p7 : Int) (out5 : List Int) : Option R89 := loopN (F89_13 n m1) m { tm := [uu, .c (.int .i64 v1), uu, uu, uu, .own 5 none false, .c (.int .i64 d6), .c (.int .i64 p7), uu, uu, uu, uu, uu, uu, uu, uu, uu, uu, uu, uu, uu, uu, uu, uu, uu, uu, uu, uu, uu, uu, uu, uu, uu, uu, uu, uu, uu, uu, uu, uu, uu, uu, uu, uu, uu, uu, uu, uu, uu], hp := (upd emp 5 (.arr (.int .i64) out5 false)) }
noncomputable def L89_3 (n : Nat × Nat) (m1 : Nat) (m : Nat) (v1 : Int) (d6 : Int) (p7 : Int) (q8 : Int) (out5 : List Int) : Option R89 := loopN (F89_22 n m1) m { tm := [uu, .c (.int .i64 v1), uu, uu, uu, .own 5 none false, .c (.int .i64 d6), .c (.int .i64 p7), .c (.int .i64 q8), uu, uu, uu, uu, uu, uu, uu, uu, uu, uu, uu, uu, uu, uu, uu, uu, uu, uu, uu, uu, uu, uu, uu, uu, uu, uu, uu, uu, uu, uu, uu, uu, uu, uu, uu, uu, uu, uu, uu, uu], hp := (upd emp 5 (.arr (.int .i64) out5 false)) }
noncomputable def L89_4 (n : Nat × Nat) (m1 m2 : Nat) (v1 : Int) (d6 : Int) (p7 : Int) (q8 : Int) (out5 : List Int) : Option R89 := loopN (fun _ => (kq89_25 n m1 m2)) n.2 { tm := [uu, .c (.int .i64 v1), uu, uu, uu, .own 5 none false, .c (.int .i64 d6), .c (.int .i64 p7), .c (.int .i64 q8), uu, uu, uu, uu, uu, uu, uu, uu, uu, uu, uu, uu, uu, uu, uu, uu, uu, uu, uu, uu, uu, uu, uu, uu, uu, uu, uu, uu, uu, uu, uu, uu, uu, uu, uu, uu, uu, uu, uu, uu], hp := (upd emp 5 (.arr (.int .i64) out5 false)) }
theorem L89_1_eq (n : Nat × Nat) (m1 : Nat) (v1 : Int) (d6 : Int) (out5 : List Int) : L89_1 n (m1 + 1) v1 d6 out5 =
 (bif decide (d6 > 1) then L89_2 n m1 n.1 v1 d6 2 out5
 else some out5) := by kernel_rfl
theorem L89_2_eq (n : Nat × Nat) (m1 m2 : Nat) (v1 : Int) (d6 : Int) (p7 : Int) (out5 : List Int) : L89_2 n m1 (m2 + 1) v1 d6 p7 out5 =
 (bif p7 == 0 then none
 else (bif ((Int.tmod d6 p7) != 0) then L89_2 n m1 m2 v1 d6 (wr .i64 (p7 + 1)) out5
 else (bif 2 == 0 then none
 else (bif ((Int.tmod v1 2) == 1) then L89_3 n m1 n.1 v1 d6 p7 p7 out5
 else (bif p7 == 0 then none
 else (bif decide (out5.length + [wr .i64 (Int.tdiv d6 p7)].length ≤ lim) then (bif 2 == 0 then none
 else L89_1 n m1 (wr .i64 (Int.tdiv v1 2)) (wr .i64 (Int.tdiv d6 p7)) (out5 ++ [wr .i64 (Int.tdiv d6 p7)]))
 else none)))))) := by kernel_rfl
theorem L89_3_eq (n : Nat × Nat) (m1 m2 : Nat) (v1 : Int) (d6 : Int) (p7 : Int) (q8 : Int) (out5 : List Int) : L89_3 n m1 (m2 + 1) v1 d6 p7 q8 out5 =
 (bif decide (q8 ≤ d6) then (bif q8 == 0 then none
 else ((bif (((Int.tmod d6 q8) == 0) == true) then (S100 n q8).bind fun r1' =>
 some r1'
 else some false)).bind fun b2' =>
 (bif b2' then L89_4 n m1 m2 v1 d6 q8 q8 out5
 else L89_4 n m1 m2 v1 d6 p7 q8 out5))
 else (bif p7 == 0 then none
 else (bif decide (out5.length + [wr .i64 (Int.tdiv d6 p7)].length ≤ lim) then (bif 2 == 0 then none
 else L89_1 n m1 (wr .i64 (Int.tdiv v1 2)) (wr .i64 (Int.tdiv d6 p7)) (out5 ++ [wr .i64 (Int.tdiv d6 p7)]))
 else none))) := by kernel_rfl
theorem L89_4_raw (n : Nat × Nat) (m1 m2 : Nat) (v1 : Int) (d6 : Int) (p7 : Int) (q8 : Int) (out5 : List Int) : (kq89_25 n m1 m2) { tm := [uu, .c (.int .i64 v1), uu, uu, uu, .own 5 none false, .c (.int .i64 d6), .c (.int .i64 p7), .c (.int .i64 q8), uu, uu, uu, uu, uu, uu, uu, uu, uu, uu, uu, uu, uu, uu, uu, uu, uu, uu, uu, uu, uu, uu, uu, uu, uu, uu, uu, uu, uu, uu, uu, uu, uu, uu, uu, uu, uu, uu, uu, uu], hp := (upd emp 5 (.arr (.int .i64) out5 false)) } =
    L89_3 n m1 m2 v1 d6 p7 (wr .i64 (q8 + 1)) out5 := by kernel_rfl
noncomputable def S89 (n : Nat × Nat) (size0 : Int) (v1 : Int) : Option R89 := run (E89 n) c89 an89 rt89 (fun _ _ => none) rt89 { tm := [.c (.int .i64 size0), .c (.int .i64 v1), uu, uu, uu, uu, uu, uu, uu, uu, uu, uu, uu, uu, uu, uu, uu, uu, uu, uu, uu, uu, uu, uu, uu, uu, uu, uu, uu, uu, uu, uu, uu, uu, uu, uu, uu, uu, uu, uu, uu, uu, uu, uu, uu, uu, uu, uu, uu], hp := emp }
theorem S89_eq (n : Nat × Nat) (size0 : Int) (v1 : Int) : S89 n size0 v1 =
    L89_1 n n.1 v1 size0 [size0] := by kernel_rfl
theorem S89_run (n : Nat × Nat) (xs : pksDen pk89) : S89 n xs.1 xs.2.1 = runG (E89 n) noScope c89 an89 (rtG rk89) (fun _ _ => none) (rtG rk89) (st0 pk89 xs Tryd.f89.ntmps) := by kernel_rfl
noncomputable def P89 (n : Nat × Nat) := phiOf pk89 rk89 (fun xs => S89 n xs.1 xs.2.1)
theorem call89 : CallOK Tryd.prog 89 := callOK_of Tryd.func89 (by kernel_rfl) (by kernel_rfl)
theorem env89 (n : Nat × Nat) : EnvOK Tryd.prog (E89 n) := envOK0 (consPhi_ok (FC100 n) call100 noPhi_ok) rfl rfl
theorem par89 (n : Nat × Nat) : EnvPar (E89 n) := envPar0 (consPhi_par phiOf_Par1 noPhi_par) rfl
theorem FC89 (n : Nat × Nat) : FCs Tryd.prog 89 (P89 n) := phiOf_FCs fun xs r h vs hv => FC.of_runG tabOK eqsOK (env89 n) (par89 n) mixed (fun _ p _ => noScope_ok p.1 p.2) Tryd.func89 (c := c89) (an := an89) (pks := pk89) (rks := rk89) (by kernel_rfl) (by kernel_rfl) hv ((S89_run n xs).symm.trans h)
/- (headword/headwordlaw09.Strip).made -/
abbrev R48 := Int × List Int
noncomputable def c48 : Code := bodyOf Tryd.f48
noncomputable def an48 : Ann := (.s .l (.s .l (.s .l (.s (.s .l (.j [1, 2, 6, 7] .l (.s .l (.j [1, 2, 6, 7] (.j [1, 2, 6, 7, 27, 28] (.s .l (.s (.j [1, 2, 6, 7, 27, 28] .l .l) (.s (.j [1, 2, 6, 7, 27, 28] .l .l) .l))) .l) .l)))) (.s .l (.s (.s .l (.j [6, 9] (.j [6, 7, 9, 44, 45, 46] (.s .l (.s (.j [6, 7, 9, 44, 45, 46] .l .l) (.s (.j [6, 7, 9, 44, 45, 46] .l .l) .l))) .l) .l)) .l))))))
def pk48 : List PK := [.c (.pair (.int .u8) (.pair (.int .u8) (.pair (.int .u8) (.pair (.int .u8) (.pair (.int .u8) (.pair (.int .u8) (.pair (.int .u8) (.pair (.int .u8) (.pair (.int .u8) (.pair (.int .u8) (.int .u8))))))))))), .c (.int .i64)]
def rk48 : List RK := [.c (.int .i64) 4, .sl (.int .i64) 5]
noncomputable def rt48 (st : St) : Option R48 := rtG rk48 st
noncomputable def E48 (n : Nat × Nat) : Env := { T := tab, phi := (consPhi 89 (fun _ => true) (P89 n) noPhi), eff := fun _ => false, fuel := n.1, hold := n.2 }
noncomputable def kq48_1 (n : Nat × Nat) : St → Option R48 := run (E48 n) (cB (cB (cB (cB c48)))) (Ann.snd (Ann.snd (Ann.snd (Ann.snd an48)))) rt48 (fun _ _ => none) rt48
noncomputable def kc48_2 (n : Nat × Nat) : St → Option R48 := fun s => normC [1, 2, 6, 7] s (kq48_1 n)
noncomputable def kq48_3 (n : Nat × Nat) : St → Option R48 := run (E48 n) (cB (cB (cB (cB (cB (cB c48)))))) (Ann.snd (Ann.snd (Ann.snd (Ann.snd (Ann.snd (Ann.snd an48)))))) rt48 (fun _ _ => none) rt48
noncomputable def xb48_5 (n : Nat × Nat) : Nat → St → Option R48 := fun j s => bif Nat.beq j 2 then normC [6, 9] s (kq48_3 n) else (fun _ _ => none) j s
noncomputable def F48_6 (n : Nat × Nat) : (St → Option R48) → St → Option R48 := fun K s => run (E48 n) (cA (cA (cB (cA (cB (cB (cB (cB (cB c48))))))))) (Ann.fst (Ann.fst (Ann.snd (Ann.fst (Ann.snd (Ann.snd (Ann.snd (Ann.snd (Ann.snd an48))))))))) (fun s => normC [6, 7, 9, 44, 45, 46] s K) (xb48_5 n) rt48 s
noncomputable def xb48_8 (n : Nat × Nat) : Nat → St → Option R48 := fun j s => bif Nat.beq j 0 then normC [1, 2, 6, 7] s (kc48_2 n) else (fun _ _ => none) j s
noncomputable def F48_9 (n : Nat × Nat) : (St → Option R48) → St → Option R48 := fun K s => run (E48 n) (cA (cA (cB (cB (cB (cA (cB (cB (cB c48))))))))) (Ann.fst (Ann.fst (Ann.snd (Ann.snd (Ann.snd (Ann.fst (Ann.snd (Ann.snd (Ann.snd an48))))))))) (fun s => normC [1, 2, 6, 7, 27, 28] s K) (xb48_8 n) rt48 s
noncomputable def L48_1 (n : Nat × Nat) (m : Nat) (size6 : Int) (v44 : List Int) (v45 : Int) (v46 : Int) (lengths7 : List Int) (out9 : List Int) : Option R48 := loopN (F48_6 n) m { tm := [uu, uu, uu, uu, uu, uu, .c (.int .i64 size6), .own 7 none false, uu, .own 9 none false, uu, uu, uu, uu, uu, uu, uu, uu, uu, uu, uu, uu, uu, uu, uu, uu, uu, uu, uu, uu, uu, uu, uu, uu, uu, uu, uu, uu, uu, uu, uu, uu, uu, uu, .c (.sl (.int .u8) v44 false), .c (.int .i64 v45), .c (.int .i64 v46), uu, uu, uu, uu, uu, uu, uu, uu, uu, uu, uu, uu, uu, uu, uu, uu, uu], hp := (upd (upd emp 9 (.arr (.int .i64) out9 false)) 7 (.arr (.int .i64) lengths7 false)) }
noncomputable def L48_2 (n : Nat × Nat) (m : Nat) (most1 : Int) (size6 : Int) (v27 : Int) (v28 : Int) (s2_0 : Int) (s2_1 : Int) (s2_2 : Int) (s2_3 : Int) (s2_4 : Int) (s2_5 : Int) (s2_6 : Int) (s2_7 : Int) (s2_8 : Int) (s2_9 : Int) (s2_10 : Int) (lengths7 : List Int) : Option R48 := loopN (F48_9 n) m { tm := [uu, .c (.int .i64 most1), .ptr 2 0, uu, uu, uu, .c (.int .i64 size6), .own 7 none false, uu, uu, uu, uu, uu, uu, uu, uu, uu, uu, uu, uu, uu, uu, uu, uu, uu, uu, uu, .c (.int .i64 v27), .c (.int .i64 v28), uu, uu, uu, uu, uu, uu, uu, uu, uu, uu, uu, uu, uu, uu, uu, uu, uu, uu, uu, uu, uu, uu, uu, uu, uu, uu, uu, uu, uu, uu, uu, uu, uu, uu, uu], hp := (upd (upd emp 7 (.arr (.int .i64) lengths7 false)) 2 (.box [.int .u8 s2_0, .int .u8 s2_1, .int .u8 s2_2, .int .u8 s2_3, .int .u8 s2_4, .int .u8 s2_5, .int .u8 s2_6, .int .u8 s2_7, .int .u8 s2_8, .int .u8 s2_9, .int .u8 s2_10])) }
theorem L48_1_eq (n : Nat × Nat) (m1 : Nat) (size6 : Int) (v44 : List Int) (v45 : Int) (v46 : Int) (lengths7 : List Int) (out9 : List Int) : L48_1 n (m1 + 1) size6 v44 v45 v46 lengths7 out9 =
 (bif decide (v46 < v45) then (idx v44 v46).bind fun x2' =>
 (bif (lengths7.length : Int) == 0 then none
 else (bif inB (Int.tmod (wr .i64 x2') (lengths7.length : Int)) lengths7.length then (idx lengths7 (Int.tmod (wr .i64 x2') (lengths7.length : Int))).bind fun x3' =>
 (bif decide (out9.length + [x3'].length ≤ lim) then L48_1 n m1 size6 v44 v45 (wr .i64 (v46 + 1)) lengths7 (out9 ++ [x3'])
 else none)
 else none))
 else some (size6, out9)) := by kernel_rfl
theorem L48_2_eq (n : Nat × Nat) (m1 : Nat) (most1 : Int) (size6 : Int) (v27 : Int) (v28 : Int) (s2_0 : Int) (s2_1 : Int) (s2_2 : Int) (s2_3 : Int) (s2_4 : Int) (s2_5 : Int) (s2_6 : Int) (s2_7 : Int) (s2_8 : Int) (s2_9 : Int) (s2_10 : Int) (lengths7 : List Int) : L48_2 n (m1 + 1) most1 size6 v27 v28 s2_0 s2_1 s2_2 s2_3 s2_4 s2_5 s2_6 s2_7 s2_8 s2_9 s2_10 lengths7 =
 (bif decide (v28 < v27) then (bif decide (lengths7.length + [wr .i64 (v28 + 1)].length ≤ lim) then L48_2 n m1 most1 size6 v27 (wr .i64 (v28 + 1)) s2_0 s2_1 s2_2 s2_3 s2_4 s2_5 s2_6 s2_7 s2_8 s2_9 s2_10 (lengths7 ++ [wr .i64 (v28 + 1)])
 else none)
 else (bif (wr .i64 (most1 + 1)) == 0 then none
 else (bif bounds none (some (Int.tmod (wr .i64 s2_1) (wr .i64 (most1 + 1)))) none 8 then L48_1 n n.1 size6 ([s2_3, s2_4, s2_5, s2_6, s2_7, s2_8, s2_9, s2_10].take (Int.toNat (Int.tmod (wr .i64 s2_1) (wr .i64 (most1 + 1))))) (([s2_3, s2_4, s2_5, s2_6, s2_7, s2_8, s2_9, s2_10].take (Int.toNat (Int.tmod (wr .i64 s2_1) (wr .i64 (most1 + 1))))).length : Int) 0 lengths7 []
 else none))) := by kernel_rfl
noncomputable def S48 (n : Nat × Nat) (s0 : Int × Int × Int × Int × Int × Int × Int × Int × Int × Int × Int) (most1 : Int) : Option R48 := run (E48 n) c48 an48 rt48 (fun _ _ => none) rt48 { tm := [.agg [.int .u8 s0.1, .int .u8 s0.2.1, .int .u8 s0.2.2.1, .int .u8 s0.2.2.2.1, .int .u8 s0.2.2.2.2.1, .int .u8 s0.2.2.2.2.2.1, .int .u8 s0.2.2.2.2.2.2.1, .int .u8 s0.2.2.2.2.2.2.2.1, .int .u8 s0.2.2.2.2.2.2.2.2.1, .int .u8 s0.2.2.2.2.2.2.2.2.2.1, .int .u8 s0.2.2.2.2.2.2.2.2.2.2], .c (.int .i64 most1), uu, uu, uu, uu, uu, uu, uu, uu, uu, uu, uu, uu, uu, uu, uu, uu, uu, uu, uu, uu, uu, uu, uu, uu, uu, uu, uu, uu, uu, uu, uu, uu, uu, uu, uu, uu, uu, uu, uu, uu, uu, uu, uu, uu, uu, uu, uu, uu, uu, uu, uu, uu, uu, uu, uu, uu, uu, uu, uu, uu, uu, uu], hp := emp }
theorem S48_eq (n : Nat × Nat) (s0 : Int × Int × Int × Int × Int × Int × Int × Int × Int × Int × Int) (most1 : Int) : S48 n s0 most1 =
 (bif 24 == 0 then none
 else (bif 2 == 0 then none
 else (bif ((Int.tmod s0.2.2.1 2) == 1) then (bif 2 == 0 then none
 else (S89 n (wr .i64 (1 + (Int.tmod (wr .i64 s0.1) 24))) (wr .i64 (Int.tdiv (wr .i64 s0.2.2.1) 2))).bind fun r1' =>
 (bif (wr .i64 (most1 + 1)) == 0 then none
 else (bif bounds none (some (Int.tmod (wr .i64 s0.2.1) (wr .i64 (most1 + 1)))) none 8 then L48_1 n n.1 (wr .i64 (1 + (Int.tmod (wr .i64 s0.1) 24))) ([s0.2.2.2.1, s0.2.2.2.2.1, s0.2.2.2.2.2.1, s0.2.2.2.2.2.2.1, s0.2.2.2.2.2.2.2.1, s0.2.2.2.2.2.2.2.2.1, s0.2.2.2.2.2.2.2.2.2.1, s0.2.2.2.2.2.2.2.2.2.2].take (Int.toNat (Int.tmod (wr .i64 s0.2.1) (wr .i64 (most1 + 1))))) (([s0.2.2.2.1, s0.2.2.2.2.1, s0.2.2.2.2.2.1, s0.2.2.2.2.2.2.1, s0.2.2.2.2.2.2.2.1, s0.2.2.2.2.2.2.2.2.1, s0.2.2.2.2.2.2.2.2.2.1, s0.2.2.2.2.2.2.2.2.2.2].take (Int.toNat (Int.tmod (wr .i64 s0.2.1) (wr .i64 (most1 + 1))))).length : Int) 0 r1' []
 else none)))
 else L48_2 n n.1 most1 (wr .i64 (1 + (Int.tmod (wr .i64 s0.1) 24))) (wr .i64 (1 + (Int.tmod (wr .i64 s0.1) 24))) 0 s0.1 s0.2.1 s0.2.2.1 s0.2.2.2.1 s0.2.2.2.2.1 s0.2.2.2.2.2.1 s0.2.2.2.2.2.2.1 s0.2.2.2.2.2.2.2.1 s0.2.2.2.2.2.2.2.2.1 s0.2.2.2.2.2.2.2.2.2.1 s0.2.2.2.2.2.2.2.2.2.2 []))) := by kernel_rfl
theorem S48_run (n : Nat × Nat) (xs : pksDen pk48) : S48 n xs.1 xs.2.1 = runG (E48 n) noScope c48 an48 (rtG rk48) (fun _ _ => none) (rtG rk48) (st0 pk48 xs Tryd.f48.ntmps) := by kernel_rfl
noncomputable def P48 (n : Nat × Nat) := phiOf pk48 rk48 (fun xs => S48 n xs.1 xs.2.1)
theorem call48 : CallOK Tryd.prog 48 := callOK_of Tryd.func48 (by kernel_rfl) (by kernel_rfl)
theorem env48 (n : Nat × Nat) : EnvOK Tryd.prog (E48 n) := envOK0 (consPhi_ok (FC89 n) call89 noPhi_ok) rfl rfl
theorem par48 (n : Nat × Nat) : EnvPar (E48 n) := envPar0 (consPhi_par phiOf_Par1 noPhi_par) rfl
theorem FC48 (n : Nat × Nat) : FCs Tryd.prog 48 (P48 n) := phiOf_FCs fun xs r h vs hv => FC.of_runG tabOK eqsOK (env48 n) (par48 n) mixed (fun _ p _ => noScope_ok p.1 p.2) Tryd.func48 (c := c48) (an := an48) (pks := pk48) (rks := rk48) (by kernel_rfl) (by kernel_rfl) hv ((S48_run n xs).symm.trans h)
abbrev R91io00111 := (Unit) × Int × (List Int) × Int × Unit
noncomputable def c91io00111 : Code := bodyOf Tryd.f91
noncomputable def an91io00111 : Ann := (.j [1000000000, 1000000001, 1000000002] (.s .l (.j [1000000000, 1000000001, 1000000002] .l (.s .l (.j [1000000000, 1000000001, 1000000002] .l .l)))) .l)
def pk91io00111 : List QK := [.pl (.c (.sl (.int .i64))), .pl (.c (.sl (.int .i64))), .ob (.int .i64), .ob (.sl (.int .i64)), .ob (.int .i64)]
def rk91io00111 : List RK := []
noncomputable def rt91io00111 (st : St) : Option R91io00111 := rtIO rk91io00111 (pk91io00111.flatMap QK.ods) st
noncomputable def E91io00111 (n : Nat × Nat) : Env := { T := tab, phi := noPhi, eff := fun _ => false, fuel := n.1, hold := n.2 }
noncomputable def S91io00111 (n : Nat × Nat) (plan0 : List Int) (left1 : List Int) (v2 : Int) (v3 : List Int) (v4 : Int) : Option R91io00111 := run (E91io00111 n) c91io00111 an91io00111 rt91io00111 (fun _ _ => none) rt91io00111 { tm := [.c (.sl (.int .i64) plan0 false), .c (.sl (.int .i64) left1 false), .ptr 1000000000 0, .ptr 1000000001 0, .ptr 1000000002 0, uu, uu, uu, uu, uu, uu, uu, uu, uu, uu, uu, uu, uu, uu, uu, uu, uu], hp := (upd (upd (upd emp 1000000002 (.box [.int .i64 v4])) 1000000001 (.box [.sl (.int .i64) v3 false])) 1000000000 (.box [.int .i64 v2])) }
theorem S91io00111_eq (n : Nat × Nat) (plan0 : List Int) (left1 : List Int) (v2 : Int) (v3 : List Int) (v4 : Int) : S91io00111 n plan0 left1 v2 v3 v4 =
 (bif decide ((left1.length : Int) < v2) then some ((), (left1.length : Int), plan0, 1, ())
 else (bif ((left1.length : Int) == v2) then some ((), v2, v3, wr .i64 (v4 + 1), ())
 else some ((), v2, v3, v4, ()))) := by kernel_rfl
theorem S91io00111_run (n : Nat × Nat) (xs : qksDen pk91io00111) : S91io00111 n xs.1 xs.2.1 xs.2.2.1 xs.2.2.2.1 xs.2.2.2.2.1 = runG (E91io00111 n) noScope c91io00111 an91io00111 (rtIO rk91io00111 (pk91io00111.flatMap QK.ods)) (fun _ _ => none) (rtIO rk91io00111 (pk91io00111.flatMap QK.ods)) (st1 pk91io00111 xs Tryd.f91.ntmps) := by kernel_rfl
noncomputable def P91io00111 (n : Nat × Nat) := phioOf pk91io00111 rk91io00111 (pk91io00111.flatMap QK.ods) (fun xs => S91io00111 n xs.1 xs.2.1 xs.2.2.1 xs.2.2.2.1 xs.2.2.2.2.1)
theorem call91 : CallOK Tryd.prog 91 := callOK_of Tryd.func91 (by kernel_rfl) (by kernel_rfl)
theorem env91io00111 (n : Nat × Nat) : EnvOK Tryd.prog (E91io00111 n) := envOK0 noPhi_ok rfl rfl
theorem par91io00111 (n : Nat × Nat) : EnvPar (E91io00111 n) := envPar0 noPhi_par rfl
theorem FC91io00111 (n : Nat × Nat) : FCios Tryd.prog 91 (pk91io00111.map QK.flag) (P91io00111 n) := phioOf_FCios fun xs r h vs hv => FCio.of_runG tabOK eqsOK (env91io00111 n) (par91io00111 n) mixed (fun _ p _ => noScope_ok p.1 p.2) Tryd.func91 (c := c91io00111) (an := an91io00111) (qks := pk91io00111) (rks := rk91io00111) (by kernel_rfl) (by kernel_rfl) hv ((S91io00111_run n xs).symm.trans h)
abbrev R101f91io001110 := (Unit) × (List Int) × Int × (List Int) × Int × Int × Unit
noncomputable def c101f91io001110 : Code := bodyOf Tryd.f101
noncomputable def an101f91io001110 : Ann := (.s .l (.s (.s .l (.j [0, 1, 2, 4, 5, 8, 1000000000, 1000000001, 1000000002, 1000000003, 1000000004] .l .l)) (.s .l (.j [1000000000, 1000000001, 1000000002, 1000000003, 1000000004] (.j [0, 1, 2, 4, 5, 8, 23, 24, 1000000000, 1000000001, 1000000002, 1000000003, 1000000004] (.s .l (.s (.j [0, 1, 2, 4, 5, 8, 23, 24, 1000000000, 1000000001, 1000000002, 1000000003, 1000000004] .l .l) (.j [] (.j [0, 1, 2, 4, 5, 8, 23, 24, 1000000000, 1000000001, 1000000002, 1000000003, 1000000004] (.s .l (.s .l (.s (.s .l (.j [0, 1, 2, 4, 5, 8, 9, 10, 23, 24, 1000000000, 1000000001, 1000000002, 1000000003, 1000000004] .l .l)) (.s .l (.s .l (.j [0, 1, 2, 4, 5, 8, 23, 24, 1000000000, 1000000001, 1000000002, 1000000003, 1000000004] .l .l)))))) .l) .l))) .l) .l))))
def pk101f91io001110 : List QK := [.pl (.c (.sl (.int .i64))), .pl (.c (.sl (.int .i64))), .ob (.sl (.int .i64)), .fp 91 [(.int .i64), (.sl (.int .i64)), (.int .i64)], .ob (.int .i64), .sf 101 [.b 1000000000, .v 91 [1000000001, 1000000002, 1000000003], .b 1000000004, .s]]
def rk101f91io001110 : List RK := []
noncomputable def rt101f91io001110 (st : St) : Option R101f91io001110 := rtIO rk101f91io001110 (pk101f91io001110.flatMap QK.ods) st
noncomputable def io101f91io001110 (n : Nat × Nat) (SS : List Int → List Int → List Int → Int → List Int → Int → Int → Option R101f91io001110) : List IoE := [⟨91, (fun _ => true), pk91io00111.map QK.flag, P91io00111 n⟩, ⟨101, (fun _ => true), pk101f91io001110.map QK.flag, (phioOf pk101f91io001110 rk101f91io001110 (pk101f91io001110.flatMap QK.ods) (fun xs => SS xs.1 xs.2.1 xs.2.2.1 xs.2.2.2.1.1 xs.2.2.2.1.2.1 xs.2.2.2.1.2.2.1 xs.2.2.2.2.1))⟩]
noncomputable def E101f91io001110 (n : Nat × Nat) (SS : List Int → List Int → List Int → Int → List Int → Int → Int → Option R101f91io001110) : Env := { T := tab, phi := (consPhi 56 (fun _ => true) (P56 n) noPhi), eff := fun _ => false, fuel := n.1, hold := n.2, phio := phioL (io101f91io001110 n SS), iop := iopL (io101f91io001110 n SS) }
noncomputable def xb101f91io001110_4 (n : Nat × Nat) (SS : List Int → List Int → List Int → Int → List Int → Int → Int → Option R101f91io001110) : Nat → St → Option R101f91io001110 := fun j s => bif Nat.beq j 0 then normC [1000000000, 1000000001, 1000000002, 1000000003, 1000000004] s rt101f91io001110 else (fun _ _ => none) j s
noncomputable def F101f91io001110_5 (n : Nat × Nat) (SS : List Int → List Int → List Int → Int → List Int → Int → Int → Option R101f91io001110) : (St → Option R101f91io001110) → St → Option R101f91io001110 := fun K s => run (E101f91io001110 n SS) (cA (cA (cB (cB (cB c101f91io001110))))) (Ann.fst (Ann.fst (Ann.snd (Ann.snd (Ann.snd an101f91io001110))))) (fun s => normC [0, 1, 2, 4, 5, 8, 23, 24, 1000000000, 1000000001, 1000000002, 1000000003, 1000000004] s K) (xb101f91io001110_4 n SS) rt101f91io001110 s
noncomputable def kq101f91io001110_8 (n : Nat × Nat) (SS : List Int → List Int → List Int → Int → List Int → Int → Int → Option R101f91io001110) (m1 : Nat) : St → Option R101f91io001110 := run (E101f91io001110 n SS) (cB (cB (cB (cA (cA (cB (cB (cB c101f91io001110)))))))) (Ann.snd (Ann.snd (Ann.snd (Ann.fst (Ann.fst (Ann.snd (Ann.snd (Ann.snd an101f91io001110)))))))) (fun s => normC [0, 1, 2, 4, 5, 8, 23, 24, 1000000000, 1000000001, 1000000002, 1000000003, 1000000004] s (loopN (F101f91io001110_5 n SS) m1)) (xb101f91io001110_4 n SS) rt101f91io001110
noncomputable def L101f91io001110_1 (n : Nat × Nat) (SS : List Int → List Int → List Int → Int → List Int → Int → Int → Option R101f91io001110) (m : Nat) (plan0 : List Int) (left1 : List Int) (i8 : Int) (v23 : Int) (v24 : Int) (u0 : List Int) (u4 : Int) (u1 : Int) (u2 : List Int) (u3 : Int) : Option R101f91io001110 := loopN (F101f91io001110_5 n SS) m { tm := [.c (.sl (.int .i64) plan0 false), .c (.sl (.int .i64) left1 false), .ptr 1000000000 0, uu, .ptr 1000000004 0, .fptr 101 [.b 1000000000, .v 91 [1000000001, 1000000002, 1000000003], .b 1000000004, .s], uu, uu, .c (.int .i64 i8), uu, uu, uu, uu, uu, uu, uu, uu, uu, uu, uu, uu, uu, uu, .c (.int .i64 v23), .c (.int .i64 v24), uu, uu, uu, uu, uu, uu, uu, uu, uu, uu, uu, uu, uu, uu, uu, uu, uu, uu, uu, uu, uu, uu, uu, uu, uu, uu, uu, uu, uu, uu, uu, uu, uu, uu, uu, uu, uu, uu], hp := (upd (upd (upd (upd (upd emp 1000000003 (.box [.int .i64 u3])) 1000000002 (.box [.sl (.int .i64) u2 false])) 1000000001 (.box [.int .i64 u1])) 1000000004 (.box [.int .i64 u4])) 1000000000 (.box [.sl (.int .i64) u0 false])) }
noncomputable def L101f91io001110_2 (n : Nat × Nat) (SS : List Int → List Int → List Int → Int → List Int → Int → Int → Option R101f91io001110) (m1 : Nat) (plan0 : List Int) (left1 : List Int) (i8 : Int) (v23 : Int) (v24 : Int) (u0 : List Int) (u4 : Int) (u1 : Int) (u2 : List Int) (u3 : Int) : Option R101f91io001110 := loopN (fun _ => (kq101f91io001110_8 n SS m1)) n.2 { tm := [.c (.sl (.int .i64) plan0 false), .c (.sl (.int .i64) left1 false), .ptr 1000000000 0, uu, .ptr 1000000004 0, .fptr 101 [.b 1000000000, .v 91 [1000000001, 1000000002, 1000000003], .b 1000000004, .s], uu, uu, .c (.int .i64 i8), uu, uu, uu, uu, uu, uu, uu, uu, uu, uu, uu, uu, uu, uu, .c (.int .i64 v23), .c (.int .i64 v24), uu, uu, uu, uu, uu, uu, uu, uu, uu, uu, uu, uu, uu, uu, uu, uu, uu, uu, uu, uu, uu, uu, uu, uu, uu, uu, uu, uu, uu, uu, uu, uu, uu, uu, uu, uu, uu, uu], hp := (upd (upd (upd (upd (upd emp 1000000003 (.box [.int .i64 u3])) 1000000002 (.box [.sl (.int .i64) u2 false])) 1000000001 (.box [.int .i64 u1])) 1000000004 (.box [.int .i64 u4])) 1000000000 (.box [.sl (.int .i64) u0 false])) }
theorem L101f91io001110_1_eq (n : Nat × Nat) (SS : List Int → List Int → List Int → Int → List Int → Int → Int → Option R101f91io001110) (m1 : Nat) (plan0 : List Int) (left1 : List Int) (i8 : Int) (v23 : Int) (v24 : Int) (u0 : List Int) (u4 : Int) (u1 : Int) (u2 : List Int) (u3 : Int) : L101f91io001110_1 n SS (m1 + 1) plan0 left1 i8 v23 v24 u0 u4 u1 u2 u3 =
 (bif decide (v24 < v23) then (S56 n left1).bind fun r2' =>
 (bif (v24 == (left1.length : Int)) then (bif decide (r2'.length + [u4].length ≤ lim) then (bif inB v24 (r2' ++ [u4]).length then (idx (r2' ++ [u4]) v24).bind fun x3' =>
 (idx u0 i8).bind fun x4' =>
 (bif inB v24 (r2' ++ [u4]).length then (idx (r2' ++ [u4]) v24).bind fun x5' =>
 (bif inB v24 ((r2' ++ [u4]).set (Int.toNat v24) (wr .i64 (x3' - x4'))).length then (idx ((r2' ++ [u4]).set (Int.toNat v24) (wr .i64 (x3' - x4'))) v24).bind fun x6' =>
 (bif decide (x6' ≥ 0) then (bif (i8 == i8) && bounds none (some i8) (some i8) plan0.length then (bif decide ((plan0.take (Int.toNat i8)).length + [v24].length ≤ lim) && ((plan0.take (Int.toNat i8)).isEmpty || ![v24].isEmpty) then (SS ((plan0.take (Int.toNat i8)) ++ [v24]) ((r2' ++ [u4]).set (Int.toNat v24) (wr .i64 (x3' - x4'))) u0 u1 u2 u3 u4).bind fun r7' =>
                      L101f91io001110_2 n SS m1 plan0 left1 i8 v23 v24 r7'.2.1 r7'.2.2.2.2.2.1 r7'.2.2.1 r7'.2.2.2.1 r7'.2.2.2.2.1
 else none)
 else none)
 else L101f91io001110_2 n SS m1 plan0 left1 i8 v23 v24 u0 u4 u1 u2 u3)
 else none)
 else none)
 else none)
 else none)
 else (bif inB v24 r2'.length then (idx r2' v24).bind fun x8' =>
 (idx u0 i8).bind fun x9' =>
 (bif inB v24 r2'.length then (idx r2' v24).bind fun x10' =>
 (bif inB v24 (r2'.set (Int.toNat v24) (wr .i64 (x8' - x9'))).length then (idx (r2'.set (Int.toNat v24) (wr .i64 (x8' - x9'))) v24).bind fun x11' =>
 (bif decide (x11' ≥ 0) then (bif (i8 == i8) && bounds none (some i8) (some i8) plan0.length then (bif decide ((plan0.take (Int.toNat i8)).length + [v24].length ≤ lim) && ((plan0.take (Int.toNat i8)).isEmpty || ![v24].isEmpty) then (SS ((plan0.take (Int.toNat i8)) ++ [v24]) (r2'.set (Int.toNat v24) (wr .i64 (x8' - x9'))) u0 u1 u2 u3 u4).bind fun r12' =>
                    L101f91io001110_2 n SS m1 plan0 left1 i8 v23 v24 r12'.2.1 r12'.2.2.2.2.2.1 r12'.2.2.1 r12'.2.2.2.1 r12'.2.2.2.2.1
 else none)
 else none)
 else L101f91io001110_2 n SS m1 plan0 left1 i8 v23 v24 u0 u4 u1 u2 u3)
 else none)
 else none)
 else none))
 else some ((), u0, u1, u2, u3, u4, ())) := by kernel_rfl
theorem L101f91io001110_2_raw (n : Nat × Nat) (SS : List Int → List Int → List Int → Int → List Int → Int → Int → Option R101f91io001110) (m1 : Nat) (plan0 : List Int) (left1 : List Int) (i8 : Int) (v23 : Int) (v24 : Int) (u0 : List Int) (u4 : Int) (u1 : Int) (u2 : List Int) (u3 : Int) : (kq101f91io001110_8 n SS m1) { tm := [.c (.sl (.int .i64) plan0 false), .c (.sl (.int .i64) left1 false), .ptr 1000000000 0, uu, .ptr 1000000004 0, .fptr 101 [.b 1000000000, .v 91 [1000000001, 1000000002, 1000000003], .b 1000000004, .s], uu, uu, .c (.int .i64 i8), uu, uu, uu, uu, uu, uu, uu, uu, uu, uu, uu, uu, uu, uu, .c (.int .i64 v23), .c (.int .i64 v24), uu, uu, uu, uu, uu, uu, uu, uu, uu, uu, uu, uu, uu, uu, uu, uu, uu, uu, uu, uu, uu, uu, uu, uu, uu, uu, uu, uu, uu, uu, uu, uu, uu, uu, uu, uu, uu, uu], hp := (upd (upd (upd (upd (upd emp 1000000003 (.box [.int .i64 u3])) 1000000002 (.box [.sl (.int .i64) u2 false])) 1000000001 (.box [.int .i64 u1])) 1000000004 (.box [.int .i64 u4])) 1000000000 (.box [.sl (.int .i64) u0 false])) } =
    L101f91io001110_1 n SS m1 plan0 left1 i8 v23 (wr .i64 (v24 + 1)) u0 u4 u1 u2 u3 := by kernel_rfl
noncomputable def B101f91io001110 (n : Nat × Nat) (SS : List Int → List Int → List Int → Int → List Int → Int → Int → Option R101f91io001110) (plan0 : List Int) (left1 : List Int) (v2 : List Int) (cp_3_0 : Int) (cp_3_1 : List Int) (cp_3_2 : Int) (v4 : Int) : Option R101f91io001110 := run (E101f91io001110 n SS) c101f91io001110 an101f91io001110 rt101f91io001110 (fun _ _ => none) rt101f91io001110 { tm := [.c (.sl (.int .i64) plan0 false), .c (.sl (.int .i64) left1 false), .ptr 1000000000 0, .fptr 91 [.b 1000000001, .b 1000000002, .b 1000000003], .ptr 1000000004 0, .fptr 101 [.b 1000000000, .v 91 [1000000001, 1000000002, 1000000003], .b 1000000004, .s], uu, uu, uu, uu, uu, uu, uu, uu, uu, uu, uu, uu, uu, uu, uu, uu, uu, uu, uu, uu, uu, uu, uu, uu, uu, uu, uu, uu, uu, uu, uu, uu, uu, uu, uu, uu, uu, uu, uu, uu, uu, uu, uu, uu, uu, uu, uu, uu, uu, uu, uu, uu, uu, uu, uu, uu, uu], hp := (upd (upd (upd (upd (upd emp 1000000004 (.box [.int .i64 v4])) 1000000003 (.box [.int .i64 cp_3_2])) 1000000002 (.box [.sl (.int .i64) cp_3_1 false])) 1000000001 (.box [.int .i64 cp_3_0])) 1000000000 (.box [.sl (.int .i64) v2 false])) }
theorem B101f91io001110_eq (n : Nat × Nat) (SS : List Int → List Int → List Int → Int → List Int → Int → Int → Option R101f91io001110) (plan0 : List Int) (left1 : List Int) (v2 : List Int) (cp_3_0 : Int) (cp_3_1 : List Int) (cp_3_2 : Int) (v4 : Int) : B101f91io001110 n SS plan0 left1 v2 cp_3_0 cp_3_1 cp_3_2 v4 =
 (bif ((plan0.length : Int) == (v2.length : Int)) then (S91io00111 n plan0 left1 cp_3_0 cp_3_1 cp_3_2).bind fun r1' =>
 some ((), v2, r1'.2.1, r1'.2.2.1, r1'.2.2.2.1, v4, ())
 else L101f91io001110_1 n SS n.1 plan0 left1 (plan0.length : Int) (wr .i64 ((left1.length : Int) + 1)) 0 v2 v4 cp_3_0 cp_3_1 cp_3_2) := by kernel_rfl
noncomputable def T101f91io001110 (n : Nat × Nat) : Nat → List Int → List Int → List Int → Int → List Int → Int → Int → Option R101f91io001110
  | 0 => fun _ _ _ _ _ _ _ => none
  | d + 1 => B101f91io001110 n (T101f91io001110 n d)
theorem T101f91io001110_eq (n : Nat × Nat) (d : Nat) (plan0 : List Int) (left1 : List Int) (v2 : List Int) (cp_3_0 : Int) (cp_3_1 : List Int) (cp_3_2 : Int) (v4 : Int) : T101f91io001110 n (d + 1) plan0 left1 v2 cp_3_0 cp_3_1 cp_3_2 v4 = B101f91io001110 n (T101f91io001110 n d) plan0 left1 v2 cp_3_0 cp_3_1 cp_3_2 v4 := rfl
noncomputable def S101f91io001110 (n : Nat × Nat) (plan0 : List Int) (left1 : List Int) (v2 : List Int) (cp_3_0 : Int) (cp_3_1 : List Int) (cp_3_2 : Int) (v4 : Int) : Option R101f91io001110 := T101f91io001110 n n.1 plan0 left1 v2 cp_3_0 cp_3_1 cp_3_2 v4
theorem B101f91io001110_run (n : Nat × Nat) (SS : List Int → List Int → List Int → Int → List Int → Int → Int → Option R101f91io001110) (xs : qksDen pk101f91io001110) : B101f91io001110 n SS xs.1 xs.2.1 xs.2.2.1 xs.2.2.2.1.1 xs.2.2.2.1.2.1 xs.2.2.2.1.2.2.1 xs.2.2.2.2.1 = runG (E101f91io001110 n SS) noScope c101f91io001110 an101f91io001110 (rtIO rk101f91io001110 (pk101f91io001110.flatMap QK.ods)) (fun _ _ => none) (rtIO rk101f91io001110 (pk101f91io001110.flatMap QK.ods)) (st1 pk101f91io001110 xs Tryd.f101.ntmps) := by kernel_rfl
noncomputable def P101f91io001110 (n : Nat × Nat) := phioOf pk101f91io001110 rk101f91io001110 (pk101f91io001110.flatMap QK.ods) (fun xs => S101f91io001110 n xs.1 xs.2.1 xs.2.2.1 xs.2.2.2.1.1 xs.2.2.2.1.2.1 xs.2.2.2.1.2.2.1 xs.2.2.2.2.1)
theorem call101 : CallOK Tryd.prog 101 := callOK_of Tryd.func101 (by kernel_rfl) (by kernel_rfl)
theorem env101f91io001110 (n : Nat × Nat) (SS : List Int → List Int → List Int → Int → List Int → Int → Int → Option R101f91io001110) (hSS : FCios Tryd.prog 101 (pk101f91io001110.map QK.flag) (phioOf pk101f91io001110 rk101f91io001110 (pk101f91io001110.flatMap QK.ods) (fun xs => SS xs.1 xs.2.1 xs.2.2.1 xs.2.2.2.1.1 xs.2.2.2.1.2.1 xs.2.2.2.1.2.2.1 xs.2.2.2.2.1))) : EnvOK Tryd.prog (E101f91io001110 n SS) := envOK (l := io101f91io001110 n SS) (consPhi_ok (FC56 n) call56 noPhi_ok) rfl rfl (by kernel_rfl) ⟨FC91io00111 n, call91, hSS, call101, trivial⟩
theorem par101f91io001110 (n : Nat × Nat) (SS : List Int → List Int → List Int → Int → List Int → Int → Int → Option R101f91io001110) : EnvPar (E101f91io001110 n SS) := envPar (l := io101f91io001110 n SS) (consPhi_par phiOf_Par1 noPhi_par) rfl ⟨phioOf_Pario1, phioOf_Pario1, trivial⟩
theorem FCT101f91io001110 (n : Nat × Nat) : ∀ d : Nat, FCios Tryd.prog 101 (pk101f91io001110.map QK.flag) (phioOf pk101f91io001110 rk101f91io001110 (pk101f91io001110.flatMap QK.ods) (fun xs => T101f91io001110 n d xs.1 xs.2.1 xs.2.2.1 xs.2.2.2.1.1 xs.2.2.2.1.2.1 xs.2.2.2.1.2.2.1 xs.2.2.2.2.1))
  | 0 => phioOf_FCios fun xs r h => by cases h
  | d + 1 => phioOf_FCios fun xs r h vs hv => FCio.of_runG tabOK eqsOK (env101f91io001110 n (T101f91io001110 n d) (FCT101f91io001110 n d)) (par101f91io001110 n (T101f91io001110 n d)) mixed (fun _ p _ => noScope_ok p.1 p.2) Tryd.func101 (c := c101f91io001110) (an := an101f91io001110) (qks := pk101f91io001110) (rks := rk101f91io001110) (by kernel_rfl) (by kernel_rfl) hv ((B101f91io001110_run n (T101f91io001110 n d) xs).symm.trans h)
theorem FC101f91io001110 (n : Nat × Nat) : FCios Tryd.prog 101 (pk101f91io001110.map QK.flag) (P101f91io001110 n) := FCT101f91io001110 n n.1
abbrev R90c91io001 := (Unit) × Int × (List Int) × Int × Unit
noncomputable def c90c91io001 : Code := bodyOf Tryd.f90
noncomputable def an90c91io001 : Ann := .l
def pk90c91io001 : List QK := [.pl (.c (.int .i64)), .pl (.c (.sl (.int .i64))), .of 91 [(.int .i64), (.sl (.int .i64)), (.int .i64)]]
def rk90c91io001 : List RK := []
noncomputable def rt90c91io001 (st : St) : Option R90c91io001 := rtIO rk90c91io001 (pk90c91io001.flatMap QK.ods) st
noncomputable def io90c91io001 (n : Nat × Nat) : List IoE := [⟨101, (fun _ => true), pk101f91io001110.map QK.flag, P101f91io001110 n⟩]
noncomputable def E90c91io001 (n : Nat × Nat) : Env := { T := tab, phi := noPhi, eff := fun _ => false, fuel := n.1, hold := n.2, phio := phioL (io90c91io001 n), iop := iopL (io90c91io001 n) }
noncomputable def S90c91io001 (n : Nat × Nat) (size0 : Int) (pieces1 : List Int) (cp_2_0 : Int) (cp_2_1 : List Int) (cp_2_2 : Int) : Option R90c91io001 := run (E90c91io001 n) c90c91io001 an90c91io001 rt90c91io001 (fun _ _ => none) rt90c91io001 { tm := [.c (.int .i64 size0), .c (.sl (.int .i64) pieces1 false), .fn 91 [.ptr 1000000000 0, .ptr 1000000001 0, .ptr 1000000002 0], uu, uu, uu, uu, uu, uu, uu], hp := (upd (upd (upd emp 1000000002 (.box [.int .i64 cp_2_2])) 1000000001 (.box [.sl (.int .i64) cp_2_1 false])) 1000000000 (.box [.int .i64 cp_2_0])) }
theorem S90c91io001_eq (n : Nat × Nat) (size0 : Int) (pieces1 : List Int) (cp_2_0 : Int) (cp_2_1 : List Int) (cp_2_2 : Int) : S90c91io001 n size0 pieces1 cp_2_0 cp_2_1 cp_2_2 =
 (S101f91io001110 n [] [] pieces1 cp_2_0 cp_2_1 cp_2_2 size0).bind fun r1' =>
 some ((), r1'.2.2.1, r1'.2.2.2.1, r1'.2.2.2.2.1, ()) := by kernel_rfl
theorem S90c91io001_run (n : Nat × Nat) (xs : qksDen pk90c91io001) : S90c91io001 n xs.1 xs.2.1 xs.2.2.1.1 xs.2.2.1.2.1 xs.2.2.1.2.2.1 = runG (E90c91io001 n) noScope c90c91io001 an90c91io001 (rtIO rk90c91io001 (pk90c91io001.flatMap QK.ods)) (fun _ _ => none) (rtIO rk90c91io001 (pk90c91io001.flatMap QK.ods)) (st1 pk90c91io001 xs Tryd.f90.ntmps) := by kernel_rfl
noncomputable def P90c91io001 (n : Nat × Nat) := phioOf pk90c91io001 rk90c91io001 (pk90c91io001.flatMap QK.ods) (fun xs => S90c91io001 n xs.1 xs.2.1 xs.2.2.1.1 xs.2.2.1.2.1 xs.2.2.1.2.2.1)
theorem call90 : CallOK Tryd.prog 90 := callOK_of Tryd.func90 (by kernel_rfl) (by kernel_rfl)
theorem env90c91io001 (n : Nat × Nat) : EnvOK Tryd.prog (E90c91io001 n) := envOK (l := io90c91io001 n) noPhi_ok rfl rfl (by kernel_rfl) ⟨FC101f91io001110 n, call101, trivial⟩
theorem par90c91io001 (n : Nat × Nat) : EnvPar (E90c91io001 n) := envPar (l := io90c91io001 n) noPhi_par rfl ⟨phioOf_Pario1, trivial⟩
theorem FC90c91io001 (n : Nat × Nat) : FCios Tryd.prog 90 (pk90c91io001.map QK.flag) (P90c91io001 n) := phioOf_FCios fun xs r h vs hv => FCio.of_runG tabOK eqsOK (env90c91io001 n) (par90c91io001 n) mixed (fun _ p _ => noScope_ok p.1 p.2) Tryd.func90 (c := c90c91io001) (an := an90c91io001) (qks := pk90c91io001) (rks := rk90c91io001) (by kernel_rfl) (by kernel_rfl) hv ((S90c91io001_run n xs).symm.trans h)
abbrev R52 := List Int × Int × Int
noncomputable def c52 : Code := bodyOf Tryd.f52
noncomputable def an52 : Ann := .l
def pk52 : List PK := [.c (.int .i64), .c (.sl (.int .i64))]
def rk52 : List RK := [.box (.sl (.int .i64)) 4, .box (.int .i64) 5, .box (.int .i64) 6]
noncomputable def rt52 (st : St) : Option R52 := rtG rk52 st
noncomputable def io52 (n : Nat × Nat) : List IoE := [⟨90, (isFns [none, none, some 91]), pk90c91io001.map QK.flag, P90c91io001 n⟩]
noncomputable def E52 (n : Nat × Nat) : Env := { T := tab, phi := noPhi, eff := fun _ => false, fuel := n.1, hold := n.2, phio := phioL (io52 n), iop := iopL (io52 n) }
noncomputable def S52 (n : Nat × Nat) (size0 : Int) (pieces1 : List Int) : Option R52 := run (E52 n) c52 an52 rt52 (fun _ _ => none) rt52 { tm := [.c (.int .i64 size0), .c (.sl (.int .i64) pieces1 false), uu, uu, uu, uu, uu, uu, uu, uu, uu, uu, uu, uu, uu, uu, uu], hp := emp }
theorem S52_eq (n : Nat × Nat) (size0 : Int) (pieces1 : List Int) : S52 n size0 pieces1 =
 (S90c91io001 n size0 pieces1 (wr .i64 ((pieces1.length : Int) + 1)) [] 0).bind fun r1' =>
 some (r1'.2.2.1, r1'.2.1, r1'.2.2.2.1) := by kernel_rfl
theorem S52_run (n : Nat × Nat) (xs : pksDen pk52) : S52 n xs.1 xs.2.1 = runG (E52 n) noScope c52 an52 (rtG rk52) (fun _ _ => none) (rtG rk52) (st0 pk52 xs Tryd.f52.ntmps) := by kernel_rfl
noncomputable def P52 (n : Nat × Nat) := phiOf pk52 rk52 (fun xs => S52 n xs.1 xs.2.1)
theorem call52 : CallOK Tryd.prog 52 := callOK_of Tryd.func52 (by kernel_rfl) (by kernel_rfl)
theorem env52 (n : Nat × Nat) : EnvOK Tryd.prog (E52 n) := envOK (l := io52 n) noPhi_ok rfl rfl (by kernel_rfl) ⟨FC90c91io001 n, call90, trivial⟩
theorem par52 (n : Nat × Nat) : EnvPar (E52 n) := envPar (l := io52 n) noPhi_par rfl ⟨phioOf_Pario1, trivial⟩
theorem FC52 (n : Nat × Nat) : FCs Tryd.prog 52 (P52 n) := phiOf_FCs fun xs r h vs hv => FC.of_runG tabOK eqsOK (env52 n) (par52 n) mixed (fun _ p _ => noScope_ok p.1 p.2) Tryd.func52 (c := c52) (an := an52) (pks := pk52) (rks := rk52) (by kernel_rfl) (by kernel_rfl) hv ((S52_run n xs).symm.trans h)
abbrev R53 := Bool
noncomputable def c53 : Code := bodyOf Tryd.f53
noncomputable def an53 : Ann := (.s .l (.s (.s .l (.j [] (.j [0, 1, 9, 10, 11, 30, 31, 32, 33] (.s .l (.s (.j [0, 1, 9, 10, 11, 30, 31, 32, 33] .l .l) (.s (.j [0, 1, 9, 10, 11, 30, 31, 32, 33] (.s .l (.s .l (.j [0, 1, 9, 10, 11, 30, 31, 32, 33] (.j [0, 1, 6, 9, 10, 11, 19, 20, 21, 30, 31, 32, 33] (.s .l (.s (.j [0, 1, 6, 9, 10, 11, 19, 20, 21, 30, 31, 32, 33] .l .l) (.s (.j [0, 1, 6, 9, 10, 11, 19, 20, 21, 30, 31, 32, 33] (.s .l (.s .l (.j [0, 1, 6, 9, 10, 11, 19, 20, 21, 30, 31, 32, 33] .l .l))) .l) .l))) .l) .l))) .l) .l))) .l) .l)) .l))
def pk53 : List PK := [.c (.int .i64), .c (.sl (.int .i64))]
def rk53 : List RK := [.c .bool 4]
noncomputable def rt53 (st : St) : Option R53 := rtG rk53 st
noncomputable def E53 (n : Nat × Nat) : Env := { T := tab, phi := (consPhi 56 (fun _ => true) (P56 n) noPhi), eff := fun _ => false, fuel := n.1, hold := n.2 }
noncomputable def kq53_1 (n : Nat × Nat) : St → Option R53 := run (E53 n) (cB (cB c53)) (Ann.snd (Ann.snd an53)) rt53 (fun _ _ => none) rt53
noncomputable def xb53_3 (n : Nat × Nat) : Nat → St → Option R53 := fun j s => bif Nat.beq j 0 then normC [] s (kq53_1 n) else (fun _ _ => none) j s
noncomputable def F53_4 (n : Nat × Nat) : (St → Option R53) → St → Option R53 := fun K s => run (E53 n) (cA (cA (cB (cA (cB c53))))) (Ann.fst (Ann.fst (Ann.snd (Ann.fst (Ann.snd an53))))) (fun s => normC [0, 1, 9, 10, 11, 30, 31, 32, 33] s K) (xb53_3 n) rt53 s
noncomputable def kq53_7 (n : Nat × Nat) (m1 : Nat) : St → Option R53 := run (E53 n) (cB (cB (cB (cA (cA (cB (cA (cB c53)))))))) (Ann.snd (Ann.snd (Ann.snd (Ann.fst (Ann.fst (Ann.snd (Ann.fst (Ann.snd an53)))))))) (fun s => normC [0, 1, 9, 10, 11, 30, 31, 32, 33] s (loopN (F53_4 n) m1)) (xb53_3 n) rt53
noncomputable def kc53_8 (n : Nat × Nat) (m1 : Nat) : St → Option R53 := fun s => normC [0, 1, 9, 10, 11, 30, 31, 32, 33] s (kq53_7 n m1)
noncomputable def xb53_9 (n : Nat × Nat) (m1 : Nat) : Nat → St → Option R53 := fun j s => bif Nat.beq j 1 then normC [0, 1, 9, 10, 11, 30, 31, 32, 33] s (kq53_7 n m1) else (xb53_3 n) j s
noncomputable def xb53_11 (n : Nat × Nat) (m1 : Nat) : Nat → St → Option R53 := fun j s => bif Nat.beq j 2 then normC [0, 1, 9, 10, 11, 30, 31, 32, 33] s (kc53_8 n m1) else (xb53_9 n m1) j s
noncomputable def F53_12 (n : Nat × Nat) (m1 : Nat) : (St → Option R53) → St → Option R53 := fun K s => run (E53 n) (cA (cA (cB (cB (cA (cA (cB (cB (cA (cA (cB (cA (cB c53))))))))))))) (Ann.fst (Ann.fst (Ann.snd (Ann.snd (Ann.fst (Ann.fst (Ann.snd (Ann.snd (Ann.fst (Ann.fst (Ann.snd (Ann.fst (Ann.snd an53))))))))))))) (fun s => normC [0, 1, 6, 9, 10, 11, 19, 20, 21, 30, 31, 32, 33] s K) (xb53_11 n m1) rt53 s
noncomputable def L53_1 (n : Nat × Nat) (m : Nat) (size0 : Int) (pieces1 : List Int) (v9 : List Int) (v10 : Int) (v11 : Int) : Option R53 := loopN (F53_4 n) m { tm := [.c (.int .i64 size0), .c (.sl (.int .i64) pieces1 false), uu, uu, uu, uu, uu, uu, uu, .c (.sl (.int .i64) v9 false), .c (.int .i64 v10), .c (.int .i64 v11), uu, uu, uu, uu, uu, uu, uu, uu, uu, uu, uu, uu, uu, uu, uu, uu, uu, uu, uu, uu, uu, uu, uu, uu, uu], hp := emp }
noncomputable def L53_2 (n : Nat × Nat) (m1 : Nat) (m : Nat) (size0 : Int) (pieces1 : List Int) (p6 : Int) (v9 : List Int) (v10 : Int) (v11 : Int) (v20 : Int) (v21 : Int) (v19 : List Int) : Option R53 := loopN (F53_12 n m1) m { tm := [.c (.int .i64 size0), .c (.sl (.int .i64) pieces1 false), uu, uu, uu, uu, .c (.int .i64 p6), uu, uu, .c (.sl (.int .i64) v9 false), .c (.int .i64 v10), .c (.int .i64 v11), uu, uu, uu, uu, uu, uu, uu, .own 19 none false, .c (.int .i64 v20), .c (.int .i64 v21), uu, uu, uu, uu, uu, uu, uu, uu, uu, uu, uu, uu, uu, uu, uu], hp := (upd emp 19 (.arr (.int .i64) v19 false)) }
theorem L53_1_eq (n : Nat × Nat) (m1 : Nat) (size0 : Int) (pieces1 : List Int) (v9 : List Int) (v10 : Int) (v11 : Int) : L53_1 n (m1 + 1) size0 pieces1 v9 v10 v11 =
 (bif decide (v11 < v10) then (idx v9 v11).bind fun x1' =>
 (S56 n pieces1).bind fun r2' =>
 (bif decide (r2'.length + [size0].length ≤ lim) then L53_2 n m1 n.1 size0 pieces1 x1' v9 v10 v11 ((r2' ++ [size0]).length : Int) 0 (r2' ++ [size0])
 else none)
 else some true) := by kernel_rfl
theorem L53_2_eq (n : Nat × Nat) (m1 m2 : Nat) (size0 : Int) (pieces1 : List Int) (p6 : Int) (v9 : List Int) (v10 : Int) (v11 : Int) (v20 : Int) (v21 : Int) (v19 : List Int) : L53_2 n m1 (m2 + 1) size0 pieces1 p6 v9 v10 v11 v20 v21 v19 =
 (bif decide (v21 < v20) then (bif inB v21 v19.length then (idx v19 v21).bind fun x3' =>
 (bif x3' == 0 then none
 else ((bif (((Int.tmod p6 x3') != 0) == true) then (bif p6 == 0 then none
 else some ((Int.tmod x3' p6) != 0))
 else some false)).bind fun b4' =>
 (bif b4' then some false
 else L53_2 n m1 m2 size0 pieces1 p6 v9 v10 v11 v20 (wr .i64 (v21 + 1)) v19))
 else none)
 else L53_1 n m1 size0 pieces1 v9 v10 (wr .i64 (v11 + 1))) := by kernel_rfl
noncomputable def S53 (n : Nat × Nat) (size0 : Int) (pieces1 : List Int) : Option R53 := run (E53 n) c53 an53 rt53 (fun _ _ => none) rt53 { tm := [.c (.int .i64 size0), .c (.sl (.int .i64) pieces1 false), uu, uu, uu, uu, uu, uu, uu, uu, uu, uu, uu, uu, uu, uu, uu, uu, uu, uu, uu, uu, uu, uu, uu, uu, uu, uu, uu, uu, uu, uu, uu, uu, uu, uu, uu], hp := emp }
theorem S53_eq (n : Nat × Nat) (size0 : Int) (pieces1 : List Int) : S53 n size0 pieces1 =
    L53_1 n n.1 size0 pieces1 pieces1 (pieces1.length : Int) 0 := by kernel_rfl
theorem S53_run (n : Nat × Nat) (xs : pksDen pk53) : S53 n xs.1 xs.2.1 = runG (E53 n) noScope c53 an53 (rtG rk53) (fun _ _ => none) (rtG rk53) (st0 pk53 xs Tryd.f53.ntmps) := by kernel_rfl
noncomputable def P53 (n : Nat × Nat) := phiOf pk53 rk53 (fun xs => S53 n xs.1 xs.2.1)
theorem call53 : CallOK Tryd.prog 53 := callOK_of Tryd.func53 (by kernel_rfl) (by kernel_rfl)
theorem env53 (n : Nat × Nat) : EnvOK Tryd.prog (E53 n) := envOK0 (consPhi_ok (FC56 n) call56 noPhi_ok) rfl rfl
theorem par53 (n : Nat × Nat) : EnvPar (E53 n) := envPar0 (consPhi_par phiOf_Par1 noPhi_par) rfl
theorem FC53 (n : Nat × Nat) : FCs Tryd.prog 53 (P53 n) := phiOf_FCs fun xs r h vs hv => FC.of_runG tabOK eqsOK (env53 n) (par53 n) mixed (fun _ p _ => noScope_ok p.1 p.2) Tryd.func53 (c := c53) (an := an53) (pks := pk53) (rks := rk53) (by kernel_rfl) (by kernel_rfl) hv ((S53_run n xs).symm.trans h)
abbrev R8 := Bool
noncomputable def c8 : Code := bodyOf Tryd.f8
noncomputable def an8 : Ann := .l
def pk8 : List PK := [.c (.pair (.int .u8) (.pair (.int .u8) (.pair (.int .u8) (.pair (.int .u8) (.pair (.int .u8) (.pair (.int .u8) (.pair (.int .u8) (.pair (.int .u8) (.pair (.int .u8) (.pair (.int .u8) (.int .u8)))))))))))]
def rk8 : List RK := [.c .bool 2]
noncomputable def rt8 (st : St) : Option R8 := rtG rk8 st
noncomputable def E8 (n : Nat × Nat) : Env := { T := tab, phi := (consPhi 17 (fun _ => true) (P17 n) (consPhi 24 (fun _ => true) (P24 n) (consPhi 26 (fun _ => true) (P26 n) (consPhi 34 (fun _ => true) (P34 n) (consPhi 36 (fun _ => true) (P36 n) (consPhi 38 (fun _ => true) (P38 n) (consPhi 40 (fun _ => true) (P40 n) (consPhi 48 (fun _ => true) (P48 n) (consPhi 52 (fun _ => true) (P52 n) (consPhi 53 (fun _ => true) (P53 n) noPhi)))))))))), eff := fun g => Nat.beq g 36 || Nat.beq g 48 || Nat.beq g 52, fuel := n.1, hold := n.2 }
noncomputable def S8 (n : Nat × Nat) (s0 : Int × Int × Int × Int × Int × Int × Int × Int × Int × Int × Int) : Option R8 := run (E8 n) c8 an8 rt8 (fun _ _ => none) rt8 { tm := [.agg [.int .u8 s0.1, .int .u8 s0.2.1, .int .u8 s0.2.2.1, .int .u8 s0.2.2.2.1, .int .u8 s0.2.2.2.2.1, .int .u8 s0.2.2.2.2.2.1, .int .u8 s0.2.2.2.2.2.2.1, .int .u8 s0.2.2.2.2.2.2.2.1, .int .u8 s0.2.2.2.2.2.2.2.2.1, .int .u8 s0.2.2.2.2.2.2.2.2.2.1, .int .u8 s0.2.2.2.2.2.2.2.2.2.2], uu, uu, uu, uu, uu, uu, uu, uu, uu, uu, uu, uu, uu, uu, uu, uu, uu, uu, uu, uu, uu, uu, uu, uu, uu, uu, uu, uu, uu, uu, uu, uu, uu, uu, uu, uu, uu, uu, uu, uu, uu, uu, uu, uu, uu, uu, uu, uu, uu, uu, uu, uu, uu, uu, uu, uu, uu, uu, uu, uu, uu, uu, uu, uu, uu, uu, uu, uu, uu, uu, uu, uu, uu, uu, uu, uu, uu, uu, uu, uu, uu, uu, uu, uu, uu, uu, uu, uu, uu, uu, uu, uu, uu, uu, uu, uu], hp := emp }
theorem S8_eq (n : Nat × Nat) (s0 : Int × Int × Int × Int × Int × Int × Int × Int × Int × Int × Int) : S8 n s0 =
 (S48 n s0 7).bind fun r1' =>
 (S52 n r1'.1 r1'.2).bind fun r2' =>
 (S34 n r1'.1 r1'.2).bind fun r3' =>
 (S36 n r1'.1 r1'.2).bind fun r4' =>
 (S38 n r1'.1 r1'.2).bind fun r5' =>
 (S40 n r1'.1 r1'.2).bind fun r6' =>
 (S26 n r1'.1 r1'.2).bind fun r7' =>
 ((bif ((r7' == 0) == true) then some (r3'.2 == 0)
 else some false)).bind fun b8' =>
 ((bif (b8' == true) then some (r4'.2 == 0)
 else some false)).bind fun b9' =>
 ((bif (b9' == true) then some (r5'.2 == 0)
 else some false)).bind fun b10' =>
 ((bif (b10' == true) then some (r6'.2 == 0)
 else some false)).bind fun b11' =>
 ((bif (b11' == true) then some (r3'.1 == r2'.2.1)
 else some false)).bind fun b12' =>
 ((bif (b12' == true) then (S24 n r4'.1 r2'.1).bind fun r13' =>
 some r13'
 else some false)).bind fun b14' =>
 ((bif (b14' == true) then some (r5'.1 == r2'.2.2)
 else some false)).bind fun b15' =>
 ((bif (b15' == true) then (S53 n r1'.1 r1'.2).bind fun r16' =>
 some (r6'.1 == r16')
 else some false)).bind fun b17' =>
 ((bif (b17' == true) then (S17 n).bind fun r18' =>
 some r18'
 else some false)).bind fun b19' =>
 some b19' := by kernel_rfl
theorem S8_run (n : Nat × Nat) (xs : pksDen pk8) : S8 n xs.1 = runG (E8 n) noScope c8 an8 (rtG rk8) (fun _ _ => none) (rtG rk8) (st0 pk8 xs Tryd.f8.ntmps) := by kernel_rfl
noncomputable def P8 (n : Nat × Nat) := phiOf pk8 rk8 (fun xs => S8 n xs.1)
theorem env8 (n : Nat × Nat) : EnvOK Tryd.prog (E8 n) := envOK0 (consPhi_ok (FC17 n) call17 (consPhi_ok (FC24 n) call24 (consPhi_ok (FC26 n) call26 (consPhi_ok (FC34 n) call34 (consPhi_ok (FC36 n) call36 (consPhi_ok (FC38 n) call38 (consPhi_ok (FC40 n) call40 (consPhi_ok (FC48 n) call48 (consPhi_ok (FC52 n) call52 (consPhi_ok (FC53 n) call53 noPhi_ok)))))))))) rfl rfl
theorem par8 (n : Nat × Nat) : EnvPar (E8 n) := envPar0 (consPhi_par phiOf_Par1 (consPhi_par phiOf_Par1 (consPhi_par phiOf_Par1 (consPhi_par phiOf_Par1 (consPhi_par phiOf_Par1 (consPhi_par phiOf_Par1 (consPhi_par phiOf_Par1 (consPhi_par phiOf_Par1 (consPhi_par phiOf_Par1 (consPhi_par phiOf_Par1 noPhi_par)))))))))) rfl
theorem FC8 (n : Nat × Nat) : FCs Tryd.prog 8 (P8 n) := phiOf_FCs fun xs r h vs hv => FC.of_runG tabOK eqsOK (env8 n) (par8 n) mixed (fun _ p _ => noScope_ok p.1 p.2) Tryd.func8 (c := c8) (an := an8) (pks := pk8) (rks := rk8) (by kernel_rfl) (by kernel_rfl) hv ((S8_run n xs).symm.trans h)
/-D 100 -/
noncomputable def DF100_1 (n : Nat × Nat) (f1 : Int → Int → Option R100) (v0 : Int) (d3 : Int) : Option R100 :=
 (bif decide (d3 < v0) then (bif d3 == 0 then none
 else (bif ((Int.tmod v0 d3) == 0) then some false
 else f1 v0 (wr .i64 (d3 + 1))))
 else some true)
noncomputable def DL100_1 (n : Nat × Nat) (m : Nat) : Int → Int → Option R100 := Nat.rec (motive := fun _ => Int → Int → Option R100) (fun _ _ => none) (fun _ ih => DF100_1 n ih) m
theorem DL100_1_succ (n : Nat × Nat) (m : Nat) : DL100_1 n (m + 1) = DF100_1 n (DL100_1 n m) := rfl
theorem DL100_1_eq (n : Nat × Nat) (hn : n.2 = 1) : ∀ m, L100_1 n m = DL100_1 n m
  | 0 => by funext v0 d3; kernel_rfl
  | m + 1 => by
    have ih := DL100_1_eq n hn m
    funext v0 d3; refine (L100_1_eq n m v0 d3).trans ?_
    rw [DL100_1_succ]
    unfold DF100_1
    (try simp only [ih]) <;> first | with_reducible rfl | rfl
noncomputable def D100 (n : Nat × Nat) (v0 : Int) : Option R100 :=
    DL100_1 n n.1 v0 2
theorem S100_D (n : Nat × Nat) (hn : n.2 = 1) : S100 n = D100 n := by
  funext v0; refine (S100_eq n v0).trans ?_
  unfold D100
  (try simp only [DL100_1_eq n hn]) <;> first | with_reducible rfl | rfl
/-D 89 -/
noncomputable def DL89_4 (n : Nat × Nat) (f1 : Int → Int → List Int → Option R89) (f2 : Int → Int → Int → Int → List Int → Option R89) (v1 : Int) (d6 : Int) (p7 : Int) (q8 : Int) (out5 : List Int) : Option R89 :=
    f2 v1 d6 p7 (wr .i64 (q8 + 1)) out5
theorem DL89_4_eq (n : Nat × Nat) (hn : n.2 = 1) (m1 m2 : Nat) : L89_4 n m1 m2 = DL89_4 n (L89_1 n m1) (L89_3 n m1 m2) := by
  funext v1 d6 p7 q8 out5; refine ((held_eq hn _).trans (L89_4_raw n m1 m2 v1 d6 p7 q8 out5)).trans ?_
  unfold DL89_4
  (try simp only [S100_D n hn]) <;> first | with_reducible rfl | rfl
noncomputable def DF89_3 (n : Nat × Nat) (f1 : Int → Int → List Int → Option R89) (f2 : Int → Int → Int → Int → List Int → Option R89) (v1 : Int) (d6 : Int) (p7 : Int) (q8 : Int) (out5 : List Int) : Option R89 :=
 (bif decide (q8 ≤ d6) then (bif q8 == 0 then none
 else ((bif (((Int.tmod d6 q8) == 0) == true) then (D100 n q8).bind fun r1' =>
 some r1'
 else some false)).bind fun b2' =>
 (bif b2' then DL89_4 n f1 f2 v1 d6 q8 q8 out5
 else DL89_4 n f1 f2 v1 d6 p7 q8 out5))
 else (bif p7 == 0 then none
 else (bif decide (out5.length + [wr .i64 (Int.tdiv d6 p7)].length ≤ lim) then (bif 2 == 0 then none
 else f1 (wr .i64 (Int.tdiv v1 2)) (wr .i64 (Int.tdiv d6 p7)) (out5 ++ [wr .i64 (Int.tdiv d6 p7)]))
 else none)))
noncomputable def DL89_3 (n : Nat × Nat) (f1 : Int → Int → List Int → Option R89) (m : Nat) : Int → Int → Int → Int → List Int → Option R89 := Nat.rec (motive := fun _ => Int → Int → Int → Int → List Int → Option R89) (fun _ _ _ _ _ => none) (fun _ ih => DF89_3 n f1 ih) m
theorem DL89_3_succ (n : Nat × Nat) (f1 : Int → Int → List Int → Option R89) (m : Nat) : DL89_3 n f1 (m + 1) = DF89_3 n f1 (DL89_3 n f1 m) := rfl
theorem DL89_3_eq (n : Nat × Nat) (hn : n.2 = 1) (m1 : Nat) : ∀ m, L89_3 n m1 m = DL89_3 n (L89_1 n m1) m
  | 0 => by funext v1 d6 p7 q8 out5; kernel_rfl
  | m + 1 => by
    have ih := DL89_3_eq n hn m1 m
    funext v1 d6 p7 q8 out5; refine (L89_3_eq n m1 m v1 d6 p7 q8 out5).trans ?_
    rw [DL89_3_succ]
    unfold DF89_3
    (try simp only [ih, DL89_4_eq n hn, S100_D n hn]) <;> first | with_reducible rfl | rfl
noncomputable def DF89_2 (n : Nat × Nat) (f1 : Int → Int → List Int → Option R89) (f2 : Int → Int → Int → List Int → Option R89) (v1 : Int) (d6 : Int) (p7 : Int) (out5 : List Int) : Option R89 :=
 (bif p7 == 0 then none
 else (bif ((Int.tmod d6 p7) != 0) then f2 v1 d6 (wr .i64 (p7 + 1)) out5
 else (bif 2 == 0 then none
 else (bif ((Int.tmod v1 2) == 1) then DL89_3 n f1 n.1 v1 d6 p7 p7 out5
 else (bif p7 == 0 then none
 else (bif decide (out5.length + [wr .i64 (Int.tdiv d6 p7)].length ≤ lim) then (bif 2 == 0 then none
 else f1 (wr .i64 (Int.tdiv v1 2)) (wr .i64 (Int.tdiv d6 p7)) (out5 ++ [wr .i64 (Int.tdiv d6 p7)]))
 else none))))))
noncomputable def DL89_2 (n : Nat × Nat) (f1 : Int → Int → List Int → Option R89) (m : Nat) : Int → Int → Int → List Int → Option R89 := Nat.rec (motive := fun _ => Int → Int → Int → List Int → Option R89) (fun _ _ _ _ => none) (fun _ ih => DF89_2 n f1 ih) m
theorem DL89_2_succ (n : Nat × Nat) (f1 : Int → Int → List Int → Option R89) (m : Nat) : DL89_2 n f1 (m + 1) = DF89_2 n f1 (DL89_2 n f1 m) := rfl
theorem DL89_2_eq (n : Nat × Nat) (hn : n.2 = 1) (m1 : Nat) : ∀ m, L89_2 n m1 m = DL89_2 n (L89_1 n m1) m
  | 0 => by funext v1 d6 p7 out5; kernel_rfl
  | m + 1 => by
    have ih := DL89_2_eq n hn m1 m
    funext v1 d6 p7 out5; refine (L89_2_eq n m1 m v1 d6 p7 out5).trans ?_
    rw [DL89_2_succ]
    unfold DF89_2
    (try simp only [ih, DL89_4_eq n hn, DL89_3_eq n hn, S100_D n hn]) <;> first | with_reducible rfl | rfl
noncomputable def DF89_1 (n : Nat × Nat) (f1 : Int → Int → List Int → Option R89) (v1 : Int) (d6 : Int) (out5 : List Int) : Option R89 :=
 (bif decide (d6 > 1) then DL89_2 n f1 n.1 v1 d6 2 out5
 else some out5)
noncomputable def DL89_1 (n : Nat × Nat) (m : Nat) : Int → Int → List Int → Option R89 := Nat.rec (motive := fun _ => Int → Int → List Int → Option R89) (fun _ _ _ => none) (fun _ ih => DF89_1 n ih) m
theorem DL89_1_succ (n : Nat × Nat) (m : Nat) : DL89_1 n (m + 1) = DF89_1 n (DL89_1 n m) := rfl
theorem DL89_1_eq (n : Nat × Nat) (hn : n.2 = 1) : ∀ m, L89_1 n m = DL89_1 n m
  | 0 => by funext v1 d6 out5; kernel_rfl
  | m + 1 => by
    have ih := DL89_1_eq n hn m
    funext v1 d6 out5; refine (L89_1_eq n m v1 d6 out5).trans ?_
    rw [DL89_1_succ]
    unfold DF89_1
    (try simp only [ih, DL89_4_eq n hn, DL89_3_eq n hn, DL89_2_eq n hn, S100_D n hn]) <;> first | with_reducible rfl | rfl
noncomputable def D89 (n : Nat × Nat) (size0 : Int) (v1 : Int) : Option R89 :=
    DL89_1 n n.1 v1 size0 [size0]
theorem S89_D (n : Nat × Nat) (hn : n.2 = 1) : S89 n = D89 n := by
  funext size0 v1; refine (S89_eq n size0 v1).trans ?_
  unfold D89
  (try simp only [DL89_4_eq n hn, DL89_3_eq n hn, DL89_2_eq n hn, DL89_1_eq n hn, S100_D n hn]) <;> first | with_reducible rfl | rfl
/-D 48 -/
noncomputable def DF48_1 (n : Nat × Nat) (f1 : Int → List Int → Int → Int → List Int → List Int → Option R48) (size6 : Int) (v44 : List Int) (v45 : Int) (v46 : Int) (lengths7 : List Int) (out9 : List Int) : Option R48 :=
 (bif decide (v46 < v45) then (idx v44 v46).bind fun x2' =>
 (bif (lengths7.length : Int) == 0 then none
 else (bif inB (Int.tmod (wr .i64 x2') (lengths7.length : Int)) lengths7.length then (idx lengths7 (Int.tmod (wr .i64 x2') (lengths7.length : Int))).bind fun x3' =>
 (bif decide (out9.length + [x3'].length ≤ lim) then f1 size6 v44 v45 (wr .i64 (v46 + 1)) lengths7 (out9 ++ [x3'])
 else none)
 else none))
 else some (size6, out9))
noncomputable def DL48_1 (n : Nat × Nat) (m : Nat) : Int → List Int → Int → Int → List Int → List Int → Option R48 := Nat.rec (motive := fun _ => Int → List Int → Int → Int → List Int → List Int → Option R48) (fun _ _ _ _ _ _ => none) (fun _ ih => DF48_1 n ih) m
theorem DL48_1_succ (n : Nat × Nat) (m : Nat) : DL48_1 n (m + 1) = DF48_1 n (DL48_1 n m) := rfl
theorem DL48_1_eq (n : Nat × Nat) (hn : n.2 = 1) : ∀ m, L48_1 n m = DL48_1 n m
  | 0 => by funext size6 v44 v45 v46 lengths7 out9; kernel_rfl
  | m + 1 => by
    have ih := DL48_1_eq n hn m
    funext size6 v44 v45 v46 lengths7 out9; refine (L48_1_eq n m size6 v44 v45 v46 lengths7 out9).trans ?_
    rw [DL48_1_succ]
    unfold DF48_1
    (try simp only [ih, S89_D n hn]) <;> first | with_reducible rfl | rfl
noncomputable def DF48_2 (n : Nat × Nat) (f1 : Int → Int → Int → Int → Int → Int → Int → Int → Int → Int → Int → Int → Int → Int → Int → List Int → Option R48) (most1 : Int) (size6 : Int) (v27 : Int) (v28 : Int) (s2_0 : Int) (s2_1 : Int) (s2_2 : Int) (s2_3 : Int) (s2_4 : Int) (s2_5 : Int) (s2_6 : Int) (s2_7 : Int) (s2_8 : Int) (s2_9 : Int) (s2_10 : Int) (lengths7 : List Int) : Option R48 :=
 (bif decide (v28 < v27) then (bif decide (lengths7.length + [wr .i64 (v28 + 1)].length ≤ lim) then f1 most1 size6 v27 (wr .i64 (v28 + 1)) s2_0 s2_1 s2_2 s2_3 s2_4 s2_5 s2_6 s2_7 s2_8 s2_9 s2_10 (lengths7 ++ [wr .i64 (v28 + 1)])
 else none)
 else (bif (wr .i64 (most1 + 1)) == 0 then none
 else (bif bounds none (some (Int.tmod (wr .i64 s2_1) (wr .i64 (most1 + 1)))) none 8 then DL48_1 n n.1 size6 ([s2_3, s2_4, s2_5, s2_6, s2_7, s2_8, s2_9, s2_10].take (Int.toNat (Int.tmod (wr .i64 s2_1) (wr .i64 (most1 + 1))))) (([s2_3, s2_4, s2_5, s2_6, s2_7, s2_8, s2_9, s2_10].take (Int.toNat (Int.tmod (wr .i64 s2_1) (wr .i64 (most1 + 1))))).length : Int) 0 lengths7 []
 else none)))
noncomputable def DL48_2 (n : Nat × Nat) (m : Nat) : Int → Int → Int → Int → Int → Int → Int → Int → Int → Int → Int → Int → Int → Int → Int → List Int → Option R48 := Nat.rec (motive := fun _ => Int → Int → Int → Int → Int → Int → Int → Int → Int → Int → Int → Int → Int → Int → Int → List Int → Option R48) (fun _ _ _ _ _ _ _ _ _ _ _ _ _ _ _ _ => none) (fun _ ih => DF48_2 n ih) m
theorem DL48_2_succ (n : Nat × Nat) (m : Nat) : DL48_2 n (m + 1) = DF48_2 n (DL48_2 n m) := rfl
theorem DL48_2_eq (n : Nat × Nat) (hn : n.2 = 1) : ∀ m, L48_2 n m = DL48_2 n m
  | 0 => by funext most1 size6 v27 v28 s2_0 s2_1 s2_2 s2_3 s2_4 s2_5 s2_6 s2_7 s2_8 s2_9 s2_10 lengths7; kernel_rfl
  | m + 1 => by
    have ih := DL48_2_eq n hn m
    funext most1 size6 v27 v28 s2_0 s2_1 s2_2 s2_3 s2_4 s2_5 s2_6 s2_7 s2_8 s2_9 s2_10 lengths7; refine (L48_2_eq n m most1 size6 v27 v28 s2_0 s2_1 s2_2 s2_3 s2_4 s2_5 s2_6 s2_7 s2_8 s2_9 s2_10 lengths7).trans ?_
    rw [DL48_2_succ]
    unfold DF48_2
    (try simp only [ih, DL48_1_eq n hn, S89_D n hn]) <;> first | with_reducible rfl | rfl
noncomputable def D48 (n : Nat × Nat) (s0 : Int × Int × Int × Int × Int × Int × Int × Int × Int × Int × Int) (most1 : Int) : Option R48 :=
 (bif 24 == 0 then none
 else (bif 2 == 0 then none
 else (bif ((Int.tmod s0.2.2.1 2) == 1) then (bif 2 == 0 then none
 else (D89 n (wr .i64 (1 + (Int.tmod (wr .i64 s0.1) 24))) (wr .i64 (Int.tdiv (wr .i64 s0.2.2.1) 2))).bind fun r1' =>
 (bif (wr .i64 (most1 + 1)) == 0 then none
 else (bif bounds none (some (Int.tmod (wr .i64 s0.2.1) (wr .i64 (most1 + 1)))) none 8 then DL48_1 n n.1 (wr .i64 (1 + (Int.tmod (wr .i64 s0.1) 24))) ([s0.2.2.2.1, s0.2.2.2.2.1, s0.2.2.2.2.2.1, s0.2.2.2.2.2.2.1, s0.2.2.2.2.2.2.2.1, s0.2.2.2.2.2.2.2.2.1, s0.2.2.2.2.2.2.2.2.2.1, s0.2.2.2.2.2.2.2.2.2.2].take (Int.toNat (Int.tmod (wr .i64 s0.2.1) (wr .i64 (most1 + 1))))) (([s0.2.2.2.1, s0.2.2.2.2.1, s0.2.2.2.2.2.1, s0.2.2.2.2.2.2.1, s0.2.2.2.2.2.2.2.1, s0.2.2.2.2.2.2.2.2.1, s0.2.2.2.2.2.2.2.2.2.1, s0.2.2.2.2.2.2.2.2.2.2].take (Int.toNat (Int.tmod (wr .i64 s0.2.1) (wr .i64 (most1 + 1))))).length : Int) 0 r1' []
 else none)))
 else DL48_2 n n.1 most1 (wr .i64 (1 + (Int.tmod (wr .i64 s0.1) 24))) (wr .i64 (1 + (Int.tmod (wr .i64 s0.1) 24))) 0 s0.1 s0.2.1 s0.2.2.1 s0.2.2.2.1 s0.2.2.2.2.1 s0.2.2.2.2.2.1 s0.2.2.2.2.2.2.1 s0.2.2.2.2.2.2.2.1 s0.2.2.2.2.2.2.2.2.1 s0.2.2.2.2.2.2.2.2.2.1 s0.2.2.2.2.2.2.2.2.2.2 [])))
theorem S48_D (n : Nat × Nat) (hn : n.2 = 1) : S48 n = D48 n := by
  funext s0 most1; refine (S48_eq n s0 most1).trans ?_
  unfold D48
  (try simp only [DL48_1_eq n hn, DL48_2_eq n hn, S89_D n hn]) <;> first | with_reducible rfl | rfl
/-D 91io00111 -/
noncomputable def D91io00111 (n : Nat × Nat) (plan0 : List Int) (left1 : List Int) (v2 : Int) (v3 : List Int) (v4 : Int) : Option R91io00111 :=
 (bif decide ((left1.length : Int) < v2) then some ((), (left1.length : Int), plan0, 1, ())
 else (bif ((left1.length : Int) == v2) then some ((), v2, v3, wr .i64 (v4 + 1), ())
 else some ((), v2, v3, v4, ())))
theorem S91io00111_D (n : Nat × Nat) (hn : n.2 = 1) : S91io00111 n = D91io00111 n := by
  funext plan0 left1 v2 v3 v4; refine (S91io00111_eq n plan0 left1 v2 v3 v4).trans ?_
  unfold D91io00111
  first | with_reducible rfl | rfl
/-D 101f91io001110 -/
noncomputable def DL101f91io001110_2 (n : Nat × Nat) (SS : List Int → List Int → List Int → Int → List Int → Int → Int → Option R101f91io001110) (f1 : List Int → List Int → Int → Int → Int → List Int → Int → Int → List Int → Int → Option R101f91io001110) (plan0 : List Int) (left1 : List Int) (i8 : Int) (v23 : Int) (v24 : Int) (u0 : List Int) (u4 : Int) (u1 : Int) (u2 : List Int) (u3 : Int) : Option R101f91io001110 :=
    f1 plan0 left1 i8 v23 (wr .i64 (v24 + 1)) u0 u4 u1 u2 u3
theorem DL101f91io001110_2_eq (n : Nat × Nat) (hn : n.2 = 1) (SS : List Int → List Int → List Int → Int → List Int → Int → Int → Option R101f91io001110) (m1 : Nat) : L101f91io001110_2 n SS m1 = DL101f91io001110_2 n SS (L101f91io001110_1 n SS m1) := by
  funext plan0 left1 i8 v23 v24 u0 u4 u1 u2 u3; refine ((held_eq hn _).trans (L101f91io001110_2_raw n SS m1 plan0 left1 i8 v23 v24 u0 u4 u1 u2 u3)).trans ?_
  unfold DL101f91io001110_2
  (try simp only [S56_D n hn, S91io00111_D n hn]) <;> first | with_reducible rfl | rfl
noncomputable def DF101f91io001110_1 (n : Nat × Nat) (SS : List Int → List Int → List Int → Int → List Int → Int → Int → Option R101f91io001110) (f1 : List Int → List Int → Int → Int → Int → List Int → Int → Int → List Int → Int → Option R101f91io001110) (plan0 : List Int) (left1 : List Int) (i8 : Int) (v23 : Int) (v24 : Int) (u0 : List Int) (u4 : Int) (u1 : Int) (u2 : List Int) (u3 : Int) : Option R101f91io001110 :=
 (bif decide (v24 < v23) then (D56 n left1).bind fun r2' =>
 (bif (v24 == (left1.length : Int)) then (bif decide (r2'.length + [u4].length ≤ lim) then (bif inB v24 (r2' ++ [u4]).length then (idx (r2' ++ [u4]) v24).bind fun x3' =>
 (idx u0 i8).bind fun x4' =>
 (bif inB v24 (r2' ++ [u4]).length then (idx (r2' ++ [u4]) v24).bind fun x5' =>
 (bif inB v24 ((r2' ++ [u4]).set (Int.toNat v24) (wr .i64 (x3' - x4'))).length then (idx ((r2' ++ [u4]).set (Int.toNat v24) (wr .i64 (x3' - x4'))) v24).bind fun x6' =>
 (bif decide (x6' ≥ 0) then (bif (i8 == i8) && bounds none (some i8) (some i8) plan0.length then (bif decide ((plan0.take (Int.toNat i8)).length + [v24].length ≤ lim) && ((plan0.take (Int.toNat i8)).isEmpty || ![v24].isEmpty) then (SS ((plan0.take (Int.toNat i8)) ++ [v24]) ((r2' ++ [u4]).set (Int.toNat v24) (wr .i64 (x3' - x4'))) u0 u1 u2 u3 u4).bind fun r7' =>
                      DL101f91io001110_2 n SS f1 plan0 left1 i8 v23 v24 r7'.2.1 r7'.2.2.2.2.2.1 r7'.2.2.1 r7'.2.2.2.1 r7'.2.2.2.2.1
 else none)
 else none)
 else DL101f91io001110_2 n SS f1 plan0 left1 i8 v23 v24 u0 u4 u1 u2 u3)
 else none)
 else none)
 else none)
 else none)
 else (bif inB v24 r2'.length then (idx r2' v24).bind fun x8' =>
 (idx u0 i8).bind fun x9' =>
 (bif inB v24 r2'.length then (idx r2' v24).bind fun x10' =>
 (bif inB v24 (r2'.set (Int.toNat v24) (wr .i64 (x8' - x9'))).length then (idx (r2'.set (Int.toNat v24) (wr .i64 (x8' - x9'))) v24).bind fun x11' =>
 (bif decide (x11' ≥ 0) then (bif (i8 == i8) && bounds none (some i8) (some i8) plan0.length then (bif decide ((plan0.take (Int.toNat i8)).length + [v24].length ≤ lim) && ((plan0.take (Int.toNat i8)).isEmpty || ![v24].isEmpty) then (SS ((plan0.take (Int.toNat i8)) ++ [v24]) (r2'.set (Int.toNat v24) (wr .i64 (x8' - x9'))) u0 u1 u2 u3 u4).bind fun r12' =>
                    DL101f91io001110_2 n SS f1 plan0 left1 i8 v23 v24 r12'.2.1 r12'.2.2.2.2.2.1 r12'.2.2.1 r12'.2.2.2.1 r12'.2.2.2.2.1
 else none)
 else none)
 else DL101f91io001110_2 n SS f1 plan0 left1 i8 v23 v24 u0 u4 u1 u2 u3)
 else none)
 else none)
 else none))
 else some ((), u0, u1, u2, u3, u4, ()))
noncomputable def DL101f91io001110_1 (n : Nat × Nat) (SS : List Int → List Int → List Int → Int → List Int → Int → Int → Option R101f91io001110) (m : Nat) : List Int → List Int → Int → Int → Int → List Int → Int → Int → List Int → Int → Option R101f91io001110 := Nat.rec (motive := fun _ => List Int → List Int → Int → Int → Int → List Int → Int → Int → List Int → Int → Option R101f91io001110) (fun _ _ _ _ _ _ _ _ _ _ => none) (fun _ ih => DF101f91io001110_1 n SS ih) m
theorem DL101f91io001110_1_succ (n : Nat × Nat) (SS : List Int → List Int → List Int → Int → List Int → Int → Int → Option R101f91io001110) (m : Nat) : DL101f91io001110_1 n SS (m + 1) = DF101f91io001110_1 n SS (DL101f91io001110_1 n SS m) := rfl
theorem DL101f91io001110_1_eq (n : Nat × Nat) (hn : n.2 = 1) (SS : List Int → List Int → List Int → Int → List Int → Int → Int → Option R101f91io001110) : ∀ m, L101f91io001110_1 n SS m = DL101f91io001110_1 n SS m
  | 0 => by funext plan0 left1 i8 v23 v24 u0 u4 u1 u2 u3; kernel_rfl
  | m + 1 => by
    have ih := DL101f91io001110_1_eq n hn SS m
    funext plan0 left1 i8 v23 v24 u0 u4 u1 u2 u3; refine (L101f91io001110_1_eq n SS m plan0 left1 i8 v23 v24 u0 u4 u1 u2 u3).trans ?_
    rw [DL101f91io001110_1_succ]
    unfold DF101f91io001110_1
    (try simp only [ih, DL101f91io001110_2_eq n hn SS, S56_D n hn, S91io00111_D n hn]) <;> first | with_reducible rfl | rfl
noncomputable def DB101f91io001110 (n : Nat × Nat) (SS : List Int → List Int → List Int → Int → List Int → Int → Int → Option R101f91io001110) (plan0 : List Int) (left1 : List Int) (v2 : List Int) (cp_3_0 : Int) (cp_3_1 : List Int) (cp_3_2 : Int) (v4 : Int) : Option R101f91io001110 :=
 (bif ((plan0.length : Int) == (v2.length : Int)) then (D91io00111 n plan0 left1 cp_3_0 cp_3_1 cp_3_2).bind fun r1' =>
 some ((), v2, r1'.2.1, r1'.2.2.1, r1'.2.2.2.1, v4, ())
 else DL101f91io001110_1 n SS n.1 plan0 left1 (plan0.length : Int) (wr .i64 ((left1.length : Int) + 1)) 0 v2 v4 cp_3_0 cp_3_1 cp_3_2)
theorem DB101f91io001110_eq (n : Nat × Nat) (hn : n.2 = 1) (SS : List Int → List Int → List Int → Int → List Int → Int → Int → Option R101f91io001110) : B101f91io001110 n SS = DB101f91io001110 n SS := by
  funext plan0 left1 v2 cp_3_0 cp_3_1 cp_3_2 v4; refine (B101f91io001110_eq n SS plan0 left1 v2 cp_3_0 cp_3_1 cp_3_2 v4).trans ?_
  unfold DB101f91io001110
  (try simp only [DL101f91io001110_2_eq n hn SS, DL101f91io001110_1_eq n hn SS, S56_D n hn, S91io00111_D n hn]) <;> first | with_reducible rfl | rfl
noncomputable def DT101f91io001110 (n : Nat × Nat) (d : Nat) : List Int → List Int → List Int → Int → List Int → Int → Int → Option R101f91io001110 := Nat.rec (motive := fun _ => List Int → List Int → List Int → Int → List Int → Int → Int → Option R101f91io001110) (fun _ _ _ _ _ _ _ => none) (fun _ ih => DB101f91io001110 n ih) d
theorem DT101f91io001110_succ (n : Nat × Nat) (d : Nat) : DT101f91io001110 n (d + 1) = DB101f91io001110 n (DT101f91io001110 n d) := rfl
theorem DT101f91io001110_eq (n : Nat × Nat) (hn : n.2 = 1) : ∀ d, T101f91io001110 n d = DT101f91io001110 n d
  | 0 => rfl
  | d + 1 => by
    funext plan0 left1 v2 cp_3_0 cp_3_1 cp_3_2 v4
    rw [T101f91io001110_eq, DT101f91io001110_eq n hn d, DB101f91io001110_eq n hn, DT101f91io001110_succ]
noncomputable def D101f91io001110 (n : Nat × Nat) (plan0 : List Int) (left1 : List Int) (v2 : List Int) (cp_3_0 : Int) (cp_3_1 : List Int) (cp_3_2 : Int) (v4 : Int) : Option R101f91io001110 := DT101f91io001110 n n.1 plan0 left1 v2 cp_3_0 cp_3_1 cp_3_2 v4
theorem S101f91io001110_D (n : Nat × Nat) (hn : n.2 = 1) : S101f91io001110 n = D101f91io001110 n := by
  funext plan0 left1 v2 cp_3_0 cp_3_1 cp_3_2 v4; unfold S101f91io001110 D101f91io001110; rw [DT101f91io001110_eq n hn]
/-D 90c91io001 -/
noncomputable def D90c91io001 (n : Nat × Nat) (size0 : Int) (pieces1 : List Int) (cp_2_0 : Int) (cp_2_1 : List Int) (cp_2_2 : Int) : Option R90c91io001 :=
 (D101f91io001110 n [] [] pieces1 cp_2_0 cp_2_1 cp_2_2 size0).bind fun r1' =>
 some ((), r1'.2.2.1, r1'.2.2.2.1, r1'.2.2.2.2.1, ())
theorem S90c91io001_D (n : Nat × Nat) (hn : n.2 = 1) : S90c91io001 n = D90c91io001 n := by
  funext size0 pieces1 cp_2_0 cp_2_1 cp_2_2; refine (S90c91io001_eq n size0 pieces1 cp_2_0 cp_2_1 cp_2_2).trans ?_
  unfold D90c91io001
  (try simp only [S101f91io001110_D n hn]) <;> first | with_reducible rfl | rfl
/-D 52 -/
noncomputable def D52 (n : Nat × Nat) (size0 : Int) (pieces1 : List Int) : Option R52 :=
 (D90c91io001 n size0 pieces1 (wr .i64 ((pieces1.length : Int) + 1)) [] 0).bind fun r1' =>
 some (r1'.2.2.1, r1'.2.1, r1'.2.2.2.1)
theorem S52_D (n : Nat × Nat) (hn : n.2 = 1) : S52 n = D52 n := by
  funext size0 pieces1; refine (S52_eq n size0 pieces1).trans ?_
  unfold D52
  (try simp only [S90c91io001_D n hn]) <;> first | with_reducible rfl | rfl
/-D 53 -/
noncomputable def DF53_2 (n : Nat × Nat) (f1 : Int → List Int → List Int → Int → Int → Option R53) (f2 : Int → List Int → Int → List Int → Int → Int → Int → Int → List Int → Option R53) (size0 : Int) (pieces1 : List Int) (p6 : Int) (v9 : List Int) (v10 : Int) (v11 : Int) (v20 : Int) (v21 : Int) (v19 : List Int) : Option R53 :=
 (bif decide (v21 < v20) then (bif inB v21 v19.length then (idx v19 v21).bind fun x3' =>
 (bif x3' == 0 then none
 else ((bif (((Int.tmod p6 x3') != 0) == true) then (bif p6 == 0 then none
 else some ((Int.tmod x3' p6) != 0))
 else some false)).bind fun b4' =>
 (bif b4' then some false
 else f2 size0 pieces1 p6 v9 v10 v11 v20 (wr .i64 (v21 + 1)) v19))
 else none)
 else f1 size0 pieces1 v9 v10 (wr .i64 (v11 + 1)))
noncomputable def DL53_2 (n : Nat × Nat) (f1 : Int → List Int → List Int → Int → Int → Option R53) (m : Nat) : Int → List Int → Int → List Int → Int → Int → Int → Int → List Int → Option R53 := Nat.rec (motive := fun _ => Int → List Int → Int → List Int → Int → Int → Int → Int → List Int → Option R53) (fun _ _ _ _ _ _ _ _ _ => none) (fun _ ih => DF53_2 n f1 ih) m
theorem DL53_2_succ (n : Nat × Nat) (f1 : Int → List Int → List Int → Int → Int → Option R53) (m : Nat) : DL53_2 n f1 (m + 1) = DF53_2 n f1 (DL53_2 n f1 m) := rfl
theorem DL53_2_eq (n : Nat × Nat) (hn : n.2 = 1) (m1 : Nat) : ∀ m, L53_2 n m1 m = DL53_2 n (L53_1 n m1) m
  | 0 => by funext size0 pieces1 p6 v9 v10 v11 v20 v21 v19; kernel_rfl
  | m + 1 => by
    have ih := DL53_2_eq n hn m1 m
    funext size0 pieces1 p6 v9 v10 v11 v20 v21 v19; refine (L53_2_eq n m1 m size0 pieces1 p6 v9 v10 v11 v20 v21 v19).trans ?_
    rw [DL53_2_succ]
    unfold DF53_2
    (try simp only [ih, S56_D n hn]) <;> first | with_reducible rfl | rfl
noncomputable def DF53_1 (n : Nat × Nat) (f1 : Int → List Int → List Int → Int → Int → Option R53) (size0 : Int) (pieces1 : List Int) (v9 : List Int) (v10 : Int) (v11 : Int) : Option R53 :=
 (bif decide (v11 < v10) then (idx v9 v11).bind fun x1' =>
 (D56 n pieces1).bind fun r2' =>
 (bif decide (r2'.length + [size0].length ≤ lim) then DL53_2 n f1 n.1 size0 pieces1 x1' v9 v10 v11 ((r2' ++ [size0]).length : Int) 0 (r2' ++ [size0])
 else none)
 else some true)
noncomputable def DL53_1 (n : Nat × Nat) (m : Nat) : Int → List Int → List Int → Int → Int → Option R53 := Nat.rec (motive := fun _ => Int → List Int → List Int → Int → Int → Option R53) (fun _ _ _ _ _ => none) (fun _ ih => DF53_1 n ih) m
theorem DL53_1_succ (n : Nat × Nat) (m : Nat) : DL53_1 n (m + 1) = DF53_1 n (DL53_1 n m) := rfl
theorem DL53_1_eq (n : Nat × Nat) (hn : n.2 = 1) : ∀ m, L53_1 n m = DL53_1 n m
  | 0 => by funext size0 pieces1 v9 v10 v11; kernel_rfl
  | m + 1 => by
    have ih := DL53_1_eq n hn m
    funext size0 pieces1 v9 v10 v11; refine (L53_1_eq n m size0 pieces1 v9 v10 v11).trans ?_
    rw [DL53_1_succ]
    unfold DF53_1
    (try simp only [ih, DL53_2_eq n hn, S56_D n hn]) <;> first | with_reducible rfl | rfl
noncomputable def D53 (n : Nat × Nat) (size0 : Int) (pieces1 : List Int) : Option R53 :=
    DL53_1 n n.1 size0 pieces1 pieces1 (pieces1.length : Int) 0
theorem S53_D (n : Nat × Nat) (hn : n.2 = 1) : S53 n = D53 n := by
  funext size0 pieces1; refine (S53_eq n size0 pieces1).trans ?_
  unfold D53
  (try simp only [DL53_2_eq n hn, DL53_1_eq n hn, S56_D n hn]) <;> first | with_reducible rfl | rfl
/-D 8 -/
noncomputable def D8 (n : Nat × Nat) (s0 : Int × Int × Int × Int × Int × Int × Int × Int × Int × Int × Int) : Option R8 :=
 (D48 n s0 7).bind fun r1' =>
 (D52 n r1'.1 r1'.2).bind fun r2' =>
 (D34 n r1'.1 r1'.2).bind fun r3' =>
 (D36 n r1'.1 r1'.2).bind fun r4' =>
 (D38 n r1'.1 r1'.2).bind fun r5' =>
 (D40 n r1'.1 r1'.2).bind fun r6' =>
 (D26 n r1'.1 r1'.2).bind fun r7' =>
 ((bif ((r7' == 0) == true) then some (r3'.2 == 0)
 else some false)).bind fun b8' =>
 ((bif (b8' == true) then some (r4'.2 == 0)
 else some false)).bind fun b9' =>
 ((bif (b9' == true) then some (r5'.2 == 0)
 else some false)).bind fun b10' =>
 ((bif (b10' == true) then some (r6'.2 == 0)
 else some false)).bind fun b11' =>
 ((bif (b11' == true) then some (r3'.1 == r2'.2.1)
 else some false)).bind fun b12' =>
 ((bif (b12' == true) then (D24 n r4'.1 r2'.1).bind fun r13' =>
 some r13'
 else some false)).bind fun b14' =>
 ((bif (b14' == true) then some (r5'.1 == r2'.2.2)
 else some false)).bind fun b15' =>
 ((bif (b15' == true) then (D53 n r1'.1 r1'.2).bind fun r16' =>
 some (r6'.1 == r16')
 else some false)).bind fun b17' =>
 ((bif (b17' == true) then (D17 n).bind fun r18' =>
 some r18'
 else some false)).bind fun b19' =>
 some b19'
theorem S8_D (n : Nat × Nat) (hn : n.2 = 1) : S8 n = D8 n := by
  funext s0; refine (S8_eq n s0).trans ?_
  unfold D8
  (try simp only [S17_D n hn, S24_D n hn, S26_D n hn, S34_D n hn, S36_D n hn, S38_D n hn, S40_D n hn, S48_D n hn, S52_D n hn, S53_D n hn]) <;> first | with_reducible rfl | rfl
/-D 13 -/
end Go.Proofs.YtgmonagekfjnmaaDoor
set_option linter.unusedVariables false
set_option linter.unusedSimpArgs false
namespace Go.Proofs.YtgmonagekfjnmaaDoor
open Go.Vi
abbrev N : Nat × Nat := (1000000, 1)
theorem works_eq : D17 N = some true := by kernel_rfl
end Go.Proofs.YtgmonagekfjnmaaDoor
set_option linter.unusedVariables false
set_option linter.unusedSimpArgs false
set_option maxRecDepth 100000
namespace Go.Proofs.YtgmonagekfjnmaaDoor
open Go.Vi
noncomputable def c3 : Code := bodyOf Tryd.f3
/-D 16 -/
/-D 72 -/
/-D 27 -/
/-D 67 -/
/-D 68 -/
/-D 29 -/
/-D 19 -/
/-D 21 -/
/-D 73 -/
/-D 74 -/
/-D 23 -/
/-D 3 -/
end Go.Proofs.YtgmonagekfjnmaaDoor
set_option linter.unusedVariables false
set_option linter.unusedSimpArgs false
namespace Go.Proofs.YtgmonagekfjnmaaDoor
open Go.Vi
theorem hN1 : 1000 ≤ N.1 := by decide
theorem wr_ok {x : Int} (h1 : -9223372036854775808 ≤ x) (h2 : x ≤ 9223372036854775807) : wr .i64 x = x := by
  have : wr .i64 x = (x + 9223372036854775808) % 18446744073709551616 - 9223372036854775808 := by
    simp only [wr, IntKind.wrap, IntKind.signed, IntKind.bits]
    simp
    split <;> omega
  rw [this]
  omega
theorem wr_succ {k : Nat} (h : k < 1000000) : wr .i64 ((k : Int) + 1) = ((k + 1 : Nat) : Int) := by
  rw [wr_ok (by omega) (by omega)]; omega
theorem idx_nat {α : Type} {l : List α} {k : Nat} (h : k < l.length) : idx l (k : Int) = some l[k] := by
  unfold idx
  rw [if_pos (by omega), Int.toNat_natCast, List.getElem?_eq_getElem h]
theorem idx_int {α : Type} {l : List α} {k : Nat} {i : Int} (hi : i = k) (h : k < l.length) : idx l i = some l[k] := by
  subst hi
  exact idx_nat h
theorem drop_cons {α : Type} {l : List α} {k : Nat} (h : k < l.length) : l.drop k = l[k] :: l.drop (k + 1) := List.drop_eq_getElem_cons h
theorem inB_nat {k n : Nat} (h : k < n) : inB (k : Int) n = true := by
  unfold inB
  simp [h]
theorem lim_dec {α : Type} {a : Nat} {x : α} (h : a < 1000000) : decide (a + [x].length ≤ lim) = true := decide_eq_true (by simp [lim]; omega)
theorem dlt_t {a b : Nat} (h : a < b) : decide ((a : Int) < (b : Int)) = true := decide_eq_true (by omega)
theorem dlt_f {a b : Nat} (h : ¬ a < b) : decide ((a : Int) < (b : Int)) = false := decide_eq_false (by omega)
theorem take_snoc {α : Type} {l : List α} {k : Nat} (h : k < l.length) : l.take (k + 1) = l.take k ++ [l[k]] := (List.take_append_getElem h).symm
/-- Two lists are the same. -/
theorem same_loop (n : Nat × Nat) (a b : List Int) (hl : a.length = b.length) (hs : a.length < 1000) : ∀ (m k : Nat), k ≤ a.length → a.length - k < m → DL24_1 n m a b (k : Int) = some (decide (a.drop k = b.drop k))
  | 0, k, _, h => by omega
  | m + 1, k, hk, h => by
    rw [DL24_1_succ]
    unfold DF24_1
    by_cases hlt : k < a.length
    · have ih := same_loop n a b hl hs m (k + 1) (by omega) (by omega)
      rw [dlt_t hlt, cond_true, idx_nat hlt, idx_nat (by omega : k < b.length), wr_succ (by omega), ih, drop_cons hlt, drop_cons (by omega : k < b.length)]
      simp only [Option.bind_some, List.cons.injEq]
      by_cases e : a[k] = b[k]
      · simp [e]
      · rw [show (a[k] != b[k]) = true by simpa using e, cond_true]; simp [e]
    · rw [dlt_f hlt, cond_false, List.drop_of_length_le (by omega), List.drop_of_length_le (by omega)]
      simp
theorem same_eq {n : Nat × Nat} (hn : 1000 ≤ n.1) {a b : List Int} (hs : a.length < 900) : D24 n a b = some (decide (a = b)) := by
  unfold D24
  by_cases hl : a.length = b.length
  · rw [show (((a.length : Int)) != (b.length : Int)) = false by simp [hl], cond_false]
    have := same_loop n a b hl (by omega) n.1 0 (by omega) (by omega)
    simpa using this
  · rw [show (((a.length : Int)) != (b.length : Int)) = true by simpa using (by omega : (a.length : Int) ≠ b.length), cond_true]
    rw [decide_eq_false (fun e => hl (by rw [e]))]
/-- The first place at which something holds, or -1. -/
def fnd (q : Int → Bool) : Nat → List Int → Int
  | _, [] => -1
  | k, x :: l => if q x then (k : Int) else fnd q (k + 1) l
theorem fnd_bnd (q : Int → Bool) : ∀ (l : List Int) (k : Nat), fnd q k l = -1 ∧ (∀ x ∈ l, q x = false) ∨ (k ≤ fnd q k l ∧ fnd q k l < k + l.length ∧ ∃ x ∈ l, q x = true)
  | [], k => by simp [fnd]
  | x :: l, k => by
    unfold fnd
    by_cases h : q x = true
    · rw [if_pos h]
      exact .inr ⟨by omega, by simp; omega, x, by simp, h⟩
    · rw [if_neg h]
      rcases fnd_bnd q l (k + 1) with ⟨h1, h2⟩ | ⟨h1, h2, y, hy, hq⟩
      · exact .inl ⟨h1, fun y hy => (List.mem_cons.1 hy).elim (fun e => by rw [e]; simpa using h) (fun hy => h2 y hy)⟩
      · exact .inr ⟨by omega, by simp; omega, y, by simp [hy], hq⟩
theorem fnd_ge (q : Int → Bool) (l : List Int) (k : Nat) : (0 ≤ fnd q k l) ↔ ∃ x ∈ l, q x = true := by
  rcases fnd_bnd q l k with ⟨h1, h2⟩ | ⟨h1, h2, h3⟩
  · constructor
    · intro h; omega
    · rintro ⟨x, hx, hq⟩; rw [h2 x hx] at hq; cases hq
  · exact ⟨fun _ => h3, fun _ => by omega⟩
/-- A job's error. -/
def BadP (sz p : Int) : Prop := p < 1 ∨ sz < p
instance (sz p : Int) : Decidable (BadP sz p) := inferInstanceAs (Decidable (_ ∨ _))
def chk (sz : Int) (ps : List Int) : Int := if sz < 1 ∨ 24 < sz then 1 else if 8 < ps.length then 3 else if ∃ p ∈ ps, BadP sz p then 1 else 0
structure Job (sz : Int) (ps : List Int) : Prop where
  lo : 1 ≤ sz
  hi : sz ≤ 24
  len : ps.length ≤ 8
  ok : ∀ p ∈ ps, 1 ≤ p ∧ p ≤ sz
theorem chk_job {sz : Int} {ps : List Int} : chk sz ps = 0 ↔ Job sz ps := by
  unfold chk
  constructor
  · intro h
    split at h
    · omega
    · split at h
      · omega
      · split at h
        · omega
        · rename_i h1 h2 h3
          refine ⟨by omega, by omega, by omega, fun p hp => ?_⟩
          have : ¬ BadP sz p := fun hb => h3 ⟨p, hp, hb⟩
          unfold BadP at this
          omega
  · intro h
    have := h.lo
    have := h.hi
    have := h.len
    rw [if_neg (by omega), if_neg (by omega), if_neg]
    rintro ⟨p, hp, hb⟩
    have := h.ok p hp
    unfold BadP at hb
    omega
theorem bad_eq (n : Nat × Nat) (p sz : Int) : D76 n p sz = some (decide (BadP sz p)) := by
  unfold D76 BadP
  by_cases h : p < 1
  · rw [decide_eq_true h]; simp [h]
  · rw [decide_eq_false h]; simp [h]
theorem idxf_loop (n : Nat × Nat) (l : List Int) (sz : Int) (hs : l.length < 100000) : ∀ (m k : Nat), k ≤ l.length → l.length - k < m → DL79c76_1 n m l sz (l.length : Int) (k : Int) = some (fnd (fun p => decide (BadP sz p)) k (l.drop k))
  | 0, k, _, h => by omega
  | m + 1, k, hk, h => by
    rw [DL79c76_1_succ]
    unfold DF79c76_1
    by_cases hlt : k < l.length
    · have ih := idxf_loop n l sz hs m (k + 1) (by omega) (by omega)
      rw [dlt_t hlt, cond_true, idx_nat hlt, Option.bind_some, bad_eq, Option.bind_some, wr_succ (by omega), ih, drop_cons hlt]
      generalize l.drop (k + 1) = t at *
      generalize l[k] = x at *
      unfold fnd
      by_cases e : BadP sz x
      · simp [e]
      · simp only [e, decide_false, cond_false, Bool.false_eq_true, if_false]
        cases t <;> rfl
    · rw [dlt_f hlt, cond_false, List.drop_of_length_le (by omega)]
      rfl
theorem anyb_eq {n : Nat × Nat} (l : List Int) (sz : Int) (hs : l.length < n.1) (hs2 : l.length < 100000) : D75c76 n l sz = some (decide (∃ p ∈ l, BadP sz p)) := by
  unfold D75c76 D79c76
  have := idxf_loop n l sz hs2 n.1 0 (by omega) (by omega)
  rw [show ((0 : Nat) : Int) = 0 from rfl, List.drop_zero] at this
  rw [this, Option.bind_some]
  congr 1
  apply decide_eq_decide.2
  have := fnd_ge (fun p => decide (BadP sz p)) l 0
  simp only [decide_eq_true_eq] at this
  exact this
theorem Check_eq {n : Nat × Nat} (hn : 1000 ≤ n.1) (sz : Int) (ps : List Int) : D26 n sz ps = some (chk sz ps) := by
  unfold D26 chk
  by_cases h1 : sz < 1
  · rw [decide_eq_true h1, if_pos (.inl h1)]; rfl
  · rw [decide_eq_false h1]
    by_cases h2 : 24 < sz
    · rw [if_pos (.inr h2), decide_eq_true (show sz > 24 from h2)]; rfl
    · rw [if_neg (by omega), decide_eq_false (show ¬ sz > 24 from h2)]
      simp only [beq_self_eq_true, cond_true, Option.bind_some, cond_false]
      by_cases h3 : 8 < ps.length
      · rw [if_pos h3, decide_eq_true (show (ps.length : Int) > 8 by omega), cond_true]
      · rw [if_neg h3, decide_eq_false (show ¬ (ps.length : Int) > 8 by omega), cond_false, anyb_eq ps sz (by omega) (by omega), Option.bind_some]
        by_cases h4 : ∃ p ∈ ps, BadP sz p
        · rw [if_pos h4, decide_eq_true h4, cond_true]
        · rw [if_neg h4, decide_eq_false h4, cond_false]
/-- How many sheets a plan has. -/
def mny (l : List Int) : Int := l.foldl (fun a s => max a (s + 1)) 0
/-- How much of a sheet is used. -/
def usd : List Int → List Int → Int → Int
  | p :: ps, x :: l, s => (if x = s then p else 0) + usd ps l s
  | _, _, _ => 0
theorem fold_mny : ∀ (l : List Int) (a : Int), a ≤ l.foldl (fun a s => max a (s + 1)) a ∧ (∀ x ∈ l, x < l.foldl (fun a s => max a (s + 1)) a)
  | [], a => by simp
  | x :: l, a => by
    rw [List.foldl_cons]
    obtain ⟨h1, h2⟩ := fold_mny l (max a (x + 1))
    refine ⟨by omega, fun y hy => ?_⟩
    rcases List.mem_cons.1 hy with rfl | hy
    · omega
    · exact h2 y hy
theorem mny_nn (l : List Int) : 0 ≤ mny l := (fold_mny l 0).1
theorem mny_lt {l : List Int} {x : Int} (h : x ∈ l) : x < mny l := (fold_mny l 0).2 x h
theorem mny_snoc (l : List Int) (x : Int) : mny (l ++ [x]) = max (mny l) (x + 1) := by simp [mny, List.foldl_append]
theorem usd_snoc (s x p : Int) : ∀ {ps l : List Int}, ps.length = l.length → usd (ps ++ [p]) (l ++ [x]) s = usd ps l s + if x = s then p else 0
  | [], [], _ => by simp [usd]
  | q :: ps, y :: l, h => by
    simp only [List.cons_append, usd]
    rw [usd_snoc s x p (by simpa using h)]
    omega
  | [], _ :: _, h => by simp at h
  | _ :: _, [], h => by simp at h
theorem usd_none {s : Int} : ∀ {ps l : List Int}, s ∉ l → usd ps l s = 0
  | [], [], _ => rfl
  | [], _ :: _, _ => rfl
  | _ :: _, [], _ => rfl
  | q :: ps, y :: l, h => by
    simp only [List.mem_cons, not_or] at h
    simp only [usd, if_neg (fun e => h.1 (Eq.symm e)), usd_none h.2]
    omega
/-- The error of sheets' order. -/
def oer : Int → List Int → Int
  | _, [] => 0
  | m, x :: l => if x < 0 then 2 else if m < x then 7 else oer (max m (x + 1)) l
/-- What is left of each sheet. -/
def lf (sz : Int) (ps l : List Int) : List Int := (List.range (mny l).toNat).map fun s : Nat => sz - usd ps l (s : Int)
theorem lf_len (sz : Int) (ps l : List Int) : ((lf sz ps l).length : Int) = mny l := by
  have := mny_nn l
  simp [lf]
  omega
theorem lf_get {sz : Int} {ps l : List Int} {s : Nat} (h : s < (lf sz ps l).length) : (lf sz ps l)[s] = sz - usd ps l (s : Int) := by simp [lf]
theorem lf_step (sz p x : Int) {ps l : List Int} (hl : ps.length = l.length) (h0 : 0 ≤ x) (h1 : x ≤ mny l) :
    lf sz (ps ++ [p]) (l ++ [x]) = (if x = mny l then lf sz ps l ++ [sz] else lf sz ps l).set x.toNat (sz - usd ps l x - p) := by
  have hm := mny_nn l
  have hll := lf_len sz ps l
  apply List.ext_getElem
  · have := lf_len sz (ps ++ [p]) (l ++ [x])
    rw [mny_snoc] at this
    rw [List.length_set]
    split
    · simp only [List.length_append, List.length_cons, List.length_nil]; omega
    · omega
  · intro s h2 h3
    rw [lf_get h2, usd_snoc _ _ _ hl, List.getElem_set]
    by_cases e : x.toNat = s
    · rw [if_pos e, if_pos (show x = (s : Int) by omega), show (s : Int) = x by omega]
      omega
    · rw [if_neg e, if_neg (show ¬ x = (s : Int) by omega)]
      rw [List.length_set] at h3
      split at h3
      · rename_i hx
        simp only [List.length_append, List.length_cons, List.length_nil] at h3
        have h4 : s < (lf sz ps l).length := by omega
        simp only [if_pos hx]
        rw [List.getElem_append_left h4, lf_get h4]
        omega
      · rename_i hx
        simp only [if_neg hx]
        rw [lf_get h3]
        omega
theorem bounds_hi {k n : Nat} (h : k ≤ n) : bounds none (some (k : Int)) none n = true := by
  unfold bounds
  simp
  omega
/-- A plan that is one. -/
structure Pln (sz : Int) (ps l : List Int) : Prop where
  job : Job sz ps
  len : l.length = ps.length
  ord : oer 0 l = 0
  fit : ∀ x ∈ l, usd ps l x ≤ sz
theorem oer_bnd : ∀ (l : List Int) (m : Int), 0 ≤ m → oer m l = 0 → (∀ x ∈ l, 0 ≤ x ∧ x < m + l.length) ∧ l.foldl (fun a s => max a (s + 1)) m ≤ m + l.length
  | [], m, _, _ => by simp
  | x :: l, m, hm, h => by
    unfold oer at h
    split at h
    · omega
    · split at h
      · omega
      · obtain ⟨h1, h2⟩ := oer_bnd l _ (by omega) h
        rw [List.foldl_cons, List.length_cons]
        refine ⟨fun y hy => ?_, by omega⟩
        rcases List.mem_cons.1 hy with rfl | hy
        · omega
        · have := h1 y hy
          omega
theorem Pln.rng {sz : Int} {ps l : List Int} (h : Pln sz ps l) : ∀ x ∈ l, 0 ≤ x ∧ x ≤ 100000 := fun x hx => by
  have := (oer_bnd l 0 (by omega) h.ord).1 x hx
  have := h.job.len
  have := h.len
  omega
theorem Pln.mny {sz : Int} {ps l : List Int} (h : Pln sz ps l) : mny l ≤ 8 := by
  have h1 := (oer_bnd l 0 (by omega) h.ord).2
  have := h.job.len
  have := h.len
  unfold Proofs.YtgmonagekfjnmaaDoor.mny
  omega
/-- The groups' numbers, put where their pieces are: an error, or none, and what there is. -/
def pin (g : Int) : List Int → List Int → Int × List Int
  | [], out => (0, out)
  | x :: r, out => if x < 0 ∨ (out.length : Int) ≤ x then (2, out) else if 0 ≤ out.getD x.toNat 0 then (6, out) else pin g r (out.set x.toNat g)
theorem rep_eq : ∀ k ≤ 8, D69 N [-1] ((k : Nat) : Int) = some (List.replicate k (-1))
  | 0, _ => by kernel_rfl
  | 1, _ => by kernel_rfl
  | 2, _ => by kernel_rfl
  | 3, _ => by kernel_rfl
  | 4, _ => by kernel_rfl
  | 5, _ => by kernel_rfl
  | 6, _ => by kernel_rfl
  | 7, _ => by kernel_rfl
  | 8, _ => by kernel_rfl
  | k + 9, h => by omega
end Go.Proofs.YtgmonagekfjnmaaDoor
/-
  Sheets: the search, for any function that is handed plans.
-/
set_option linter.unusedVariables false
set_option linter.unusedSimpArgs false
namespace Go.Proofs.YtgmonagekfjnmaaDoor
open Go.Vi
/-! All plans with at most so many sheets that begin with some numbers, in ascending order. -/
def rm (sz : Int) (L : List Int) (s : Nat) : Int := L.getD s sz
def up (sz : Int) (L : List Int) (s : Nat) (p : Int) : List Int := (if s = L.length then L ++ [sz] else L).set s (rm sz L s - p)
def pl (sz : Int) (mo : Nat) : List Int → List Int → List Int → List (List Int)
  | [], b, _ => [b]
  | p :: r, b, L => (List.range' 0 (min (L.length + 1) mo)).flatMap fun s => if p ≤ rm sz L s then pl sz mo r (b ++ [(s : Int)]) (up sz L s p) else []
/-- A function handed all plans, as long as it returns true. -/
def fv {V : Type} (c : List Int → V → Bool × V) : List (List Int) → V → Bool × V
  | [], v => (true, v)
  | q :: r, v => if (c q v).1 then fv c r (c q v).2 else (false, (c q v).2)
theorem fv_app {V : Type} (c : List Int → V → Bool × V) (b : List (List Int)) : ∀ (a : List (List Int)) (v : V), fv c (a ++ b) v = if (fv c a v).1 then fv c b (fv c a v).2 else (false, (fv c a v).2)
  | [], v => by simp [fv]
  | q :: r, v => by
    have e1 : ∀ l, fv c (q :: l) v = if (c q v).1 then fv c l (c q v).2 else (false, (c q v).2) := fun _ => rfl
    rw [List.cons_append, e1, e1]
    by_cases h : (c q v).1 = true
    · rw [if_pos h, if_pos h, fv_app c b r]
    · rw [if_neg h, if_neg h]; rfl
/-! The search's three places. -/
section
variable {V : Type}
abbrev SR (V : Type) := Unit × V × Unit
abbrev FN (V : Type) := Int → List Int → Int → Int → V → List Int → List Int → Option (SR V)
def lpF (b x f2 : FN V) : FN V := fun size0 pieces1 most2 i10 v plan8 left9 =>
    (bif inB i10 plan8.length then (idx plan8 i10).bind fun x21' =>
      (bif inB i10 plan8.length then (idx plan8 i10).bind fun x22' =>
        (bif inB i10 (plan8.set (Int.toNat i10) (wr .i64 (x21' + 1))).length then (idx (plan8.set (Int.toNat i10) (wr .i64 (x21' + 1))) i10).bind fun x23' =>
          ((bif (decide (x23' ≥ most2) == false) then ((bif (decide (x23' > 0) == true) then (bif inB (wr .i64 (x23' - 1)) left9.length then (idx left9 (wr .i64 (x23' - 1))).bind fun x24' =>
                    some (x24' == size0)
                  else none)
                else some false)).bind fun b25' =>
              some b25'
            else some true)).bind fun b26' =>
          (bif b26' then (bif inB i10 (plan8.set (Int.toNat i10) (wr .i64 (x21' + 1))).length then (idx (plan8.set (Int.toNat i10) (wr .i64 (x21' + 1))) i10).bind fun x27' =>
              b size0 pieces1 most2 i10 v ((plan8.set (Int.toNat i10) (wr .i64 (x21' + 1))).set (Int.toNat i10) (-1)) left9
            else none)
          else (bif inB x23' left9.length then (idx left9 x23').bind fun x28' =>
              (idx pieces1 i10).bind fun x29' =>
              (bif decide (x28' ≥ x29') then (bif inB x23' left9.length then (idx left9 x23').bind fun x30' =>
                  (idx pieces1 i10).bind fun x31' =>
                  (bif inB x23' left9.length then (idx left9 x23').bind fun x32' =>
                    x size0 pieces1 most2 (wr .i64 (i10 + 1)) v (plan8.set (Int.toNat i10) (wr .i64 (x21' + 1))) (left9.set (Int.toNat x23') (wr .i64 (x30' - x31')))
                  else none)
                else none)
              else f2 size0 pieces1 most2 i10 v (plan8.set (Int.toNat i10) (wr .i64 (x21' + 1))) left9)
            else none))
        else none)
      else none)
    else none)
def LP (b x : FN V) : Nat → FN V
  | 0 => fun _ _ _ _ _ _ _ => none
  | q + 1 => lpF b x (LP b x q)
def bkF (x : FN V) : FN V := fun size0 pieces1 most2 i10 v plan8 left9 =>
    (bif decide (wr .i64 (i10 - 1) < 0) then some ((), v, ())
    else (bif inB (wr .i64 (i10 - 1)) plan8.length then (idx plan8 (wr .i64 (i10 - 1))).bind fun x4' =>
        (bif inB x4' left9.length then (idx left9 x4').bind fun x5' =>
          (idx pieces1 (wr .i64 (i10 - 1))).bind fun x6' =>
          (bif inB x4' left9.length then (idx left9 x4').bind fun x7' =>
            x size0 pieces1 most2 (wr .i64 (i10 - 1)) v plan8 (left9.set (Int.toNat x4') (wr .i64 (x5' + x6')))
          else none)
        else none)
      else none))
def nxF (C : List Int → V → Option (Bool × List Int × V × Unit)) (q0 : Nat) (b x : FN V) : FN V := fun size0 pieces1 most2 i10 v plan8 left9 =>
    (bif (i10 == (pieces1.length : Int)) then (C plan8 v).bind fun r20' =>
      (bif Nat.beq r20'.2.1.length plan8.length then (bif (!r20'.1) then some ((), r20'.2.2.1, ())
        else b size0 pieces1 most2 i10 r20'.2.2.1 r20'.2.1 left9)
      else none)
    else LP b x q0 size0 pieces1 most2 i10 v plan8 left9)
def GB (C : List Int → V → Option (Bool × List Int × V × Unit)) (q0 : Nat) : Nat → FN V × FN V
  | 0 => ((fun _ _ _ _ _ _ _ => none), (fun _ _ _ _ _ _ _ => none))
  | m + 1 => (bkF (GB C q0 m).2, nxF C q0 (GB C q0 m).1 (GB C q0 m).2)
def srch (C : List Int → V → Option (Bool × List Int × V × Unit)) (q0 : Nat) (size0 : Int) (pieces1 : List Int) (most2 : Int) (cp : V) (r1' r2' : List Int) : Option (SR V) :=
    (bif (0 == (pieces1.length : Int)) then (C r1' cp).bind fun r3' =>
      (bif Nat.beq r3'.2.1.length r1'.length then (bif (!r3'.1) then some ((), r3'.2.2.1, ())
        else (GB C q0 q0).1 size0 pieces1 most2 0 r3'.2.2.1 r3'.2.1 r2')
      else none)
    else LP (GB C q0 q0).1 (GB C q0 q0).2 q0 size0 pieces1 most2 0 cp r1' r2')
theorem idx_app {α : Type} (b : List α) (t : α) (R : List α) : idx (b ++ t :: R) (b.length : Int) = some t := by
  rw [idx_nat (by simp)]
  simp
theorem set_app {α : Type} (b : List α) (t y : α) (R : List α) : (b ++ t :: R).set (Int.toNat (b.length : Int)) y = b ++ y :: R := by
  rw [Int.toNat_natCast]
  simp [List.set_append]
def fil (sz : Int) (mo : Nat) (L : List Int) : List Int := L ++ List.replicate (mo - L.length) sz
theorem fil_len {sz : Int} {mo : Nat} {L : List Int} (h : L.length ≤ mo) : (fil sz mo L).length = mo := by simp [fil]; omega
theorem fil_get {sz : Int} {mo : Nat} {L : List Int} {s : Nat} (hs : s < (fil sz mo L).length) : (fil sz mo L)[s] = rm sz L s := by
  unfold fil rm at *
  by_cases h : s < L.length
  · rw [List.getElem_append_left h, List.getD_eq_getElem?_getD, List.getElem?_eq_getElem h, Option.getD_some]
  · rw [List.getElem_append_right (by omega), List.getElem_replicate, List.getD_eq_getElem?_getD, List.getElem?_eq_none (by omega), Option.getD_none]
theorem fil_up {sz : Int} {mo : Nat} {L : List Int} {s : Nat} (p : Int) (h1 : s ≤ L.length) (h2 : s < mo) : (fil sz mo L).set s (rm sz L s - p) = fil sz mo (up sz L s p) := by
  unfold up
  generalize rm sz L s - p = y
  unfold fil
  by_cases h : s = L.length
  · rw [if_pos h]
    subst h
    obtain ⟨k, hk⟩ : ∃ k, mo - L.length = k + 1 := ⟨mo - L.length - 1, by omega⟩
    rw [hk, List.replicate_succ, List.set_append, if_neg (by omega), Nat.sub_self, List.set_cons_zero, List.set_append, if_neg (by omega), Nat.sub_self, List.set_cons_zero]
    simp only [List.length_append, List.length_cons, List.length_nil, List.append_assoc, List.singleton_append]
    rw [show mo - (L.length + (0 + 1)) = k by omega]
  · rw [if_neg h, List.set_append, if_pos (by omega), List.length_set]
theorem fil_back {sz : Int} {mo : Nat} {L : List Int} {s : Nat} (p : Int) (h1 : s ≤ L.length) (h2 : s < mo) (h3 : L.length ≤ mo) : (fil sz mo (up sz L s p)).set s (rm sz L s) = fil sz mo L := by
  rw [← fil_up p h1 h2, List.set_set]
  have hs : s < (fil sz mo L).length := by rw [fil_len h3]; exact h2
  rw [← fil_get hs]
  simp
theorem up_len {sz : Int} {L : List Int} {s : Nat} (p : Int) (h1 : s ≤ L.length) : (up sz L s p).length = max L.length (s + 1) := by
  unfold up
  rw [List.length_set]
  split
  · simp; omega
  · omega
theorem rm_get {sz : Int} {L : List Int} {s : Nat} (hs : s < L.length) : rm sz L s = L[s] := by unfold rm; rw [List.getD_eq_getElem?_getD, List.getElem?_eq_getElem hs, Option.getD_some]
theorem up_get {sz : Int} {L : List Int} {s i : Nat} (p : Int) (hi : i < (up sz L s p).length) : (up sz L s p)[i] = if s = i then rm sz L s - p else rm sz L i := by
  unfold up at hi ⊢
  rw [List.getElem_set]
  split
  · rfl
  · rename_i hne
    rw [List.length_set] at hi
    split
    · rename_i he
      simp only [if_pos he, List.length_append, List.length_cons, List.length_nil] at hi
      rw [List.getElem_append_left (by omega)]
      exact (rm_get _).symm
    · rename_i he
      simp only [if_neg he] at hi
      exact (rm_get _).symm
theorem rm_up {sz : Int} {L : List Int} {s : Nat} (p : Int) (h1 : s ≤ L.length) : rm sz (up sz L s p) s = rm sz L s - p := by
  have h := up_len (sz := sz) p h1
  have hs : s < (up sz L s p).length := by omega
  rw [rm_get hs, up_get p hs, if_pos rfl]
theorem up_mem {sz : Int} {L : List Int} {s : Nat} {p : Int} (h1 : s ≤ L.length) : ∀ x ∈ up sz L s p, x = rm sz L s - p ∨ x ∈ L := fun x hx => by
  obtain ⟨i, hi, e⟩ := List.getElem_of_mem hx
  have hl := up_len (sz := sz) p h1
  rw [up_get p hi] at e
  split at e
  · exact .inl e.symm
  · rename_i hne
    right
    rw [rm_get (by omega)] at e
    rw [← e]
    exact List.getElem_mem _
theorem rm_rng {sz : Int} {L : List Int} (hL : ∀ x ∈ L, 0 ≤ x ∧ x < sz) (h : 0 ≤ sz) (s : Nat) : 0 ≤ rm sz L s ∧ rm sz L s ≤ sz := by
  unfold rm
  by_cases hs : s < L.length
  · rw [List.getD_eq_getElem?_getD, List.getElem?_eq_getElem hs, Option.getD_some]
    have := hL _ (List.getElem_mem hs)
    omega
  · rw [List.getD_eq_getElem?_getD, List.getElem?_eq_none (by omega), Option.getD_none]
    omega
theorem up_rng {sz : Int} {L : List Int} {s : Nat} {p : Int} (hL : ∀ x ∈ L, 0 ≤ x ∧ x < sz) (h : 0 ≤ sz) (h1 : s ≤ L.length) (hp : 1 ≤ p) (hf : p ≤ rm sz L s) : ∀ x ∈ up sz L s p, 0 ≤ x ∧ x < sz := fun x hx => by
  have := rm_rng hL h s
  rcases up_mem h1 x hx with e | e
  · omega
  · exact hL x e
/-! The loop over the sheets for one piece. -/
structure SI (sz : Int) (mo : Nat) (ps : List Int) (b L : List Int) : Prop where
  job : Job sz ps
  le : b.length ≤ ps.length
  lm : L.length ≤ mo
  lb : L.length ≤ b.length
  rng : ∀ x ∈ L, 0 ≤ x ∧ x < sz
  mo : mo ≤ 1000
theorem SI.child {sz : Int} {mo : Nat} {ps b L : List Int} (h : SI sz mo ps b L) (hb : b.length < ps.length) {s : Nat} (h1 : s ≤ L.length) (h2 : s < mo) (hf : ps[b.length] ≤ rm sz L s) : SI sz mo ps (b ++ [(s : Int)]) (up sz L s ps[b.length]) := by
  have hl := up_len (sz := sz) ps[b.length] h1
  have := h.lm
  have := h.lb
  have := h.job.lo
  have hp := h.job.ok _ (List.getElem_mem hb)
  exact ⟨h.job, by simp; omega, by omega, by simp; omega, up_rng h.rng (by omega) h1 hp.1 hf, h.mo⟩
variable {b1 x1 f2 : FN V} {sz : Int} {mo : Nat} {ps b L : List Int}
theorem lp_end (h : SI sz mo ps b L) (hb : b.length < ps.length) (v : V) (R : List Int) :
    lpF b1 x1 f2 sz ps mo (b.length : Int) v (b ++ (((min (L.length + 1) mo : Nat) : Int) - 1) :: R) (fil sz mo L) = b1 sz ps mo (b.length : Int) v (b ++ (-1) :: R) (fil sz mo L) := by
  have := h.mo
  have := h.lm
  have h8 := h.job.len
  have hlb := h.lb
  have hfl := fil_len (sz := sz) h.lm
  generalize hM : min (L.length + 1) mo = M
  unfold lpF
  rw [inB_nat (by simp), cond_true, idx_app, Option.bind_some, cond_true, Option.bind_some, wr_ok (by omega) (by omega), show (M : Int) - 1 + 1 = M by omega, set_app, inB_nat (by simp), cond_true, idx_app, Option.bind_some, cond_true, Option.bind_some, set_app]
  by_cases e : mo ≤ M
  · rw [decide_eq_true (show (M : Int) ≥ mo by omega)]
    simp only [show (true == false) = false from rfl, cond_false, Option.bind_some, cond_true]
  · have hM1 : M = L.length + 1 := by omega
    rw [decide_eq_false (show ¬ (M : Int) ≥ mo by omega), decide_eq_true (show (M : Int) > 0 by omega), wr_ok (by omega) (by omega), show (M : Int) - 1 = (L.length : Int) by omega, inB_nat (by omega), idx_nat (by omega), fil_get (by omega)]
    have : rm sz L L.length = sz := by unfold rm; rw [List.getD_eq_getElem?_getD, List.getElem?_eq_none (by omega), Option.getD_none]
    rw [this]
    simp only [beq_self_eq_true, cond_true, Option.bind_some]
/-- One sheet, which is used or the next one: whether the piece has room. -/
theorem lp_one (h : SI sz mo ps b L) (hb : b.length < ps.length) (v : V) (R : List Int) {s : Nat} (h1 : s ≤ L.length) (h2 : s < mo) :
    lpF b1 x1 f2 sz ps mo (b.length : Int) v (b ++ ((s : Int) - 1) :: R) (fil sz mo L) =
      if ps[b.length] ≤ rm sz L s then x1 sz ps mo ((b.length + 1 : Nat) : Int) v (b ++ (s : Int) :: R) (fil sz mo (up sz L s ps[b.length])) else f2 sz ps mo (b.length : Int) v (b ++ (s : Int) :: R) (fil sz mo L) := by
  have := h.mo
  have := h.lm
  have h8 := h.job.len
  have hlb := h.lb
  have hlo := h.job.lo
  have hhi := h.job.hi
  have hfl := fil_len (sz := sz) h.lm
  have hp := h.job.ok _ (List.getElem_mem hb)
  have hr := rm_rng h.rng (by omega) s
  unfold lpF
  rw [inB_nat (by simp), cond_true, idx_app, Option.bind_some, cond_true, Option.bind_some, wr_ok (by omega) (by omega), show (s : Int) - 1 + 1 = s by omega, set_app, inB_nat (by simp), cond_true, idx_app, Option.bind_some, cond_true, Option.bind_some, set_app]
  rw [decide_eq_false (show ¬ (s : Int) ≥ mo by omega)]
  have hc : ((bif (decide ((s : Int) > 0) == true) then (bif inB (wr .i64 ((s : Int) - 1)) (fil sz mo L).length then (idx (fil sz mo L) (wr .i64 ((s : Int) - 1))).bind fun x24' => some (x24' == sz) else none) else some false)) = some false := by
    by_cases e : s = 0
    · subst e; rfl
    · rw [decide_eq_true (show (s : Int) > 0 by omega), wr_ok (by omega) (by omega), show (s : Int) - 1 = ((s - 1 : Nat) : Int) by omega, inB_nat (by omega), idx_nat (by omega), fil_get (by omega)]
      simp only [beq_self_eq_true, cond_true, Option.bind_some]
      have hs : s - 1 < L.length := by omega
      have e2 : rm sz L (s - 1) = L[s - 1] := by unfold rm; rw [List.getD_eq_getElem?_getD, List.getElem?_eq_getElem hs, Option.getD_some]
      have := h.rng _ (List.getElem_mem hs)
      rw [e2, beq_false_of_ne (by omega)]
  simp only [beq_self_eq_true, cond_true]
  rw [hc]
  simp only [Option.bind_some, cond_false]
  rw [inB_nat (by omega : s < (fil sz mo L).length), idx_nat (by omega : s < (fil sz mo L).length), fil_get (by omega), idx_nat hb]
  simp only [Option.bind_some, cond_true]
  by_cases e : ps[b.length] ≤ rm sz L s
  · rw [decide_eq_true (show rm sz L s ≥ ps[b.length] from e), if_pos e, cond_true, wr_ok (x := rm sz L s - ps[b.length]) (by omega) (by omega), Int.toNat_natCast, fil_up _ h1 h2, wr_succ (by omega)]
  · rw [decide_eq_false (show ¬ rm sz L s ≥ ps[b.length] from e), if_neg e, cond_false]
/-! All of it. -/
def fu : Nat → Nat → Nat
  | 0, _ => 1
  | r + 1, i => 1 + (i + 1) * (2 + fu r (i + 1))
/-- What a function does that is handed plans and hands them back. -/
def Pure (C : List Int → V → Option (Bool × List Int × V × Unit)) (c : List Int → V → Bool × V) : Prop := ∀ (q : List Int) (v : V), q.length ≤ 8 → C q v = some ((c q v).1, q, (c q v).2, ())
variable {C : List Int → V → Option (Bool × List Int × V × Unit)} {c : List Int → V → Bool × V} {q0 : Nat}
theorem srch_leaf (hC : Pure C c) (h : SI sz mo ps b L) (hb : b.length = ps.length) (v : V) (m : Nat) :
    (GB C q0 (m + 1)).2 sz ps mo (b.length : Int) v b (fil sz mo L) = if (fv c [b] v).1 then (GB C q0 m).1 sz ps mo (b.length : Int) (fv c [b] v).2 b (fil sz mo L) else some ((), (fv c [b] v).2, ()) := by
  show nxF C q0 _ _ sz ps mo (b.length : Int) v b (fil sz mo L) = _
  unfold nxF
  have := h.job.len
  rw [show ((b.length : Int) == (ps.length : Int)) = true by simp [hb], cond_true, hC b v (by omega), Option.bind_some, show Nat.beq b.length b.length = true by simp, cond_true]
  unfold fv
  by_cases e : (c b v).1 = true
  · simp only [e, Bool.not_true, cond_false, if_true, fv]
  · simp only [Bool.not_eq_true] at e
    simp only [e, Bool.not_false, cond_true, Bool.false_eq_true, if_false]
/-- Back from a piece's sheet. -/
theorem srch_back (h : SI sz mo ps b L) (hb : b.length < ps.length) (v : V) (R : List Int) {s : Nat} (h1 : s ≤ L.length) (h2 : s < mo) (hf : ps[b.length] ≤ rm sz L s) (m : Nat) :
    (GB C q0 (m + 1)).1 sz ps mo ((b.length + 1 : Nat) : Int) v (b ++ (s : Int) :: R) (fil sz mo (up sz L s ps[b.length])) = (GB C q0 m).2 sz ps mo (b.length : Int) v (b ++ (s : Int) :: R) (fil sz mo L) := by
  have h8 := h.job.len
  have hlo := h.job.lo
  have hhi := h.job.hi
  have hlm := h.lm
  have hp := h.job.ok _ (List.getElem_mem hb)
  have hr := rm_rng h.rng (by omega) s
  have hul := up_len (sz := sz) ps[b.length] h1
  have hfl := fil_len (sz := sz) (mo := mo) (L := up sz L s ps[b.length]) (by omega)
  show bkF _ sz ps mo _ v _ _ = _
  unfold bkF
  rw [wr_ok (by omega) (by omega), show ((b.length + 1 : Nat) : Int) - 1 = (b.length : Int) by omega, decide_eq_false (by omega), cond_false, inB_nat (by simp), cond_true, idx_app, Option.bind_some, inB_nat (by omega), cond_true, idx_nat (by omega : s < (fil sz mo (up sz L s ps[b.length])).length), Option.bind_some, idx_nat hb, Option.bind_some, cond_true, Option.bind_some, fil_get (by omega), rm_up _ h1, wr_ok (by omega) (by omega), Int.toNat_natCast, show rm sz L s - ps[b.length] + ps[b.length] = rm sz L s by omega, fil_back _ h1 h2 hlm]
theorem srch_node (hC : Pure C c) (hq : 1100 ≤ q0) : ∀ (r b L : List Int), SI sz mo ps b L → ps.drop b.length = r → ∀ v, ∃ K, K ≤ fu r.length b.length ∧ ∀ m,
    (GB C q0 (m + K)).2 sz ps mo (b.length : Int) v (b ++ List.replicate (ps.length - b.length) (-1)) (fil sz mo L) = if (fv c (pl sz mo r b L) v).1 then (GB C q0 m).1 sz ps mo (b.length : Int) (fv c (pl sz mo r b L) v).2 (b ++ List.replicate (ps.length - b.length) (-1)) (fil sz mo L) else some ((), (fv c (pl sz mo r b L) v).2, ()) := by
  intro r
  induction r with
  | nil =>
    intro b L h hr v
    have hle := h.le
    have hb : b.length = ps.length := by have := List.drop_eq_nil_iff.1 hr; omega
    refine ⟨1, Nat.le_refl _, fun m => ?_⟩
    rw [hb, Nat.sub_self, List.replicate_zero, List.append_nil, ← hb]
    exact srch_leaf hC h hb v m
  | cons p r ih =>
    intro b L h hr v
    have hb : b.length < ps.length := by
      rcases Nat.lt_or_ge b.length ps.length with h | h
      · exact h
      · rw [List.drop_eq_nil_of_le h] at hr; cases hr
    have hp : ps[b.length] = p ∧ ps.drop (b.length + 1) = r := by
      rw [drop_cons hb] at hr
      exact ⟨(List.cons.inj hr).1, (List.cons.inj hr).2⟩
    obtain ⟨hp1, hp2⟩ := hp
    have hmo := h.mo
    have hlm := h.lm
    have hlb := h.lb
    have h8 := h.job.len
    -- the loop from some sheet on
    have loop : ∀ (d s : Nat), s + d = min (L.length + 1) mo → ∀ (v : V) (q : Nat), d < q → ∃ K, K ≤ d * (2 + fu r.length (b.length + 1)) ∧ ∀ m,
        LP (GB C q0 (m + K)).1 (GB C q0 (m + K)).2 q sz ps mo (b.length : Int) v (b ++ ((s : Int) - 1) :: List.replicate (ps.length - (b.length + 1)) (-1)) (fil sz mo L) =
          if (fv c ((List.range' s d).flatMap fun s => if p ≤ rm sz L s then pl sz mo r (b ++ [(s : Int)]) (up sz L s p) else []) v).1 then (GB C q0 m).1 sz ps mo (b.length : Int) (fv c ((List.range' s d).flatMap fun s => if p ≤ rm sz L s then pl sz mo r (b ++ [(s : Int)]) (up sz L s p) else []) v).2 (b ++ (-1) :: List.replicate (ps.length - (b.length + 1)) (-1)) (fil sz mo L)
          else some ((), (fv c ((List.range' s d).flatMap fun s => if p ≤ rm sz L s then pl sz mo r (b ++ [(s : Int)]) (up sz L s p) else []) v).2, ()) := by
      intro d
      induction d with
      | zero =>
        intro s hs v q hq1
        obtain ⟨q, rfl⟩ : ∃ k, q = k + 1 := ⟨q - 1, by omega⟩
        refine ⟨0, Nat.zero_le _, fun m => ?_⟩
        have := lp_end (b1 := (GB C q0 m).1) (x1 := (GB C q0 m).2) (f2 := LP (GB C q0 m).1 (GB C q0 m).2 q) h hb v (List.replicate (ps.length - (b.length + 1)) (-1))
        rw [← hs, Nat.add_zero] at this
        exact this
      | succ d ihd =>
        intro s hs v q hq1
        obtain ⟨q, rfl⟩ : ∃ k, q = k + 1 := ⟨q - 1, by omega⟩
        have h1 : s ≤ L.length := by omega
        have h2 : s < mo := by omega
        rw [List.range'_succ, List.flatMap_cons]
        have one := fun m => lp_one (b1 := (GB C q0 m).1) (x1 := (GB C q0 m).2) (f2 := LP (GB C q0 m).1 (GB C q0 m).2 q) h hb v (List.replicate (ps.length - (b.length + 1)) (-1)) h1 h2
        rw [hp1] at one
        by_cases hf : p ≤ rm sz L s
        · have hch := h.child hb h1 h2 (by rw [hp1]; exact hf)
          rw [hp1] at hch
          obtain ⟨Kc, hKc, hc⟩ := ih (b ++ [(s : Int)]) (up sz L s p) hch (by simp only [List.length_append, List.length_cons, List.length_nil]; exact hp2) v
          simp only [List.length_append, List.length_cons, List.length_nil, Nat.zero_add, List.append_assoc, List.singleton_append] at hc hKc
          rw [if_pos hf]
          simp only [if_pos hf] at one
          generalize hQ : pl sz mo r (b ++ [(s : Int)]) (up sz L s p) = Q at *
          by_cases hgo : (fv c Q v).1 = true
          · obtain ⟨K2, hK2, hl⟩ := ihd (s + 1) (by omega) (fv c Q v).2 q0 (by omega)
            refine ⟨K2 + 2 + Kc, ?_, fun m => ?_⟩
            · rw [Nat.add_mul, Nat.one_mul]; omega
            · refine (one _).trans ?_
              have := hc (m + (K2 + 2))
              rw [show m + (K2 + 2) + Kc = m + (K2 + 2 + Kc) by omega] at this
              rw [this, if_pos hgo, show m + (K2 + 2) = (m + K2 + 1) + 1 by omega]
              have hbk := srch_back (C := C) (q0 := q0) h hb (fv c Q v).2 (List.replicate (ps.length - (b.length + 1)) (-1)) h1 h2 (by rw [hp1]; exact hf) (m + K2 + 1)
              rw [hp1] at hbk
              rw [hbk]
              have hx : (GB C q0 (m + K2 + 1)).2 = nxF C q0 (GB C q0 (m + K2)).1 (GB C q0 (m + K2)).2 := rfl
              rw [hx]
              unfold nxF
              rw [beq_false_of_ne (show (b.length : Int) ≠ (ps.length : Int) by omega), cond_false]
              have := hl m
              rw [show ((s + 1 : Nat) : Int) - 1 = (s : Int) by omega] at this
              rw [this]
              simp only [fv_app]
              simp only [if_pos hgo]
          · refine ⟨Kc, ?_, fun m => ?_⟩
            · rw [Nat.add_mul, Nat.one_mul]; omega
            · refine (one _).trans ?_
              rw [hc m, if_neg hgo]
              simp only [fv_app]
              simp only [if_neg hgo]
              simp
        · rw [if_neg hf, List.nil_append]
          obtain ⟨K, hK, hl⟩ := ihd (s + 1) (by omega) v q (by omega)
          refine ⟨K, ?_, fun m => ?_⟩
          · rw [Nat.add_mul, Nat.one_mul]; omega
          · have := one (m + K)
            rw [if_neg hf] at this
            refine this.trans ?_
            rw [← hl m, show ((s + 1 : Nat) : Int) - 1 = (s : Int) by omega]
    obtain ⟨K, hK, hl⟩ := loop (min (L.length + 1) mo) 0 (by omega) v q0 (by omega)
    refine ⟨K + 1, ?_, fun m => ?_⟩
    · have : min (L.length + 1) mo * (2 + fu r.length (b.length + 1)) ≤ (b.length + 1) * (2 + fu r.length (b.length + 1)) := Nat.mul_le_mul_right _ (by omega)
      simp only [List.length_cons, fu]
      omega
    · have hx : (GB C q0 (m + (K + 1))).2 = nxF C q0 (GB C q0 (m + K)).1 (GB C q0 (m + K)).2 := rfl
      have hrep : List.replicate (ps.length - b.length) (-1 : Int) = (-1) :: List.replicate (ps.length - (b.length + 1)) (-1) := by
        rw [← List.replicate_succ]; congr 1; omega
      rw [hx, hrep]
      unfold nxF
      rw [beq_false_of_ne (show (b.length : Int) ≠ (ps.length : Int) by omega), cond_false]
      have := hl m
      rw [show ((0 : Nat) : Int) - 1 = -1 by omega] at this
      rw [this]
      rfl
/-- The search hands over all plans with at most so many sheets, in ascending order. -/
theorem srch_eq (hC : Pure C c) (hq : 1000000 ≤ q0) (hj : Job sz ps) (hm : mo ≤ 1000) (v : V) : srch C q0 sz ps mo v (List.replicate ps.length (-1)) (List.replicate mo sz) = some ((), (fv c (pl sz mo ps [] []) v).2, ()) := by
  have hsi : SI sz mo ps [] [] := ⟨hj, by simp, by simp, by simp, by simp, hm⟩
  have h8 := hj.len
  have back0 : ∀ (m : Nat) (v : V) (a l : List Int), (GB C q0 (m + 1)).1 sz ps mo 0 v a l = some ((), v, ()) := fun m v a l => rfl
  have hfu : fu ps.length 0 ≤ 900000 := by
    have : ∀ k ≤ 8, fu k 0 ≤ 900000 := by decide
    exact this _ h8
  obtain ⟨K, hK, h⟩ := srch_node (q0 := q0) hC (by omega) ps [] [] hsi rfl v
  rw [List.length_nil] at hK
  have key : ∀ m, K ≤ m → (GB C q0 (m + 1)).2 sz ps mo 0 v (List.replicate ps.length (-1)) (List.replicate mo sz) = some ((), (fv c (pl sz mo ps [] []) v).2, ()) := fun m hm => by
    have := h (m + 1 - K)
    rw [show m + 1 - K + K = m + 1 by omega] at this
    have e : fil sz mo [] = List.replicate mo sz := by simp [fil]
    rw [e] at this
    refine Eq.trans this ?_
    split
    · rw [show m + 1 - K = (m - K) + 1 by omega]
      rfl
    · rfl
  have hx : ∀ m, (GB C q0 (m + 1)).2 = nxF C q0 (GB C q0 m).1 (GB C q0 m).2 := fun _ => rfl
  have k2 := key q0 (by omega)
  rw [hx] at k2
  unfold nxF at k2
  unfold srch
  exact k2
end
end Go.Proofs.YtgmonagekfjnmaaDoor
set_option linter.unusedVariables false
set_option linter.unusedSimpArgs false
set_option maxRecDepth 100000
namespace Go.Proofs.YtgmonagekfjnmaaDoor
open Go.Vi
noncomputable def c5 : Code := bodyOf Tryd.f5
/-D 99 -/
/-D 83 -/
/-D 35 -/
/-D 37 -/
/-D 39 -/
/-D 5 -/
end Go.Proofs.YtgmonagekfjnmaaDoor
set_option linter.unusedVariables false
set_option linter.unusedSimpArgs false
namespace Go.Proofs.YtgmonagekfjnmaaDoor
open Go.Vi
theorem rep2_eq (x : Int) : ∀ k ≤ 8, D69 N [x] ((k : Nat) : Int) = some (List.replicate k x)
  | 0, _ => by kernel_rfl
  | 1, _ => by kernel_rfl
  | 2, _ => by kernel_rfl
  | 3, _ => by kernel_rfl
  | 4, _ => by kernel_rfl
  | 5, _ => by kernel_rfl
  | 6, _ => by kernel_rfl
  | 7, _ => by kernel_rfl
  | 8, _ => by kernel_rfl
  | k + 9, h => by omega
theorem L84c85io0001_LP (n : Nat × Nat) (f1 : FN (List Int) × FN (List Int)) : ∀ q, DL84c85io0001_4 n f1 q = LP f1.1 f1.2 q
  | 0 => rfl
  | q + 1 => by
    rw [DL84c85io0001_4_succ, L84c85io0001_LP n f1 q]
    rfl
theorem G84c85io0001_GB (n : Nat × Nat) : ∀ m, DG84c85io0001_1 n m = GB (D85io11 n) n.1 m
  | 0 => rfl
  | m + 1 => by
    rw [DG84c85io0001_1_succ, G84c85io0001_GB n m]
    refine Prod.ext rfl ?_
    funext a b d e v p l
    show DF84c85io0001_3 n _ a b d e v p l = nxF (D85io11 n) n.1 _ _ a b d e v p l
    unfold DF84c85io0001_3 nxF
    rw [L84c85io0001_LP]
theorem M84c85io0001_LP (n : Nat × Nat) : ∀ q, DL84c85io0001_2 n q = LP (GB (D85io11 n) n.1 n.1).1 (GB (D85io11 n) n.1 n.1).2 q
  | 0 => rfl
  | q + 1 => by
    rw [DL84c85io0001_2_succ, M84c85io0001_LP n q, ← G84c85io0001_GB]
    rfl
theorem D84c85io0001_srch (n : Nat × Nat) (sz : Int) (ps : List Int) (most : Int) (v : List Int) : D84c85io0001 n sz ps most v = (D69 n [-1] (ps.length : Int)).bind fun r1 => (D69 n [sz] most).bind fun r2 => srch (D85io11 n) n.1 sz ps most v r1 r2 := by
  unfold D84c85io0001 srch
  rw [M84c85io0001_LP, ← G84c85io0001_GB]
  rfl
theorem D84c85io0001_eq {c : List Int → List Int → Bool × List Int} (hC : Pure (D85io11 N) c) {sz : Int} {ps : List Int} (hj : Job sz ps) {mo : Nat} (hm : mo ≤ 8) (v : List Int) : D84c85io0001 N sz ps mo v = some ((), (fv c (pl sz mo ps [] []) v).2, ()) := by
  rw [D84c85io0001_srch, rep_eq _ hj.len, Option.bind_some, rep2_eq _ _ hm, Option.bind_some]
  exact srch_eq hC (Nat.le_refl _) hj (by omega) v
theorem L84c86io0001_LP (n : Nat × Nat) (f1 : FN (Int) × FN (Int)) : ∀ q, DL84c86io0001_4 n f1 q = LP f1.1 f1.2 q
  | 0 => rfl
  | q + 1 => by
    rw [DL84c86io0001_4_succ, L84c86io0001_LP n f1 q]
    rfl
theorem G84c86io0001_GB (n : Nat × Nat) : ∀ m, DG84c86io0001_1 n m = GB (D86io11 n) n.1 m
  | 0 => rfl
  | m + 1 => by
    rw [DG84c86io0001_1_succ, G84c86io0001_GB n m]
    refine Prod.ext rfl ?_
    funext a b d e v p l
    show DF84c86io0001_3 n _ a b d e v p l = nxF (D86io11 n) n.1 _ _ a b d e v p l
    unfold DF84c86io0001_3 nxF
    rw [L84c86io0001_LP]
theorem M84c86io0001_LP (n : Nat × Nat) : ∀ q, DL84c86io0001_2 n q = LP (GB (D86io11 n) n.1 n.1).1 (GB (D86io11 n) n.1 n.1).2 q
  | 0 => rfl
  | q + 1 => by
    rw [DL84c86io0001_2_succ, M84c86io0001_LP n q, ← G84c86io0001_GB]
    rfl
theorem D84c86io0001_srch (n : Nat × Nat) (sz : Int) (ps : List Int) (most : Int) (v : Int) : D84c86io0001 n sz ps most v = (D69 n [-1] (ps.length : Int)).bind fun r1 => (D69 n [sz] most).bind fun r2 => srch (D86io11 n) n.1 sz ps most v r1 r2 := by
  unfold D84c86io0001 srch
  rw [M84c86io0001_LP, ← G84c86io0001_GB]
  rfl
theorem D84c86io0001_eq {c : List Int → Int → Bool × Int} (hC : Pure (D86io11 N) c) {sz : Int} {ps : List Int} (hj : Job sz ps) {mo : Nat} (hm : mo ≤ 8) (v : Int) : D84c86io0001 N sz ps mo v = some ((), (fv c (pl sz mo ps [] []) v).2, ()) := by
  rw [D84c86io0001_srch, rep_eq _ hj.len, Option.bind_some, rep2_eq _ _ hm, Option.bind_some]
  exact srch_eq hC (Nat.le_refl _) hj (by omega) v
theorem L84c98io0001_LP (n : Nat × Nat) (f1 : FN (Bool) × FN (Bool)) : ∀ q, DL84c98io0001_4 n f1 q = LP f1.1 f1.2 q
  | 0 => rfl
  | q + 1 => by
    rw [DL84c98io0001_4_succ, L84c98io0001_LP n f1 q]
    rfl
theorem G84c98io0001_GB (n : Nat × Nat) : ∀ m, DG84c98io0001_1 n m = GB (D98io11 n) n.1 m
  | 0 => rfl
  | m + 1 => by
    rw [DG84c98io0001_1_succ, G84c98io0001_GB n m]
    refine Prod.ext rfl ?_
    funext a b d e v p l
    show DF84c98io0001_3 n _ a b d e v p l = nxF (D98io11 n) n.1 _ _ a b d e v p l
    unfold DF84c98io0001_3 nxF
    rw [L84c98io0001_LP]
theorem M84c98io0001_LP (n : Nat × Nat) : ∀ q, DL84c98io0001_2 n q = LP (GB (D98io11 n) n.1 n.1).1 (GB (D98io11 n) n.1 n.1).2 q
  | 0 => rfl
  | q + 1 => by
    rw [DL84c98io0001_2_succ, M84c98io0001_LP n q, ← G84c98io0001_GB]
    rfl
theorem D84c98io0001_srch (n : Nat × Nat) (sz : Int) (ps : List Int) (most : Int) (v : Bool) : D84c98io0001 n sz ps most v = (D69 n [-1] (ps.length : Int)).bind fun r1 => (D69 n [sz] most).bind fun r2 => srch (D98io11 n) n.1 sz ps most v r1 r2 := by
  unfold D84c98io0001 srch
  rw [M84c98io0001_LP, ← G84c98io0001_GB]
  rfl
theorem D84c98io0001_eq {c : List Int → Bool → Bool × Bool} (hC : Pure (D98io11 N) c) {sz : Int} {ps : List Int} (hj : Job sz ps) {mo : Nat} (hm : mo ≤ 8) (v : Bool) : D84c98io0001 N sz ps mo v = some ((), (fv c (pl sz mo ps [] []) v).2, ()) := by
  rw [D84c98io0001_srch, rep_eq _ hj.len, Option.bind_some, rep2_eq _ _ hm, Option.bind_some]
  exact srch_eq hC (Nat.le_refl _) hj (by omega) v
theorem clone_eq (n : Nat × Nat) (l : List Int) (h : l.length ≤ 1000) : D56 n l = some l := by
  unfold D56 HF56
  rw [decide_eq_true (show l.length ≤ lim by simp [lim]; omega), cond_true]
theorem pure85 : Pure (D85io11 N) (fun q _ => (false, q)) := fun q v h => by
  unfold D85io11 D56v
  rw [clone_eq N q (by omega)]
  rfl
theorem pure98 : Pure (D98io11 N) (fun _ _ => (false, true)) := fun q v h => rfl
theorem pure86 : Pure (D86io11 N) (fun _ v => (true, wr .i64 (v + 1))) := fun q v h => rfl
theorem fv85 : ∀ (l : List (List Int)) (v : List Int), (fv (fun q (_ : List Int) => (false, q)) l v).2 = l.headD v
  | [], _ => rfl
  | _ :: _, _ => rfl
theorem fv98 : ∀ (l : List (List Int)), (fv (fun _ (_ : Bool) => (false, true)) l false).2 = !l.isEmpty
  | [] => rfl
  | _ :: _ => rfl
theorem fv86 : ∀ (l : List (List Int)) (k : Nat), k + l.length < 1000000 → (fv (fun _ (v : Int) => (true, wr .i64 (v + 1))) l (k : Int)).2 = ((k + l.length : Nat) : Int)
  | [], _, _ => rfl
  | q :: l, k, h => by
    rw [List.length_cons] at h
    have := fv86 l (k + 1) (by omega)
    unfold fv
    rw [if_pos rfl, wr_succ (by omega), this]
    simp only [List.length_cons]
    congr 1
    omega
/-! How many plans there are at most. -/
def cb : Nat → Nat → Nat
  | 0, _ => 1
  | r + 1, i => (i + 1) * cb r (i + 1)
theorem flat_len {α β : Type} (f : α → List β) (k : Nat) : ∀ (l : List α), (∀ a ∈ l, (f a).length ≤ k) → (l.flatMap f).length ≤ l.length * k
  | [], _ => by simp
  | a :: l, h => by
    have h1 := h a (by simp)
    have h2 := flat_len f k l (fun b hb => h b (by simp [hb]))
    rw [List.flatMap_cons, List.length_append, List.length_cons, Nat.succ_mul]
    omega
theorem pl_count (sz : Int) (mo : Nat) : ∀ (r b L : List Int), L.length ≤ b.length → (pl sz mo r b L).length ≤ cb r.length b.length
  | [], b, L, _ => by simp [pl, cb]
  | p :: r, b, L, h => by
    unfold pl
    refine Nat.le_trans (flat_len _ (cb r.length (b.length + 1)) _ (fun s hs => ?_)) ?_
    · have hs1 : s ≤ L.length := by have := List.mem_range'_1.1 hs; omega
      split
      · have := pl_count sz mo r (b ++ [(s : Int)]) (up sz L s p) (by rw [up_len p hs1]; simp; omega)
        simpa using this
      · simp
    · simp only [List.length_range', List.length_cons, cb]
      exact Nat.mul_le_mul_right _ (by omega)
theorem cb8 {k : Nat} (h : k ≤ 8) : cb k 0 ≤ 100000 := by
  have : ∀ k ≤ 8, cb k 0 ≤ 100000 := by decide
  exact this _ h
/-- What begins a plan. -/
structure Rs (sz : Int) (ps b L : List Int) : Prop where
  job : Job sz ps
  le : b.length ≤ ps.length
  nn : ∀ x ∈ b, 0 ≤ x
  my : mny b ≤ b.length
  left : L = lf sz (ps.take b.length) b
theorem Rs.len {sz : Int} {ps b L : List Int} (h : Rs sz ps b L) : (L.length : Int) = mny b := by rw [h.left]; exact lf_len _ _ _
theorem Rs.rm {sz : Int} {ps b L : List Int} (h : Rs sz ps b L) {s : Nat} (hs : s ≤ L.length) : rm sz L s = sz - usd (ps.take b.length) b s := by
  have hl := h.len
  by_cases e : s < L.length
  · rw [rm_get e]
    have := h.left
    subst this
    exact lf_get e
  · unfold Proofs.YtgmonagekfjnmaaDoor.rm
    rw [List.getD_eq_getElem?_getD, List.getElem?_eq_none (by omega), Option.getD_none, usd_none (fun hm => by have := mny_lt hm; omega)]
    omega
theorem Rs.child {sz : Int} {ps b L : List Int} (h : Rs sz ps b L) (hb : b.length < ps.length) {s : Nat} (hs : s ≤ L.length) : Rs sz ps (b ++ [(s : Int)]) (up sz L s ps[b.length]) := by
  have hl := h.len
  have hmy := h.my
  refine ⟨h.job, by simp; omega, fun x hx => ?_, ?_, ?_⟩
  · rcases List.mem_append.1 hx with hx | hx
    · exact h.nn x hx
    · rw [List.mem_singleton.1 hx]; omega
  · rw [mny_snoc, List.length_append]
    simp only [List.length_cons, List.length_nil]
    omega
  · have := lf_step sz ps[b.length] (s : Int) (ps := ps.take b.length) (l := b) (by simp; omega) (by omega) (by omega)
    rw [← take_snoc hb, ← h.left, ← h.rm hs] at this
    rw [List.length_append, List.length_singleton, this]
    unfold up
    rw [Int.toNat_natCast]
    by_cases e : s = L.length
    · rw [if_pos e, if_pos (by omega)]
    · rw [if_neg e, if_neg (by omega)]
theorem Rs.nil {sz : Int} {ps : List Int} (h : Job sz ps) : Rs sz ps [] [] := ⟨h, by simp, by simp, by simp [mny], rfl⟩
/-! The reference's plans. -/
/-! Plans by their number of sheets. -/
theorem mny_app (a : List Int) : ∀ b : List Int, mny a ≤ mny (a ++ b) := fun b => by
  unfold mny
  rw [List.foldl_append]
  exact (fold_mny b _).1
theorem pl_pre {sz : Int} {mo : Nat} : ∀ (r b L q : List Int), q ∈ pl sz mo r b L → ∃ t, t.length = r.length ∧ q = b ++ t
  | [], b, L, q, h => ⟨[], rfl, by simpa [pl] using h⟩
  | p :: r, b, L, q, h => by
    unfold pl at h
    obtain ⟨s, _, hq⟩ := List.mem_flatMap.1 h
    split at hq
    · obtain ⟨t, ht, e⟩ := pl_pre r _ _ q hq
      exact ⟨(s : Int) :: t, by simp [ht], by rw [e]; simp⟩
    · simp at hq
theorem flat_congr {α β : Type} {f g : α → List β} : ∀ {l : List α}, (∀ a ∈ l, f a = g a) → l.flatMap f = l.flatMap g
  | [], _ => rfl
  | a :: l, h => by rw [List.flatMap_cons, List.flatMap_cons, h a (by simp), flat_congr (fun b hb => h b (by simp [hb]))]
theorem pl_filter {sz : Int} {mo big : Nat} (hmb : mo ≤ big) : ∀ (r b L : List Int), (L.length : Int) = mny b → L.length ≤ mo → pl sz mo r b L = (pl sz big r b L).filter fun q => decide (mny q ≤ mo)
  | [], b, L, h, hm => by
    unfold pl
    rw [List.filter_cons, if_pos (by simp; omega), List.filter_nil]
  | p :: r, b, L, h, hm => by
    have hkid : ∀ s ≤ L.length, max L.length (s + 1) ≤ mo → (if p ≤ rm sz L s then pl sz mo r (b ++ [(s : Int)]) (up sz L s p) else []) = (if p ≤ rm sz L s then pl sz big r (b ++ [(s : Int)]) (up sz L s p) else []).filter fun q => decide (mny q ≤ mo) := fun s hs hs2 => by
      split
      · refine pl_filter hmb r _ _ ?_ (by rw [up_len p hs]; exact hs2)
        rw [up_len p hs, mny_snoc]
        omega
      · rfl
    unfold pl
    rw [List.filter_flatMap]
    by_cases h1 : L.length + 1 ≤ mo
    · rw [Nat.min_eq_left h1, Nat.min_eq_left (Nat.le_trans h1 hmb)]
      refine flat_congr ?_
      intro s hs
      have := List.mem_range'_1.1 hs
      exact hkid s (by omega) (by omega)
    · have hL : mo = L.length := by omega
      rw [Nat.min_eq_right (by omega : mo ≤ L.length + 1)]
      have hk2 : ((List.range' 0 mo).flatMap fun s => if p ≤ rm sz L s then pl sz mo r (b ++ [(s : Int)]) (up sz L s p) else []) = (List.range' 0 mo).flatMap fun a => (if p ≤ rm sz L a then pl sz big r (b ++ [(a : Int)]) (up sz L a p) else []).filter fun q => decide (mny q ≤ mo) := by
        refine flat_congr ?_
        intro s hs
        have := List.mem_range'_1.1 hs
        exact hkid s (by omega) (by omega)
      rw [hk2]
      by_cases h2 : big = mo
      · rw [h2, Nat.min_eq_right (by omega : mo ≤ L.length + 1)]
      · rw [Nat.min_eq_left (by omega : L.length + 1 ≤ big), List.range'_1_concat, List.flatMap_append, List.flatMap_cons, List.flatMap_nil, List.append_nil, ← hL]
        suffices hz : ((if p ≤ rm sz L (0 + mo) then pl sz big r (b ++ [((0 + mo : Nat) : Int)]) (up sz L (0 + mo) p) else []).filter fun q => decide (mny q ≤ mo)) = [] by rw [hz, List.append_nil]
        rw [List.filter_eq_nil_iff]
        intro q hq
        split at hq
        · obtain ⟨t, _, e⟩ := pl_pre r _ _ q hq
          have := mny_app (b ++ [((0 + mo : Nat) : Int)]) t
          rw [mny_snoc, ← e] at this
          simp only [decide_eq_true_eq]
          omega
        · simp at hq
theorem pl_ne {sz : Int} {mo : Nat} : ∀ (r b L : List Int), (∀ p ∈ r, p ≤ sz) → L.length + r.length ≤ mo → pl sz mo r b L ≠ []
  | [], b, L, _, _ => by simp [pl]
  | p :: r, b, L, hp, hm => by
    rw [List.length_cons] at hm
    have hr : rm sz L L.length = sz := by unfold rm; rw [List.getD_eq_getElem?_getD, List.getElem?_eq_none (by omega), Option.getD_none]
    have ih := pl_ne (sz := sz) (mo := mo) r (b ++ [(L.length : Int)]) (up sz L L.length p) (fun q hq => hp q (by simp [hq])) (by rw [up_len p (Nat.le_refl _)]; omega)
    obtain ⟨q, hq⟩ := List.exists_mem_of_ne_nil _ ih
    refine List.ne_nil_of_mem (a := q) ?_
    unfold pl
    refine List.mem_flatMap.2 ⟨L.length, List.mem_range'_1.2 (by omega), ?_⟩
    rw [if_pos (by rw [hr]; exact hp p (by simp))]
    exact hq
/-- All plans with at most so many sheets. -/
def apl (sz : Int) (ps : List Int) (mo : Nat) : List (List Int) := pl sz mo ps [] []
def fwg (f : Nat → Bool) : Nat → Nat → Nat
  | 0, k => k
  | d + 1, k => if f k then k else fwg f d (k + 1)
theorem fwg_spec (f : Nat → Bool) : ∀ (d k : Nat), f (k + d) = true → f (fwg f d k) = true ∧ k ≤ fwg f d k ∧ fwg f d k ≤ k + d ∧ ∀ j, k ≤ j → j < fwg f d k → f j = false
  | 0, k, h => ⟨h, Nat.le_refl _, Nat.le_refl _, fun j h1 h2 => by unfold fwg at h2; omega⟩
  | d + 1, k, h => by
    unfold fwg
    by_cases e : f k = true
    · rw [if_pos e]
      exact ⟨e, Nat.le_refl _, by omega, fun j h1 h2 => by omega⟩
    · rw [if_neg e]
      obtain ⟨h1, h2, h3, h4⟩ := fwg_spec f d (k + 1) (by rw [show k + 1 + d = k + (d + 1) by omega]; exact h)
      refine ⟨h1, by omega, by omega, fun j hj1 hj2 => ?_⟩
      by_cases hj : j = k
      · rw [hj]; simpa using e
      · exact h4 j (by omega) hj2
/-- The fewest sheets. -/
def fw (sz : Int) (ps : List Int) : Nat := fwg (fun k => !(apl sz ps k).isEmpty) ps.length 0
theorem apl_len {sz : Int} {ps : List Int} (hj : Job sz ps) : apl sz ps ps.length ≠ [] := pl_ne ps [] [] (fun p hp => (hj.ok p hp).2) (by simp)
theorem fw_spec {sz : Int} {ps : List Int} (hj : Job sz ps) : apl sz ps (fw sz ps) ≠ [] ∧ fw sz ps ≤ ps.length ∧ ∀ j < fw sz ps, apl sz ps j = [] := by
  have h0 : (fun k => !(apl sz ps k).isEmpty) (0 + ps.length) = true := by
    rw [Nat.zero_add]
    have := apl_len hj
    show (!(apl sz ps ps.length).isEmpty) = true
    cases h : apl sz ps ps.length
    · exact absurd h this
    · rfl
  obtain ⟨h1, h2, h3, h4⟩ := fwg_spec (fun k => !(apl sz ps k).isEmpty) ps.length 0 h0
  refine ⟨fun e => ?_, by unfold fw; omega, fun j hj => ?_⟩
  · unfold fw at e
    simp only [e] at h1
    exact absurd h1 (by simp)
  · have := h4 j (by omega) hj
    cases h : apl sz ps j
    · rfl
    · simp [h] at this
theorem apl_count {sz : Int} {ps : List Int} (hj : Job sz ps) (mo : Nat) : (apl sz ps mo).length ≤ 100000 :=
  Nat.le_trans (pl_count sz mo ps [] [] (by simp)) (cb8 hj.len)
theorem apl_filter {sz : Int} {ps : List Int} {mo big : Nat} (h : mo ≤ big) : apl sz ps mo = (apl sz ps big).filter fun q => decide (mny q ≤ mo) := pl_filter h ps [] [] rfl (by simp)
theorem apl_le {sz : Int} {ps : List Int} {mo : Nat} {q : List Int} (h : q ∈ apl sz ps mo) : mny q ≤ mo := by
  rw [apl_filter (Nat.le_refl mo)] at h
  simpa using (List.mem_filter.1 h).2
theorem apl_down {sz : Int} {ps : List Int} {mo big : Nat} {q : List Int} (hb : q ∈ apl sz ps big) (h : mny q ≤ mo) (hm : mo ≤ big) : q ∈ apl sz ps mo := by
  rw [apl_filter hm]
  exact List.mem_filter.2 ⟨hb, by simpa using h⟩
theorem fw_mny {sz : Int} {ps : List Int} (hj : Job sz ps) {q : List Int} (h : q ∈ apl sz ps (fw sz ps)) : mny q = fw sz ps := by
  obtain ⟨h1, h2, h3⟩ := fw_spec hj
  have h4 := apl_le h
  by_cases e : mny q = fw sz ps
  · exact e
  · have h0 := mny_nn q
    have := apl_down (mo := fw sz ps - 1) h (by omega) (by omega)
    rw [h3 _ (by omega)] at this
    cases this
theorem apl_qlen {sz : Int} {ps : List Int} {mo : Nat} {q : List Int} (h : q ∈ apl sz ps mo) : q.length = ps.length := by
  obtain ⟨t, ht, e⟩ := pl_pre ps [] [] q h
  rw [e, List.nil_append, ht]
theorem least_loop {sz : Int} {ps : List Int} (hj : Job sz ps) : ∀ (m k : Nat), k ≤ fw sz ps → fw sz ps - k < m → DL82_1 N m sz ps (k : Int) = some ((fw sz ps : Nat) : Int)
  | 0, k, _, h => by omega
  | m + 1, k, hk, h => by
    obtain ⟨h1, h2, h3⟩ := fw_spec hj
    have h8 := hj.len
    rw [DL82_1_succ]
    unfold DF82_1
    rw [D84c98io0001_eq pure98 hj (by omega : k ≤ 8), Option.bind_some, fv98]
    by_cases e : k = fw sz ps
    · subst e
      have : (pl sz (fw sz ps) ps [] []).isEmpty = false := by
        cases hh : pl sz (fw sz ps) ps [] []
        · exact absurd hh h1
        · rfl
      simp only [this, Bool.not_false, show (true == false) = false from rfl, cond_false, Option.bind_some, cond_true]
    · have : pl sz k ps [] [] = [] := h3 k (by omega)
      simp only [this, List.isEmpty_nil, Bool.not_true, beq_self_eq_true, cond_true, Option.bind_some]
      rw [beq_false_of_ne (show (k : Int) ≠ (ps.length : Int) by omega), cond_false, wr_succ (by omega), least_loop hj m (k + 1) (by omega) (by omega)]
theorem least_eq {sz : Int} {ps : List Int} (hj : Job sz ps) : D82 N sz ps = some ((fw sz ps : Nat) : Int) := by
  unfold D82
  obtain ⟨h1, h2, h3⟩ := fw_spec hj
  exact least_loop hj N.1 0 (by omega) (by have : N.1 = 1000000 := rfl; have := hj.len; omega)
def fwS (sz : Int) (ps : List Int) : Int × Int := if chk sz ps ≠ 0 then (0, chk sz ps) else (fw sz ps, 0)
def fsS (sz : Int) (ps : List Int) : List Int × Int := if chk sz ps ≠ 0 then ([], chk sz ps) else ((apl sz ps (fw sz ps)).headD [], 0)
def cnS (sz : Int) (ps : List Int) : Int × Int := if chk sz ps ≠ 0 then (0, chk sz ps) else ((apl sz ps (fw sz ps)).length, 0)
theorem Fewest_eq (sz : Int) (ps : List Int) : D34 N sz ps = some (fwS sz ps) := by
  unfold D34 fwS
  rw [Check_eq hN1, Option.bind_some]
  by_cases h : chk sz ps = 0
  · have hj := chk_job.1 h
    rw [h, bne_self_eq_false, cond_false, if_neg (by simp), least_eq hj, Option.bind_some]
  · rw [show (chk sz ps != 0) = true by simpa using h, cond_true, if_pos h]
theorem First_eq (sz : Int) (ps : List Int) : D36 N sz ps = some (fsS sz ps) := by
  unfold D36 fsS
  rw [Check_eq hN1, Option.bind_some]
  by_cases h : chk sz ps = 0
  · have hj := chk_job.1 h
    obtain ⟨h1, h2, h3⟩ := fw_spec hj
    have h8 := hj.len
    rw [h, bne_self_eq_false, cond_false, if_neg (by simp), least_eq hj, Option.bind_some, D84c85io0001_eq pure85 hj (by omega), Option.bind_some, fv85]
    rfl
  · rw [show (chk sz ps != 0) = true by simpa using h, cond_true, if_pos h]
theorem Count_eq (sz : Int) (ps : List Int) : D38 N sz ps = some (cnS sz ps) := by
  unfold D38 cnS
  rw [Check_eq hN1, Option.bind_some]
  by_cases h : chk sz ps = 0
  · have hj := chk_job.1 h
    obtain ⟨h1, h2, h3⟩ := fw_spec hj
    have h8 := hj.len
    have hc := apl_count hj (fw sz ps)
    have hf := fv86 (pl sz (fw sz ps) ps [] []) 0 (by unfold apl at hc; omega)
    rw [h, bne_self_eq_false, cond_false, if_neg (by simp), least_eq hj, Option.bind_some, D84c86io0001_eq pure86 hj (by omega), Option.bind_some, show (0 : Int) = ((0 : Nat) : Int) from rfl, hf, Nat.zero_add]
    rfl
  · rw [show (chk sz ps != 0) = true by simpa using h, cond_true, if_pos h]
theorem head_mem {l : List (List Int)} (h : l ≠ []) : ∃ hl : 0 < l.length, l[0] = l.headD [] ∧ l.headD [] ∈ l := by
  cases l with
  | nil => exact absurd rfl h
  | cons a l => exact ⟨by simp, rfl, by simp⟩
theorem fsS_len (sz : Int) (ps : List Int) : (fsS sz ps).1.length ≤ 8 := by
  unfold fsS
  by_cases h : chk sz ps = 0
  · have hj := chk_job.1 h
    obtain ⟨h1, h2, h3⟩ := fw_spec hj
    obtain ⟨hl, e, hm⟩ := head_mem h1
    have hq := apl_qlen hm
    have h8 := hj.len
    rw [if_neg (by simpa using h)]
    simp only []
    omega
  · rw [if_pos h]
    simp
/-- One plan more. -/
def bst (t : Int × List Int × Int) (q : List Int) : Int × List Int × Int := if mny q < t.1 then (mny q, q, 1) else if mny q = t.1 then (t.1, t.2.1, t.2.2 + 1) else t
theorem bst_cnt : ∀ (l : List (List Int)) (t : Int × List Int × Int), 0 ≤ t.2.2 → 0 ≤ (l.foldl bst t).2.2 ∧ (l.foldl bst t).2.2 ≤ t.2.2 + l.length
  | [], t, h => by simp [h]
  | q :: l, t, h => by
    have h1 : 0 ≤ (bst t q).2.2 ∧ (bst t q).2.2 ≤ t.2.2 + 1 := by
      unfold bst
      split
      · simp only []; omega
      · split
        · simp only []; omega
        · omega
    have h2 := bst_cnt l (bst t q) h1.1
    rw [List.foldl_cons, List.length_cons]
    omega
theorem visit_eq (n : Nat × Nat) (q L : List Int) (hL : (L.length : Int) = mny q) (w : Int) (f : List Int) (c : Int) (hc : 0 ≤ c ∧ c ≤ 2000000) : D91io00111 n q L w f c = some ((), (bst (w, f, c) q).1, (bst (w, f, c) q).2.1, (bst (w, f, c) q).2.2, ()) := by
  unfold D91io00111 bst
  rw [hL]
  by_cases h1 : mny q < w
  · rw [decide_eq_true h1, cond_true, if_pos h1]
  · rw [decide_eq_false h1, cond_false, if_neg h1]
    by_cases h2 : mny q = w
    · rw [if_pos h2, show (mny q == w) = true by simpa using h2, cond_true, wr_ok (by omega) (by omega)]
    · rw [if_neg h2, beq_false_of_ne h2, cond_false]
theorem rm_up_hi {sz : Int} (L : List Int) : rm sz L L.length = sz := by unfold rm; rw [List.getD_eq_getElem?_getD, List.getElem?_eq_none (by omega), Option.getD_none]
theorem bounds_full (n : Nat) : bounds none (some (n : Int)) (some (n : Int)) n = true := by
  unfold bounds
  simp
theorem put_eq {sz : Int} {ps : List Int} (hj : Job sz ps) : ∀ (r b L : List Int), SI sz ps.length ps b L → (L.length : Int) = mny b → ps.drop b.length = r → ∀ d, r.length < d → ∀ t : Int × List Int × Int, 0 ≤ t.2.2 → t.2.2 + (pl sz ps.length r b L).length ≤ 1000000 →
    DT101f91io001110 N d b L ps t.1 t.2.1 t.2.2 sz = some ((), ps, ((pl sz ps.length r b L).foldl bst t).1, ((pl sz ps.length r b L).foldl bst t).2.1, ((pl sz ps.length r b L).foldl bst t).2.2, sz, ()) := by
  intro r
  induction r with
  | nil =>
    intro b L h hL hr d hd t ht ht2
    obtain ⟨d, rfl⟩ : ∃ k, d = k + 1 := ⟨d - 1, by omega⟩
    have hle := h.le
    have hb : b.length = ps.length := by have := List.drop_eq_nil_iff.1 hr; omega
    rw [DT101f91io001110_succ]
    unfold DB101f91io001110
    have e : pl sz ps.length [] b L = [b] := rfl
    rw [e] at ht2 ⊢
    rw [show ((b.length : Int) == (ps.length : Int)) = true by simp [hb], cond_true, visit_eq N b L hL _ _ _ ⟨ht, by omega⟩, Option.bind_some]
    rfl
  | cons p r ih =>
    intro b L h hL hr d hd t ht ht2
    obtain ⟨d, rfl⟩ : ∃ k, d = k + 1 := ⟨d - 1, by omega⟩
    have hb : b.length < ps.length := by
      rcases Nat.lt_or_ge b.length ps.length with h | h
      · exact h
      · rw [List.drop_eq_nil_of_le h] at hr; cases hr
    have hp : ps[b.length] = p ∧ ps.drop (b.length + 1) = r := by
      rw [drop_cons hb] at hr
      exact ⟨(List.cons.inj hr).1, (List.cons.inj hr).2⟩
    obtain ⟨hp1, hp2⟩ := hp
    have h8 := h.job.len
    have hlb := h.lb
    have hlo := h.job.lo
    have hhi := h.job.hi
    have hpr := hj.ok _ (List.getElem_mem hb)
    rw [hp1] at hpr
    have hmin : min (L.length + 1) ps.length = L.length + 1 := by omega
    rw [DT101f91io001110_succ]
    unfold DB101f91io001110
    rw [beq_false_of_ne (show (b.length : Int) ≠ (ps.length : Int) by omega), cond_false, wr_succ (by omega)]
    have loop : ∀ (e s : Nat), s + e = L.length + 1 → ∀ (m : Nat), e < m → ∀ t : Int × List Int × Int, 0 ≤ t.2.2 → t.2.2 + ((List.range' s e).flatMap fun s => if p ≤ rm sz L s then pl sz ps.length r (b ++ [(s : Int)]) (up sz L s p) else []).length ≤ 1000000 →
        DL101f91io001110_1 N (DT101f91io001110 N d) m b L (b.length : Int) ((L.length + 1 : Nat) : Int) (s : Int) ps sz t.1 t.2.1 t.2.2 =
          some ((), ps, (((List.range' s e).flatMap fun s => if p ≤ rm sz L s then pl sz ps.length r (b ++ [(s : Int)]) (up sz L s p) else []).foldl bst t).1, (((List.range' s e).flatMap fun s => if p ≤ rm sz L s then pl sz ps.length r (b ++ [(s : Int)]) (up sz L s p) else []).foldl bst t).2.1, (((List.range' s e).flatMap fun s => if p ≤ rm sz L s then pl sz ps.length r (b ++ [(s : Int)]) (up sz L s p) else []).foldl bst t).2.2, sz, ()) := by
      intro e
      induction e with
      | zero =>
        intro s hs m hm t ht ht2
        obtain ⟨m, rfl⟩ : ∃ k, m = k + 1 := ⟨m - 1, by omega⟩
        rw [DL101f91io001110_1_succ]
        unfold DF101f91io001110_1
        rw [dlt_f (by omega), cond_false]
        rfl
      | succ e ihe =>
        intro s hs m hm t ht ht2
        obtain ⟨m, rfl⟩ : ∃ k, m = k + 1 := ⟨m - 1, by omega⟩
        have h1 : s ≤ L.length := by omega
        have hrm := rm_rng h.rng (by omega : 0 ≤ sz) s
        have hul := up_len (sz := sz) p h1
        rw [List.range'_succ, List.flatMap_cons] at ht2 ⊢
        rw [DL101f91io001110_1_succ]
        unfold DF101f91io001110_1
        rw [dlt_t (by omega), cond_true, clone_eq N L (by omega), Option.bind_some]
        have hn1 : s + 1 + e = L.length + 1 := by omega
        -- what is done with the piece on this sheet
        have fin : ∀ (A : List Int), A = (if s = L.length then L ++ [sz] else L) →
            ((bif inB (s : Int) A.length then (idx A (s : Int)).bind fun x8' =>
              (idx ps (b.length : Int)).bind fun x9' =>
              (bif inB (s : Int) A.length then (idx A (s : Int)).bind fun x10' =>
                (bif inB (s : Int) (A.set (Int.toNat (s : Int)) (wr .i64 (x8' - x9'))).length then (idx (A.set (Int.toNat (s : Int)) (wr .i64 (x8' - x9'))) (s : Int)).bind fun x11' =>
                  (bif decide (x11' ≥ 0) then (bif ((b.length : Int) == (b.length : Int)) && bounds none (some (b.length : Int)) (some (b.length : Int)) b.length then (bif decide ((b.take (Int.toNat (b.length : Int))).length + [(s : Int)].length ≤ lim) && ((b.take (Int.toNat (b.length : Int))).isEmpty || ![(s : Int)].isEmpty) then (DT101f91io001110 N d ((b.take (Int.toNat (b.length : Int))) ++ [(s : Int)]) (A.set (Int.toNat (s : Int)) (wr .i64 (x8' - x9'))) ps t.1 t.2.1 t.2.2 sz).bind fun r12' =>
                        DL101f91io001110_2 N (DT101f91io001110 N d) (DL101f91io001110_1 N (DT101f91io001110 N d) m) b L (b.length : Int) ((L.length + 1 : Nat) : Int) (s : Int) r12'.2.1 r12'.2.2.2.2.2.1 r12'.2.2.1 r12'.2.2.2.1 r12'.2.2.2.2.1
                      else none)
                    else none)
                  else DL101f91io001110_2 N (DT101f91io001110 N d) (DL101f91io001110_1 N (DT101f91io001110 N d) m) b L (b.length : Int) ((L.length + 1 : Nat) : Int) (s : Int) ps sz t.1 t.2.1 t.2.2)
                else none)
              else none)
            else none) : Option R101f91io001110) =
            some ((), ps, ((((if p ≤ rm sz L s then pl sz ps.length r (b ++ [(s : Int)]) (up sz L s p) else []) ++ (List.range' (s + 1) e).flatMap fun s => if p ≤ rm sz L s then pl sz ps.length r (b ++ [(s : Int)]) (up sz L s p) else []).foldl bst t).1),
              ((((if p ≤ rm sz L s then pl sz ps.length r (b ++ [(s : Int)]) (up sz L s p) else []) ++ (List.range' (s + 1) e).flatMap fun s => if p ≤ rm sz L s then pl sz ps.length r (b ++ [(s : Int)]) (up sz L s p) else []).foldl bst t).2.1),
              ((((if p ≤ rm sz L s then pl sz ps.length r (b ++ [(s : Int)]) (up sz L s p) else []) ++ (List.range' (s + 1) e).flatMap fun s => if p ≤ rm sz L s then pl sz ps.length r (b ++ [(s : Int)]) (up sz L s p) else []).foldl bst t).2.2), sz, ()) := by
          intro A hA
          have hAs : A.set s (rm sz L s - p) = up sz L s p := by rw [hA]; rfl
          have hAl : s < A.length := by
            rw [hA]; split
            · simp; omega
            · omega
          have hAg : A[s] = rm sz L s := by
            subst hA
            by_cases he : s = L.length
            · subst he
              rw [rm_up_hi]
              simp
            · simp only [if_neg he]
              exact (rm_get (by omega)).symm
          have hAu : (up sz L s p)[s]'(by omega) = rm sz L s - p := by rw [up_get, if_pos rfl]
          rw [inB_nat hAl, cond_true, idx_nat hAl, Option.bind_some, idx_nat hb, Option.bind_some, cond_true, Option.bind_some, Int.toNat_natCast, hAg, hp1, wr_ok (by omega) (by omega), hAs, inB_nat (by omega), cond_true, idx_nat (by omega : s < (up sz L s p).length), Option.bind_some, hAu]
          unfold DL101f91io001110_2
          rw [wr_succ (by omega)]
          by_cases hf : p ≤ rm sz L s
          · rw [if_pos hf] at ht2
            rw [decide_eq_true (show rm sz L s - p ≥ 0 by omega), cond_true, if_pos hf, bounds_full, beq_self_eq_true, Bool.true_and, cond_true, Int.toNat_natCast, List.take_length, lim_dec (by omega)]
            simp only [List.isEmpty_cons, Bool.not_false, Bool.or_true, Bool.and_true, cond_true]
            have hch := h.child hb h1 (by omega) (by rw [hp1]; exact hf)
            rw [hp1] at hch
            rw [List.length_append] at ht2
            rw [ih _ _ hch (by rw [hul, mny_snoc]; omega) (by simp only [List.length_append, List.length_cons, List.length_nil]; exact hp2) d (by simp only [List.length_cons] at hd; omega) t ht (by omega), Option.bind_some, List.foldl_append]
            have hc := bst_cnt (pl sz ps.length r (b ++ [(s : Int)]) (up sz L s p)) t ht
            have := ihe (s + 1) hn1 m (by omega) ((pl sz ps.length r (b ++ [(s : Int)]) (up sz L s p)).foldl bst t) hc.1 (by omega)
            exact this
          · rw [if_neg hf, List.nil_append] at ht2
            rw [decide_eq_false (show ¬ rm sz L s - p ≥ 0 by omega), cond_false, if_neg hf, List.nil_append]
            exact ihe (s + 1) hn1 m (by omega) t ht ht2
        by_cases he : s = L.length
        · rw [show ((s : Int) == (L.length : Int)) = true by simp [he], cond_true, lim_dec (by omega), cond_true]
          exact fin _ (by rw [if_pos he])
        · rw [beq_false_of_ne (show (s : Int) ≠ (L.length : Int) by omega), cond_false]
          exact fin _ (by rw [if_neg he])
    have hpl : pl sz ps.length (p :: r) b L = (List.range' 0 (L.length + 1)).flatMap fun s => if p ≤ rm sz L s then pl sz ps.length r (b ++ [(s : Int)]) (up sz L s p) else [] := by
      rw [← hmin]; rfl
    rw [hpl] at ht2 ⊢
    exact loop (L.length + 1) 0 (by omega) N.1 (by have : N.1 = 1000000 := rfl; omega) t ht ht2
theorem bst_same {m : Int} : ∀ (l : List (List Int)) (f : List Int) (c : Int), (∀ q ∈ l, m ≤ mny q) → l.foldl bst (m, f, c) = (m, f, c + ((l.filter fun q => decide (mny q = m)).length : Int))
  | [], f, c, _ => by simp
  | q :: l, f, c, h => by
    have hq := h q (by simp)
    have ih := fun c => bst_same l f c (fun q hq => h q (by simp [hq]))
    rw [List.foldl_cons, List.filter_cons]
    by_cases e : mny q = m
    · have hb : bst (m, f, c) q = (m, f, c + 1) := by unfold bst; rw [if_neg (by simp only []; omega), if_pos e]
      rw [hb, ih, if_pos (by simpa using e), List.length_cons]
      congr 2
      omega
    · have hb : bst (m, f, c) q = (m, f, c) := by unfold bst; rw [if_neg (by simp only []; omega), if_neg e]
      rw [hb, ih, if_neg (by simpa using e)]
theorem bst_min {m : Int} : ∀ (l : List (List Int)) (t : Int × List Int × Int), (∀ q ∈ l, m ≤ mny q) → (∃ q ∈ l, mny q = m) → m < t.1 → l.foldl bst t = (m, (l.filter fun q => decide (mny q = m)).headD [], ((l.filter fun q => decide (mny q = m)).length : Int))
  | [], t, _, h, _ => by obtain ⟨q, hq, _⟩ := h; cases hq
  | q :: l, t, h, he, ht => by
    have hq := h q (by simp)
    rw [List.foldl_cons, List.filter_cons]
    by_cases e : mny q = m
    · have hb : bst t q = (m, q, 1) := by unfold bst; rw [if_pos (by omega), e]
      rw [hb, bst_same l q 1 (fun q hq => h q (by simp [hq])), if_pos (by simpa using e), List.headD_cons, List.length_cons]
      congr 2
      omega
    · rw [if_neg (by simpa using e)]
      refine bst_min l _ (fun q hq => h q (by simp [hq])) ?_ ?_
      · obtain ⟨x, hx, hxm⟩ := he
        rcases List.mem_cons.1 hx with rfl | hx
        · exact absurd hxm e
        · exact ⟨x, hx, hxm⟩
      · unfold bst
        split
        · simp only []; omega
        · split <;> exact ht
theorem apl_min {sz : Int} {ps : List Int} (hj : Job sz ps) : ∀ q ∈ apl sz ps ps.length, (fw sz ps : Int) ≤ mny q := fun q hq => by
  obtain ⟨h1, h2, h3⟩ := fw_spec hj
  have h0 := mny_nn q
  by_cases e : (fw sz ps : Int) ≤ mny q
  · exact e
  · have := apl_down (mo := (mny q).toNat) hq (by omega) (by have := apl_le hq; omega)
    rw [h3 _ (by omega)] at this
    cases this
theorem apl_fw {sz : Int} {ps : List Int} (hj : Job sz ps) : apl sz ps (fw sz ps) = (apl sz ps ps.length).filter fun q => decide (mny q = fw sz ps) := by
  obtain ⟨h1, h2, h3⟩ := fw_spec hj
  rw [apl_filter h2]
  refine List.filter_congr (fun q hq => ?_)
  have := apl_min hj q hq
  exact decide_eq_decide.2 (by omega)
/-- The law's best plan. -/
theorem best_eq {sz : Int} {ps : List Int} (hj : Job sz ps) : D52 N sz ps = some ((apl sz ps (fw sz ps)).headD [], (fw sz ps : Int), ((apl sz ps (fw sz ps)).length : Int)) := by
  obtain ⟨h1, h2, h3⟩ := fw_spec hj
  have h8 := hj.len
  have hcount := apl_count hj ps.length
  unfold D52 D90c91io001 D101f91io001110
  rw [wr_succ (by omega)]
  have hp := put_eq hj ps [] [] ⟨hj, by simp, by simp, by simp, by simp, by omega⟩ rfl rfl N.1 (by have : N.1 = 1000000 := rfl; omega) (((ps.length + 1 : Nat) : Int), [], 0) (Int.le_refl 0) (by unfold apl at hcount; simp only []; omega)
  simp only [] at hp
  rw [hp]
  simp only [Option.bind_some]
  obtain ⟨q, hq⟩ := List.exists_mem_of_ne_nil _ h1
  have hm := fw_mny hj hq
  have hmem : q ∈ apl sz ps ps.length := by rw [apl_fw hj] at hq; exact (List.mem_filter.1 hq).1
  have hb := bst_min (m := (fw sz ps : Int)) (apl sz ps ps.length) (((ps.length + 1 : Nat) : Int), [], 0) (apl_min hj) ⟨q, hmem, hm⟩ (by simp only []; omega)
  unfold apl at hb
  rw [hb]
  have := apl_fw hj
  unfold apl at this ⊢
  rw [this]
def goodC (s : Int) : Option (List Int) → Bool
  | some l => decide (l.length ≤ 20) && !l.isEmpty && l.all fun p => decide (1 ≤ p) && decide (s % p = 0) && l.all fun q => decide (p % q = 0) || decide (q % p = 0)
  | none => false
theorem chain_all : ∀ s : Fin 25, ∀ b : Fin 128, 1 ≤ s.val → goodC s.val (D89 N s.val b.val) = true := by decide +kernel
/-- A piece's length. -/
def pc (l : List Int) (i : Int) : Int := l.getD i.toNat 0
theorem idx_pc {l : List Int} {i : Int} (h0 : 0 ≤ i) (h1 : i < l.length) : idx l i = some (pc l i) := by
  rw [idx_int (k := i.toNat) (by omega) (by omega)]
  simp [pc, show i.toNat < l.length by omega]
theorem pc_mem {l : List Int} {i : Int} (h0 : 0 ≤ i) (h1 : i < l.length) : pc l i ∈ l := by
  unfold pc
  rw [List.getD_eq_getElem?_getD, List.getElem?_eq_getElem (by omega), Option.getD_some]
  exact List.getElem_mem _
/-- Numbers are put into a list that falls, and numbers one after the other. -/
def insR (c : Int → Int → Bool) (x : Int) : List Int → List Int
  | [] => [x]
  | y :: Q => bif c x y then y :: insR c x Q else x :: y :: Q
def srt (c : Int → Int → Bool) : List Int → List Int → List Int
  | Q, [] => Q
  | Q, x :: r => srt c (insR c x Q) r
theorem insR_perm (c : Int → Int → Bool) (x : Int) : ∀ Q, (insR c x Q).Perm (x :: Q)
  | [] => List.Perm.refl _
  | y :: Q => by
    unfold insR
    cases c x y
    · exact List.Perm.refl _
    · exact (List.Perm.cons y (insR_perm c x Q)).trans (List.Perm.swap x y Q)
theorem insR_len (c : Int → Int → Bool) (x : Int) (Q : List Int) : (insR c x Q).length = Q.length + 1 := (insR_perm c x Q).length_eq
theorem srt_perm (c : Int → Int → Bool) : ∀ r Q, (srt c Q r).Perm (r ++ Q)
  | [], Q => List.Perm.refl _
  | x :: r, Q => by
    unfold srt
    refine (srt_perm c r _).trans (((insR_perm c x Q).append_left r).trans ?_)
    exact List.perm_middle
theorem insR_sort {c : Int → Int → Bool} {R : Int → Int → Prop} (ht : ∀ i j k, R i j → R j k → R i k) {x : Int} : ∀ {Q : List Int}, (∀ y ∈ Q, (c x y = true → R x y) ∧ (c x y = false → R y x)) → Q.Pairwise (fun a b => R b a) → (insR c x Q).Pairwise (fun a b => R b a)
  | [], _, _ => by simp [insR]
  | y :: Q, h, hp => by
    rw [List.pairwise_cons] at hp
    unfold insR
    cases e : c x y
    · rw [cond_false]
      have hy := (h y (by simp)).2 e
      refine List.pairwise_cons.2 ⟨fun z hz => ?_, List.pairwise_cons.2 hp⟩
      rcases List.mem_cons.1 hz with e' | hz
      · subst e'; exact hy
      · exact ht _ _ _ (hp.1 z hz) hy
    · rw [cond_true]
      refine List.pairwise_cons.2 ⟨fun z hz => ?_, insR_sort ht (fun y hy => h y (by simp [hy])) hp.2⟩
      rcases List.mem_cons.1 ((insR_perm c x Q).mem_iff.1 hz) with e' | hz
      · subst e'; exact (h y (by simp)).1 e
      · exact hp.1 z hz
theorem srt_sort {c : Int → Int → Bool} {R : Int → Int → Prop} (ht : ∀ i j k, R i j → R j k → R i k) {P : Int → Prop} (hc : ∀ x y, P x → P y → y < x → (c x y = true → R x y) ∧ (c x y = false → R y x)) : ∀ {r Q : List Int}, (∀ x ∈ r, P x) → (∀ x ∈ Q, P x) → (∀ x ∈ r, ∀ y ∈ Q, y < x) → r.Pairwise (· < ·) → Q.Pairwise (fun a b => R b a) → (srt c Q r).Pairwise (fun a b => R b a)
  | [], Q, _, _, _, _, hQ => hQ
  | x :: r, Q, pr, pQ, hlt, hr, hQ => by
    unfold srt
    rw [List.pairwise_cons] at hr
    refine srt_sort ht hc (fun y hy => pr y (by simp [hy])) (fun y hy => ?_) (fun y hy z hz => ?_) hr.2 (insR_sort ht (fun y hy => hc x y (pr x (by simp)) (pQ y hy) (hlt x (by simp) y hy)) hQ)
    · rcases List.mem_cons.1 ((insR_perm c x Q).mem_iff.1 hy) with e | hy
      · subst e; exact pr y (by simp)
      · exact pQ y hy
    · rcases List.mem_cons.1 ((insR_perm c x Q).mem_iff.1 hz) with e | hz
      · subst e; exact hr.1 y hy
      · exact hlt y (by simp [hy]) z hz
theorem idx_at {α : Type} {A r : List α} {y : α} {k : Nat} (h : A.length = k) : idx (A ++ y :: r) (k : Int) = some y := by
  rw [idx_nat (by simp; omega)]
  simp [← h]
theorem set_at {α : Type} {A r : List α} {y z : α} {k : Nat} (h : A.length = k) : (A ++ y :: r).set k z = A ++ z :: r := by
  subst h
  induction A with
  | nil => rfl
  | cons a A ih => simp only [List.cons_append, List.length_cons, List.set_cons_succ, ih]
def cmf (l : List Int) (x y : Int) : Bool := decide (pc l y < pc l x)
theorem cmpf (n : Nat × Nat) {l : List Int} (hb : ∀ s ∈ l, 1 ≤ s ∧ s ≤ 24) {i j : Int} (hi : 0 ≤ i ∧ i < l.length) (hj : 0 ≤ j ∧ j < l.length) : ∃ r : Int, D97 n i j l = some r ∧ decide (r < 0) = cmf l i j := by
  unfold D97 cmf
  rw [idx_pc hi.1 hi.2, idx_pc hj.1 hj.2]
  have o1 := hb _ (pc_mem hi.1 hi.2)
  have o2 := hb _ (pc_mem hj.1 hj.2)
  refine ⟨pc l j - pc l i, ?_, ?_⟩
  · simp only [Option.bind_some]
    rw [wr_ok (by omega) (by omega)]
  · exact decide_eq_decide.2 (by omega)
theorem inf_loop (n : Nat × Nat) (l : List Int) (hb : ∀ s ∈ l, 1 ≤ s ∧ s ≤ 24) (f : Int → Int → Int → List Int → List Int → Option R105c97io1001) (b i : Int) (x : Int) (hx : 0 ≤ x ∧ x < l.length) : ∀ (m : Nat) (Q T : List Int), Q.length < m → Q.length < 1000 → (∀ y ∈ Q, 0 ≤ y ∧ y < l.length) →
    DL105c97io1001_2 n f m 0 b i (Q.length : Int) (Q.reverse ++ x :: T) l = f 0 b (wr .i64 (i + 1)) ((insR (cmf l) x Q).reverse ++ T) l
  | 0, Q, T, h, _, _ => by omega
  | m + 1, [], T, h, _, hQ => by
    rw [DL105c97io1001_2_succ]
    unfold DF105c97io1001_2
    simp [insR]
  | m + 1, y :: Q, T, h, h8, hQ => by
    rw [DL105c97io1001_2_succ]
    unfold DF105c97io1001_2
    rw [List.length_cons] at h h8
    have hy := hQ y (by simp)
    obtain ⟨r, hr, hd⟩ := cmpf n hb hx hy
    have ih := inf_loop n l hb f b i x hx m Q (y :: T) (by omega) (by omega) (fun z hz => hQ z (by simp [hz]))
    have e : (y :: Q).reverse ++ x :: T = Q.reverse ++ y :: x :: T := by simp
    have w : wr .i64 (((y :: Q).length : Int) - 1) = (Q.length : Int) := by rw [List.length_cons, wr_ok (by omega) (by omega)]; omega
    have a1 : ∀ T' : List Int, idx (Q.reverse ++ y :: x :: T') ((y :: Q).length : Int) = some x := fun T' => by
      have := idx_at (A := Q.reverse ++ [y]) (r := T') (y := x) (k := (y :: Q).length) (by simp)
      simpa using this
    have a2 : ∀ T' : List Int, idx (Q.reverse ++ y :: T') (Q.length : Int) = some y := fun T' => idx_at (by simp)
    have a3 : (Q.reverse ++ y :: x :: T).set (y :: Q).length y = Q.reverse ++ y :: y :: T := by
      have := set_at (A := Q.reverse ++ [y]) (r := T) (y := x) (z := y) (k := (y :: Q).length) (by simp)
      rw [List.append_assoc, List.append_assoc] at this
      exact this
    have a4 : (Q.reverse ++ y :: y :: T).set Q.length x = Q.reverse ++ x :: y :: T := set_at (by simp)
    rw [e]
    rw [decide_eq_true (show (((y :: Q).length : Nat) : Int) > 0 by rw [List.length_cons]; omega), w]
    simp only [beq_self_eq_true, cond_true]
    rw [inB_nat (show (y :: Q).length < (Q.reverse ++ y :: x :: T).length by simp <;> omega), inB_nat (show Q.length < (Q.reverse ++ y :: x :: T).length by simp <;> omega)]
    simp only [cond_true, a1, a2, Option.bind_some, hr, hd]
    unfold insR
    cases cmf l x y
    · simp only [cond_false]
      congr 1
      simp
    · simp only [cond_true]
      rw [Int.toNat_natCast, Int.toNat_natCast, a3, a2, inB_nat (show Q.length < (Q.reverse ++ y :: y :: T).length by simp <;> omega)]
      simp only [cond_true, Option.bind_some, a4, ih]
      congr 1
      simp
theorem sof_loop (n : Nat × Nat) (hn : 1000 ≤ n.1) (l : List Int) (hb : ∀ s ∈ l, 1 ≤ s ∧ s ≤ 24) : ∀ (m : Nat) (r Q : List Int), r.length < m → Q.length + r.length < 900 → (∀ y ∈ Q, 0 ≤ y ∧ y < l.length) → (∀ y ∈ r, 0 ≤ y ∧ y < l.length) →
    DL105c97io1001_1 n m 0 ((Q.length + r.length : Nat) : Int) (Q.length : Int) (Q.reverse ++ r) l = some ((), (srt (cmf l) Q r).reverse, l, ())
  | 0, r, Q, h, _, _, _ => by omega
  | m + 1, [], Q, h, _, _, _ => by
    rw [DL105c97io1001_1_succ]
    unfold DF105c97io1001_1
    rw [dlt_f (by simp), cond_false]
    simp [srt]
  | m + 1, x :: r, Q, h, h8, hQ, hr => by
    rw [DL105c97io1001_1_succ]
    unfold DF105c97io1001_1
    rw [List.length_cons] at h h8
    have ih := sof_loop n hn l hb m r (insR (cmf l) x Q) (by omega) (by rw [insR_len]; omega) (fun y hy => by
      rcases List.mem_cons.1 ((insR_perm _ x Q).mem_iff.1 hy) with e | hy
      · subst e; exact hr y (by simp)
      · exact hQ y hy) (fun y hy => hr y (by simp [hy]))
    rw [dlt_t (by simp), cond_true, inf_loop n l hb _ _ _ x (hr x (by simp)) n.1 Q r (by omega) (by omega) hQ, wr_succ (by omega)]
    rw [insR_len] at ih
    rw [show Q.length + 1 + r.length = Q.length + (x :: r).length by rw [List.length_cons]; omega] at ih
    rw [ih]
    rfl
theorem sortf_eq {n : Nat × Nat} (hn : 1000 ≤ n.1) {l : List Int} (hb : ∀ s ∈ l, 1 ≤ s ∧ s ≤ 24) {r : List Int} (h7 : r.length ≤ 8) (hr : ∀ y ∈ r, 0 ≤ y ∧ y < l.length) : D96c97io11 n r l = some ((), (srt (cmf l) [] r).reverse, l, ()) := by
  have hs5 : D105c97io1001 n r 0 (r.length : Int) l = some ((), (srt (cmf l) [] r).reverse, l, ()) := by
    unfold D105c97io1001
    match r, h7, hr with
    | [], _, _ =>
      have : n.1 = (n.1 - 1) + 1 := by omega
      rw [this, DL105c97io1001_1_succ]
      unfold DF105c97io1001_1
      rw [show wr .i64 ((0 : Int) + 1) = 1 by rw [wr_ok (by omega) (by omega)]; omega]
      rfl
    | x :: r, h7, hr =>
      have := sof_loop n hn l hb n.1 r [x] (by simp at h7; omega) (by simp at h7 ⊢; omega) (fun y hy => by rw [List.mem_singleton] at hy; subst hy; exact hr y (by simp)) (fun y hy => hr y (by simp [hy]))
      rw [show wr .i64 ((0 : Int) + 1) = 1 by rw [wr_ok (by omega) (by omega)]; omega]
      simpa [srt, insR, Nat.add_comm] using this
  have hl : (srt (cmf l) [] r).reverse.length = r.length := by
    rw [List.length_reverse, (srt_perm (cmf l) r []).length_eq]
    simp
  have hs4 : D104c97io101 n r (r.length : Int) l = some ((), (srt (cmf l) [] r).reverse, l, ()) := by
    unfold D104c97io101
    obtain ⟨k, hk⟩ : ∃ k, n.1 = k + 1 := ⟨n.1 - 1, by omega⟩
    rw [hk, DL104c97io101_1_succ]
    unfold DF104c97io101_1
    rw [decide_eq_false (show ¬ (20 : Int) ≤ (r.length : Int) by omega), cond_false, hs5]
    simp only [Option.bind_some]
    rw [show Nat.beq (srt (cmf l) [] r).reverse.length r.length = true by rw [hl]; exact Nat.beq_refl _, cond_true, hk, DL104c97io101_2_succ]
    unfold DF104c97io101_2
    rw [decide_eq_false (show ¬ (20 : Int) < (r.length : Int) by omega), cond_false]
  unfold D96c97io11
  rw [hs4]
  simp only [Option.bind_some]
  rw [show Nat.beq (srt (cmf l) [] r).reverse.length r.length = true by rw [hl]; exact Nat.beq_refl _, cond_true]
/-- The falling order. -/
def fal (ps : List Int) : List Int := (srt (cmf ps) [] ((List.range ps.length).map fun i : Nat => (i : Int))).reverse
theorem fal_loop (n : Nat × Nat) (hn : 1000 ≤ n.1) {ps : List Int} (hb : ∀ s ∈ ps, 1 ≤ s ∧ s ≤ 24) (h8 : ps.length ≤ 8) : ∀ (m k : Nat), k ≤ ps.length → ps.length - k < m →
    DL77_1 n m (ps.length : Int) (k : Int) ps (((List.range k).map fun i : Nat => (i : Int)) ++ List.replicate (ps.length - k) 0) = some (fal ps)
  | 0, k, _, h => by omega
  | m + 1, k, hk, h => by
    rw [DL77_1_succ]
    unfold DF77_1
    by_cases hlt : k < ps.length
    · have hrep : List.replicate (ps.length - k) (0 : Int) = 0 :: List.replicate (ps.length - (k + 1)) 0 := by
        rw [← List.replicate_succ]; congr 1; omega
      have hk2 : ((List.range k).map fun i : Nat => (i : Int)).length = k := by simp
      have e2 : (List.range (k + 1)).map (fun i : Nat => (i : Int)) = ((List.range k).map fun i : Nat => (i : Int)) ++ [(k : Int)] := by
        rw [List.range_succ, List.map_append]; rfl
      rw [dlt_t hlt, cond_true, hrep, inB_nat (by simp), cond_true, idx_at hk2, Option.bind_some, Int.toNat_natCast, set_at hk2, wr_succ (by omega)]
      have ih := fal_loop n hn hb h8 m (k + 1) (by omega) (by omega)
      rw [e2, List.append_assoc, List.singleton_append] at ih
      exact ih
    · have e : k = ps.length := by omega
      subst e
      have hr : ∀ y ∈ (List.range ps.length).map (fun i : Nat => (i : Int)), 0 ≤ y ∧ y < ps.length := fun y hy => by
        obtain ⟨i, hi, rfl⟩ := List.mem_map.1 hy
        have := List.mem_range.1 hi
        omega
      rw [dlt_f hlt, cond_false, Nat.sub_self, List.replicate_zero, List.append_nil, sortf_eq hn hb (by simp; omega) hr, Option.bind_some]
      have hl : (srt (cmf ps) [] ((List.range ps.length).map fun i : Nat => (i : Int))).reverse.length = ((List.range ps.length).map fun i : Nat => (i : Int)).length := by
        rw [List.length_reverse, (srt_perm (cmf ps) _ []).length_eq]
        simp
      rw [show Nat.beq (srt (cmf ps) [] ((List.range ps.length).map fun i : Nat => (i : Int))).reverse.length ((List.range ps.length).map fun i : Nat => (i : Int)).length = true by rw [hl]; exact Nat.beq_refl _, cond_true]
      rfl
theorem fall_eq {n : Nat × Nat} (hn : 1000 ≤ n.1) {ps : List Int} (hb : ∀ s ∈ ps, 1 ≤ s ∧ s ≤ 24) (h8 : ps.length ≤ 8) : D77 n ps = some (fal ps) := by
  unfold D77
  rw [decide_eq_true (show (0 : Int) ≤ (ps.length : Int) by omega), decide_eq_true (show (ps.length : Int) ≤ (ps.length : Int) by omega), decide_eq_true (show (ps.length : Int) ≤ lim by unfold lim; omega), Int.toNat_natCast, List.length_replicate]
  have := fal_loop n hn hb h8 n.1 0 (by omega) (by omega)
  exact this
theorem fal_perm (ps : List Int) : (fal ps).Perm ((List.range ps.length).map fun i : Nat => (i : Int)) := by
  unfold fal
  refine (List.reverse_perm _).trans ((srt_perm _ _ []).trans ?_)
  rw [List.append_nil]
/-- The order of the falling order. -/
def Fbf (ps : List Int) (i j : Int) : Prop := pc ps j < pc ps i ∨ pc ps i = pc ps j ∧ i < j
theorem fal_sort (ps : List Int) : (fal ps).Pairwise (Fbf ps) := by
  unfold fal
  rw [List.pairwise_reverse]
  refine srt_sort (R := Fbf ps) (fun i j k h1 h2 => by unfold Fbf at *; omega) (P := fun _ => True) (fun x y _ _ hlt => ?_) (fun _ _ => trivial) (fun _ _ => trivial) (fun _ _ y hy => by cases hy) ?_ List.Pairwise.nil
  · unfold cmf Fbf
    refine ⟨fun h => ?_, fun h => ?_⟩
    · have := of_decide_eq_true h; omega
    · have := of_decide_eq_false h; omega
  · rw [List.pairwise_map]
    exact (List.pairwise_lt_range).imp (fun h => by omega)
end Go.Proofs.YtgmonagekfjnmaaDoor
set_option linter.unusedVariables false
set_option linter.unusedSimpArgs false
set_option maxRecDepth 100000
namespace Go.Proofs.YtgmonagekfjnmaaDoor
open Go.Vi
/-D 41 -/
/-D 88 -/
/-D 43 -/
/-D 45 -/
/-D 47 -/
/-D 6 -/
end Go.Proofs.YtgmonagekfjnmaaDoor
set_option linter.unusedVariables false
set_option linter.unusedSimpArgs false
namespace Go.Proofs.YtgmonagekfjnmaaDoor
open Go.Vi
/-! Bounds. -/
def divT : List Int := [0, 2, 6, 10, 22, 34, 78, 130, 278, 522, 1062, 2050, 4190, 8194, 16518, 32810, 65814, 131074, 262734, 524290, 1049654, 2097290, 4196358, 8388610, 16781662]
def dbit (x p : Int) : Bool := (wr .u32 (BitVec.ofInt (IntKind.bits .u32) (Int.fdiv x (2 ^ (min (Int.toNat p) (IntKind.bits .u32)))) &&& BitVec.ofInt (IntKind.bits .u32) 1).toNat) == 0
theorem div_tab : ∀ s : Fin 25, ∀ p : Fin 25, 1 ≤ s.val → 1 ≤ p.val → dbit (divT.getD s.val 0) (p.val : Int) = !decide (s.val % p.val = 0) := by decide +kernel
theorem div_bit {s p : Int} (hs : 1 ≤ s ∧ s ≤ 24) (hp : 1 ≤ p ∧ p ≤ 24) : ∃ x, idx divT s = some x ∧ dbit x p = !decide (s % p = 0) := by
  have h := div_tab ⟨s.toNat, by omega⟩ ⟨p.toNat, by omega⟩ (by simp only []; omega) (by simp only []; omega)
  simp only [] at h
  have hl : s.toNat < divT.length := by
    have : divT.length = 25 := rfl
    omega
  refine ⟨divT[s.toNat], idx_int (by omega) hl, ?_⟩
  rw [List.getD_eq_getElem?_getD, List.getElem?_eq_getElem hl, Option.getD_some, show ((p.toNat : Nat) : Int) = p by omega] at h
  rw [h]
  congr 1
  apply decide_eq_decide.2
  have e1 : (s.toNat : Int) = s := by omega
  have e2 : (p.toNat : Int) = p := by omega
  constructor
  · intro hh
    rw [← e1, ← e2]
    exact_mod_cast hh
  · intro hh
    rw [← e1, ← e2] at hh
    exact_mod_cast hh
/-- Each one divides the one before it. -/
def Chn : Int → List Int → Prop
  | _, [] => True
  | s, p :: r => s % p = 0 ∧ Chn p r
instance Chn.dec : ∀ (s : Int) (l : List Int), Decidable (Chn s l)
  | _, [] => .isTrue trivial
  | s, p :: r => by
    unfold Chn
    have := Chn.dec p r
    exact inferInstance
theorem chain_loop (n : Nat × Nat) {ps : List Int} (hb : ∀ p ∈ ps, 1 ≤ p ∧ p ≤ 24) {o : List Int} (ho : ∀ i ∈ o, 0 ≤ i ∧ i < ps.length) (hl : o.length ≤ 8) : ∀ (m k : Nat) (s : Int), k ≤ o.length → o.length - k < m → 1 ≤ s ∧ s ≤ 24 →
    DL40_1 n m s ps (o.length : Int) (k : Int) o = some (decide (Chn s ((o.drop k).map (pc ps))), 0)
  | 0, k, s, _, h, _ => by omega
  | m + 1, k, s, hk, h, hs => by
    rw [DL40_1_succ]
    unfold DF40_1
    by_cases hlt : k < o.length
    · have hi := ho _ (List.getElem_mem hlt)
      have hp := hb _ (pc_mem hi.1 hi.2)
      obtain ⟨x, hx, hd⟩ := div_bit hs hp
      rw [dlt_t hlt, cond_true, inB_nat hlt, cond_true, idx_nat hlt, Option.bind_some]
      rw [show idx ([0, 2, 6, 10, 22, 34, 78, 130, 278, 522, 1062, 2050, 4190, 8194, 16518, 32810, 65814, 131074, 262734, 524290, 1049654, 2097290, 4196358, 8388610, 16781662] : List Int) s = some x from hx, Option.bind_some, idx_pc hi.1 hi.2, Option.bind_some, decide_eq_false (by omega), cond_false, Option.bind_some, drop_cons hlt, List.map_cons]
      rw [show ((wr .u32 (BitVec.ofInt (IntKind.bits .u32) (Int.fdiv x (2 ^ (min (Int.toNat (pc ps o[k])) (IntKind.bits .u32)))) &&& BitVec.ofInt (IntKind.bits .u32) 1).toNat) == 0) = !decide (s % pc ps o[k] = 0) from hd, wr_succ (by omega), chain_loop n hb ho hl m (k + 1) _ (by omega) (by omega) hp]
      by_cases e : s % pc ps o[k] = 0
      · rw [decide_eq_true e, Bool.not_true, cond_false]
        congr 2
        apply decide_eq_decide.2
        exact ⟨fun h => ⟨e, h⟩, fun h => h.2⟩
      · rw [decide_eq_false e, Bool.not_false, cond_true]
        congr 2
        symm
        apply decide_eq_false
        exact fun hh => e hh.1
    · rw [dlt_f hlt, cond_false, List.drop_of_length_le (by omega)]
      rfl
/-- Lengths are a chain. -/
def Cmp (x y : Int) : Prop := x % y = 0 ∨ y % x = 0
def IsC (sz : Int) (ps : List Int) : Prop := (∀ p ∈ ps, sz % p = 0) ∧ ps.Pairwise Cmp
instance (x y : Int) : Decidable (Cmp x y) := inferInstanceAs (Decidable (_ ∨ _))
instance (sz : Int) (ps : List Int) : Decidable (IsC sz ps) := inferInstanceAs (Decidable (_ ∧ _))
theorem mod_trans {a b c : Int} (h1 : a % b = 0) (h2 : b % c = 0) : a % c = 0 :=
  Int.emod_eq_zero_of_dvd (Int.dvd_trans (Int.dvd_of_emod_eq_zero h2) (Int.dvd_of_emod_eq_zero h1))
theorem chn_iff : ∀ (l : List Int) (s : Int), Chn s l ↔ (∀ p ∈ l, s % p = 0) ∧ l.Pairwise (fun x y => x % y = 0)
  | [], s => by simp [Chn]
  | p :: r, s => by
    unfold Chn
    rw [chn_iff r p, List.pairwise_cons]
    constructor
    · rintro ⟨h1, h2, h3⟩
      refine ⟨fun q hq => ?_, h2, h3⟩
      rcases List.mem_cons.1 hq with rfl | hq
      · exact h1
      · exact mod_trans h1 (h2 q hq)
    · rintro ⟨h1, h2, h3⟩
      exact ⟨h1 p (by simp), h2, h3⟩
theorem chn_fall {s : Int} {l : List Int} (hb : ∀ p ∈ l, 1 ≤ p) (hf : l.Pairwise (fun x y => y ≤ x)) : Chn s l ↔ IsC s l := by
  rw [chn_iff]
  unfold IsC
  constructor
  · rintro ⟨h1, h2⟩
    exact ⟨h1, h2.imp (fun h => .inl h)⟩
  · rintro ⟨h1, h2⟩
    refine ⟨h1, ?_⟩
    have : ∀ {l : List Int}, (∀ p ∈ l, 1 ≤ p) → l.Pairwise (fun x y => y ≤ x) → l.Pairwise Cmp → l.Pairwise (fun x y => x % y = 0) := by
      intro l
      induction l with
      | nil => intros; exact List.Pairwise.nil
      | cons x r ih =>
        intro hb hf h2
        rw [List.pairwise_cons] at hf h2 ⊢
        refine ⟨fun y hy => ?_, ih (fun p hp => hb p (by simp [hp])) hf.2 h2.2⟩
        have h3 := hf.1 y hy
        have hx := hb x (by simp)
        have hy1 := hb y (by simp [hy])
        rcases h2.1 y hy with h | h
        · exact h
        · have := Int.le_of_dvd (by omega) (Int.dvd_of_emod_eq_zero h)
          have e : x = y := by omega
          rw [e, Int.emod_self]
    exact this hb hf h2
theorem cmp_symm {x y : Int} (h : Cmp x y) : Cmp y x := Or.symm h
theorem isC_perm {s : Int} {a b : List Int} (h : a.Perm b) : IsC s a ↔ IsC s b := by
  unfold IsC
  rw [h.pairwise_iff cmp_symm]
  constructor
  · rintro ⟨h1, h2⟩
    exact ⟨fun p hp => h1 p (h.mem_iff.2 hp), h2⟩
  · rintro ⟨h1, h2⟩
    exact ⟨fun p hp => h1 p (h.mem_iff.1 hp), h2⟩
theorem map_pc (ps : List Int) : ((List.range ps.length).map fun i : Nat => (i : Int)).map (pc ps) = ps := by
  apply List.ext_getElem
  · simp
  · intro i h1 h2
    simp only [List.getElem_map, List.getElem_range, pc, Int.toNat_natCast]
    rw [List.getD_eq_getElem?_getD, List.getElem?_eq_getElem h2, Option.getD_some]
theorem fal_rng (ps : List Int) : ∀ i ∈ fal ps, 0 ≤ i ∧ i < ps.length := fun i hi => by
  obtain ⟨k, hk, rfl⟩ := List.mem_map.1 ((fal_perm ps).mem_iff.1 hi)
  have := List.mem_range.1 hk
  omega
theorem fal_len (ps : List Int) : (fal ps).length = ps.length := by
  rw [(fal_perm ps).length_eq]; simp
theorem fal_map (ps : List Int) : ((fal ps).map (pc ps)).Perm ps := by
  have := (fal_perm ps).map (pc ps)
  rwa [map_pc] at this
theorem fal_down (ps : List Int) : ((fal ps).map (pc ps)).Pairwise (fun x y => y ≤ x) := by
  rw [List.pairwise_map]
  exact (fal_sort ps).imp (fun h => by unfold Fbf at h; omega)
def chS (sz : Int) (ps : List Int) : Bool × Int := if chk sz ps ≠ 0 then (false, chk sz ps) else (decide (IsC sz ps), 0)
theorem Chain_eq {n : Nat × Nat} (hn : 1000 ≤ n.1) (sz : Int) (ps : List Int) : D40 n sz ps = some (chS sz ps) := by
  unfold D40 chS
  rw [Check_eq hn, Option.bind_some]
  by_cases h : chk sz ps = 0
  · have hj := chk_job.1 h
    have hb : ∀ s ∈ ps, 1 ≤ s ∧ s ≤ 24 := fun s hs => by have := hj.ok s hs; have := hj.hi; omega
    have hl := fal_len ps
    have h8 := hj.len
    rw [h, bne_self_eq_false, cond_false, if_neg (by simp), fall_eq hn hb hj.len, Option.bind_some]
    have := chain_loop n hb (fal_rng ps) (by omega) n.1 0 sz (by omega) (by omega) ⟨hj.lo, hj.hi⟩
    rw [show ((0 : Nat) : Int) = 0 from rfl, List.drop_zero] at this
    rw [this]
    congr 2
    apply decide_eq_decide.2
    rw [chn_fall (fun p hp => (hb p ((fal_map ps).mem_iff.1 hp)).1) (fal_down ps), isC_perm (fal_map ps)]
  · rw [show (chk sz ps != 0) = true by simpa using h, cond_true, if_pos h]
theorem tmod_mod {a b : Int} (h : 0 ≤ a) : Int.tmod a b = a % b := Int.tmod_eq_emod_of_nonneg h
end Go.Proofs.YtgmonagekfjnmaaDoor
