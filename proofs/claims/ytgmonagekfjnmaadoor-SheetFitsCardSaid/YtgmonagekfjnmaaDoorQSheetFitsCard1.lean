/- Texts of this claim, joined: G72 to Sx. -/
import Derived.BigRegionIn
import Derived.Great.Frames
import Derived.KernelRfl
import Derived.Stop.RegionWithIn
import Derived.Test.YtgmonagekfjnmaaDoorProg
import Derived.WalkKit
import Derived.Test.YtgmonagekfjnmaaDoorP6
set_option linter.unusedVariables false
set_option linter.unusedSimpArgs false
set_option maxRecDepth 100000
namespace Go.Proofs.YtgmonagekfjnmaaDoor
open Go.Vi
abbrev R72 := Bool
noncomputable def c72 : Code := bodyOf Tryd.f72
noncomputable def an72 : Ann := .l
def pk72 : List PK := [.c (.int .i64), .c (.int .i64), .c (.int .i64)]
def rk72 : List RK := [.c .bool 6]
noncomputable def rt72 (st : St) : Option R72 := rtG rk72 st
noncomputable def E72 (n : Nat × Nat) : Env := { T := tab, phi := noPhi, eff := fun _ => false, fuel := n.1, hold := n.2 }
noncomputable def S72 (n : Nat × Nat) (v0 : Int) (lo1 : Int) (hi2 : Int) : Option R72 := run (E72 n) c72 an72 rt72 (fun _ _ => none) rt72 { tm := [.c (.int .i64 v0), .c (.int .i64 lo1), .c (.int .i64 hi2), uu, uu, uu, uu, uu, uu, uu, uu, uu, uu, uu, uu], hp := emp }
theorem S72_eq (n : Nat × Nat) (v0 : Int) (lo1 : Int) (hi2 : Int) : S72 n v0 lo1 hi2 =
 ((bif (decide (v0 ≥ lo1) == true) then some (decide (v0 ≤ hi2))
 else some false)).bind fun b1' =>
 some b1' := by kernel_rfl
theorem S72_run (n : Nat × Nat) (xs : pksDen pk72) : S72 n xs.1 xs.2.1 xs.2.2.1 = runG (E72 n) noScope c72 an72 (rtG rk72) (fun _ _ => none) (rtG rk72) (st0 pk72 xs Tryd.f72.ntmps) := by kernel_rfl
noncomputable def P72 (n : Nat × Nat) := phiOf pk72 rk72 (fun xs => S72 n xs.1 xs.2.1 xs.2.2.1)
theorem call72 : CallOK Tryd.prog 72 := callOK_of Tryd.func72 (by kernel_rfl) (by kernel_rfl)
theorem env72 (n : Nat × Nat) : EnvOK Tryd.prog (E72 n) := envOK0 noPhi_ok rfl rfl
theorem par72 (n : Nat × Nat) : EnvPar (E72 n) := envPar0 noPhi_par rfl
theorem FC72 (n : Nat × Nat) : FCs Tryd.prog 72 (P72 n) := phiOf_FCs fun xs r h vs hv => FC.of_runG tabOK eqsOK (env72 n) (par72 n) mixed (fun _ p _ => noScope_ok p.1 p.2) Tryd.func72 (c := c72) (an := an72) (pks := pk72) (rks := rk72) (by kernel_rfl) (by kernel_rfl) hv ((S72_run n xs).symm.trans h)
abbrev R27 := Int
noncomputable def c27 : Code := bodyOf Tryd.f27
noncomputable def an27 : Ann := (.s .l (.s (.s .l (.j [0, 1] .l .l)) (.s (.s .l (.j [0, 1] .l .l)) (.s (.s .l (.j [] (.j [0, 1, 5] (.s (.s .l (.j [0, 1, 5] .l .l)) (.s (.j [0, 1, 5] (.s .l (.j [0, 1, 5] .l .l)) .l) .l)) .l) .l)) .l))))
def pk27 : List PK := [.c (.int .i64), .c (.sl (.int .i64))]
def rk27 : List RK := [.c (.int .i64) 4]
noncomputable def rt27 (st : St) : Option R27 := rtG rk27 st
noncomputable def E27 (n : Nat × Nat) : Env := { T := tab, phi := (consPhi 72 (fun _ => true) (P72 n) noPhi), eff := fun _ => false, fuel := n.1, hold := n.2 }
noncomputable def kq27_5 (n : Nat × Nat) : St → Option R27 := run (E27 n) (cB (cB (cB (cB c27)))) (Ann.snd (Ann.snd (Ann.snd (Ann.snd an27)))) rt27 (fun _ _ => none) rt27
noncomputable def xb27_7 (n : Nat × Nat) : Nat → St → Option R27 := fun j s => bif Nat.beq j 0 then normC [] s (kq27_5 n) else (fun _ _ => none) j s
noncomputable def F27_8 (n : Nat × Nat) : (St → Option R27) → St → Option R27 := fun K s => run (E27 n) (cA (cA (cB (cA (cB (cB (cB c27))))))) (Ann.fst (Ann.fst (Ann.snd (Ann.fst (Ann.snd (Ann.snd (Ann.snd an27))))))) (fun s => normC [0, 1, 5] s K) (xb27_7 n) rt27 s
noncomputable def L27_1 (n : Nat × Nat) (m : Nat) (size0 : Int) (pieces1 : List Int) (i5 : Int) : Option R27 := loopN (F27_8 n) m { tm := [.c (.int .i64 size0), .c (.sl (.int .i64) pieces1 false), uu, uu, uu, .c (.int .i64 i5), uu, uu, uu, uu, uu, uu, uu, uu, uu, uu, uu, uu, uu, uu, uu, uu, uu, uu, uu], hp := emp }
theorem L27_1_eq (n : Nat × Nat) (m1 : Nat) (size0 : Int) (pieces1 : List Int) (i5 : Int) : L27_1 n (m1 + 1) size0 pieces1 i5 =
 (bif decide (i5 < (pieces1.length : Int)) then (idx pieces1 i5).bind fun x2' =>
 (S72 n x2' 1 size0).bind fun r3' =>
 (bif (!r3') then some 1
 else L27_1 n m1 size0 pieces1 (wr .i64 (i5 + 1)))
 else some 0) := by kernel_rfl
noncomputable def S27 (n : Nat × Nat) (size0 : Int) (pieces1 : List Int) : Option R27 := run (E27 n) c27 an27 rt27 (fun _ _ => none) rt27 { tm := [.c (.int .i64 size0), .c (.sl (.int .i64) pieces1 false), uu, uu, uu, uu, uu, uu, uu, uu, uu, uu, uu, uu, uu, uu, uu, uu, uu, uu, uu, uu, uu, uu, uu], hp := emp }
theorem S27_eq (n : Nat × Nat) (size0 : Int) (pieces1 : List Int) : S27 n size0 pieces1 =
 (S72 n size0 1 24).bind fun r1' =>
 (bif (!r1') then some 1
 else (bif decide ((pieces1.length : Int) > 8) then some 3
 else L27_1 n n.1 size0 pieces1 0)) := by kernel_rfl
theorem S27_run (n : Nat × Nat) (xs : pksDen pk27) : S27 n xs.1 xs.2.1 = runG (E27 n) noScope c27 an27 (rtG rk27) (fun _ _ => none) (rtG rk27) (st0 pk27 xs Tryd.f27.ntmps) := by kernel_rfl
noncomputable def P27 (n : Nat × Nat) := phiOf pk27 rk27 (fun xs => S27 n xs.1 xs.2.1)
theorem call27 : CallOK Tryd.prog 27 := callOK_of Tryd.func27 (by kernel_rfl) (by kernel_rfl)
theorem env27 (n : Nat × Nat) : EnvOK Tryd.prog (E27 n) := envOK0 (consPhi_ok (FC72 n) call72 noPhi_ok) rfl rfl
theorem par27 (n : Nat × Nat) : EnvPar (E27 n) := envPar0 (consPhi_par phiOf_Par1 noPhi_par) rfl
theorem FC27 (n : Nat × Nat) : FCs Tryd.prog 27 (P27 n) := phiOf_FCs fun xs r h vs hv => FC.of_runG tabOK eqsOK (env27 n) (par27 n) mixed (fun _ p _ => noScope_ok p.1 p.2) Tryd.func27 (c := c27) (an := an27) (pks := pk27) (rks := rk27) (by kernel_rfl) (by kernel_rfl) hv ((S27_run n xs).symm.trans h)
abbrev R78 := List Int
noncomputable def c78 : Code := bodyOf Tryd.f78
noncomputable def an78 : Ann := (.s .l (.s .l (.s (.s .l (.j [3] (.j [0, 3, 4, 32, 33, 34, 35, 36, 37, 38, 39, 40, 41, 42, 43, 44, 45] (.s (.s .l (.j [0, 3, 4, 32, 33, 34, 35, 36, 37, 38, 39, 40, 41, 42, 43, 44, 45] .l .l)) (.s (.j [0, 3, 4, 32, 33, 34, 35, 36, 37, 38, 39, 40, 41, 42, 43, 44, 45] (.s .l (.s (.s .l (.j [0, 3, 4, 5, 32, 33, 34, 35, 36, 37, 38, 39, 40, 41, 42, 43, 44, 45] (.j [0, 3, 4, 5, 6, 32, 33, 34, 35, 36, 37, 38, 39, 40, 41, 42, 43, 44, 45] (.s (.s .l (.j [0, 3, 4, 5, 6, 32, 33, 34, 35, 36, 37, 38, 39, 40, 41, 42, 43, 44, 45] .l .l)) (.j [] (.j [0, 3, 4, 5, 6, 32, 33, 34, 35, 36, 37, 38, 39, 40, 41, 42, 43, 44, 45] (.s .l (.j [0, 3, 4, 5, 6, 32, 33, 34, 35, 36, 37, 38, 39, 40, 41, 42, 43, 44, 45] .l .l)) .l) .l)) .l) .l)) .l)) .l) .l)) .l) .l)) .l)))
def pk78 : List PK := [.c (.sl (.int .i64))]
def rk78 : List RK := [.own (.int .i64) 2]
noncomputable def rt78 (st : St) : Option R78 := rtG rk78 st
noncomputable def E78 (n : Nat × Nat) : Env := { T := tab, phi := noPhi, eff := fun _ => false, fuel := n.1, hold := n.2 }
noncomputable def kq78_1 (n : Nat × Nat) : St → Option R78 := run (E78 n) (cB (cB (cB c78))) (Ann.snd (Ann.snd (Ann.snd an78))) rt78 (fun _ _ => none) rt78
noncomputable def xb78_3 (n : Nat × Nat) : Nat → St → Option R78 := fun j s => bif Nat.beq j 0 then normC [3] s (kq78_1 n) else (fun _ _ => none) j s
noncomputable def F78_4 (n : Nat × Nat) : (St → Option R78) → St → Option R78 := fun K s => run (E78 n) (cA (cA (cB (cA (cB (cB c78)))))) (Ann.fst (Ann.fst (Ann.snd (Ann.fst (Ann.snd (Ann.snd an78)))))) (fun s => normC [0, 3, 4, 32, 33, 34, 35, 36, 37, 38, 39, 40, 41, 42, 43, 44, 45] s K) (xb78_3 n) rt78 s
noncomputable def kq78_7 (n : Nat × Nat) (m1 : Nat) : St → Option R78 := run (E78 n) (cB (cB (cA (cA (cB (cA (cB (cB c78)))))))) (Ann.snd (Ann.snd (Ann.fst (Ann.fst (Ann.snd (Ann.fst (Ann.snd (Ann.snd an78)))))))) (fun s => normC [0, 3, 4, 32, 33, 34, 35, 36, 37, 38, 39, 40, 41, 42, 43, 44, 45] s (loopN (F78_4 n) m1)) (xb78_3 n) rt78
noncomputable def kc78_8 (n : Nat × Nat) (m1 : Nat) : St → Option R78 := fun s => normC [0, 3, 4, 32, 33, 34, 35, 36, 37, 38, 39, 40, 41, 42, 43, 44, 45] s (kq78_7 n m1)
noncomputable def xb78_9 (n : Nat × Nat) (m1 : Nat) : Nat → St → Option R78 := fun j s => bif Nat.beq j 1 then normC [0, 3, 4, 32, 33, 34, 35, 36, 37, 38, 39, 40, 41, 42, 43, 44, 45] s (kq78_7 n m1) else (xb78_3 n) j s
noncomputable def kq78_10 (n : Nat × Nat) (m1 : Nat) : St → Option R78 := run (E78 n) (cB (cB (cA (cA (cB (cA (cA (cB (cA (cB (cB c78))))))))))) (Ann.snd (Ann.snd (Ann.fst (Ann.fst (Ann.snd (Ann.fst (Ann.fst (Ann.snd (Ann.fst (Ann.snd (Ann.snd an78))))))))))) (kc78_8 n m1) (xb78_9 n m1) rt78
noncomputable def xb78_12 (n : Nat × Nat) (m1 : Nat) : Nat → St → Option R78 := fun j s => bif Nat.beq j 2 then normC [0, 3, 4, 5, 32, 33, 34, 35, 36, 37, 38, 39, 40, 41, 42, 43, 44, 45] s (kq78_10 n m1) else (xb78_9 n m1) j s
noncomputable def F78_13 (n : Nat × Nat) (m1 : Nat) : (St → Option R78) → St → Option R78 := fun K s => run (E78 n) (cA (cA (cB (cA (cB (cA (cA (cB (cA (cA (cB (cA (cB (cB c78)))))))))))))) (Ann.fst (Ann.fst (Ann.snd (Ann.fst (Ann.snd (Ann.fst (Ann.fst (Ann.snd (Ann.fst (Ann.fst (Ann.snd (Ann.fst (Ann.snd (Ann.snd an78)))))))))))))) (fun s => normC [0, 3, 4, 5, 6, 32, 33, 34, 35, 36, 37, 38, 39, 40, 41, 42, 43, 44, 45] s K) (xb78_12 n m1) rt78 s
noncomputable def kq78_16 (n : Nat × Nat) (m1 m2 : Nat) : St → Option R78 := run (E78 n) (cB (cB (cA (cA (cB (cA (cB (cA (cA (cB (cA (cA (cB (cA (cB (cB c78)))))))))))))))) (Ann.snd (Ann.snd (Ann.fst (Ann.fst (Ann.snd (Ann.fst (Ann.snd (Ann.fst (Ann.fst (Ann.snd (Ann.fst (Ann.fst (Ann.snd (Ann.fst (Ann.snd (Ann.snd an78)))))))))))))))) (fun s => normC [0, 3, 4, 5, 6, 32, 33, 34, 35, 36, 37, 38, 39, 40, 41, 42, 43, 44, 45] s (loopN (F78_13 n m1) m2)) (xb78_12 n m1) rt78
noncomputable def L78_1 (n : Nat × Nat) (m : Nat) (pieces0 : List Int) (i4 : Int) (out3 : List Int) : Option R78 := loopN (F78_4 n) m { tm := [.c (.sl (.int .i64) pieces0 false), uu, uu, .own 3 none false, .c (.int .i64 i4), uu, uu, uu, uu, uu, uu, uu, uu, uu, uu, uu, uu, uu, uu, uu, uu, uu, uu, uu, uu, uu, uu, uu, uu, uu, uu, uu, uu, uu, uu, uu, uu, uu, uu, uu, uu, uu, uu, uu, uu, uu, uu, uu, uu, uu, uu, uu, uu, uu], hp := (upd emp 3 (.arr (.int .i64) out3 false)) }
noncomputable def L78_2 (n : Nat × Nat) (m1 : Nat) (m : Nat) (pieces0 : List Int) (i4 : Int) (place5 : Int) (k6 : Int) (out3 : List Int) : Option R78 := loopN (F78_13 n m1) m { tm := [.c (.sl (.int .i64) pieces0 false), uu, uu, .own 3 none false, .c (.int .i64 i4), .c (.int .i64 place5), .c (.int .i64 k6), uu, uu, uu, uu, uu, uu, uu, uu, uu, uu, uu, uu, uu, uu, uu, uu, uu, uu, uu, uu, uu, uu, uu, uu, uu, uu, uu, uu, uu, uu, uu, uu, uu, uu, uu, uu, uu, uu, uu, uu, uu, uu, uu, uu, uu, uu, uu], hp := (upd emp 3 (.arr (.int .i64) out3 false)) }
noncomputable def L78_3 (n : Nat × Nat) (m1 m2 : Nat) (pieces0 : List Int) (i4 : Int) (place5 : Int) (k6 : Int) (out3 : List Int) : Option R78 := loopN (fun _ => (kq78_16 n m1 m2)) n.2 { tm := [.c (.sl (.int .i64) pieces0 false), uu, uu, .own 3 none false, .c (.int .i64 i4), .c (.int .i64 place5), .c (.int .i64 k6), uu, uu, uu, uu, uu, uu, uu, uu, uu, uu, uu, uu, uu, uu, uu, uu, uu, uu, uu, uu, uu, uu, uu, uu, uu, uu, uu, uu, uu, uu, uu, uu, uu, uu, uu, uu, uu, uu, uu, uu, uu, uu, uu, uu, uu, uu, uu], hp := (upd emp 3 (.arr (.int .i64) out3 false)) }
theorem L78_1_eq (n : Nat × Nat) (m1 : Nat) (pieces0 : List Int) (i4 : Int) (out3 : List Int) : L78_1 n (m1 + 1) pieces0 i4 out3 =
 (bif decide (i4 < (pieces0.length : Int)) then L78_2 n m1 n.1 pieces0 i4 0 0 out3
 else some out3) := by kernel_rfl
theorem L78_2_eq (n : Nat × Nat) (m1 m2 : Nat) (pieces0 : List Int) (i4 : Int) (place5 : Int) (k6 : Int) (out3 : List Int) : L78_2 n m1 (m2 + 1) pieces0 i4 place5 k6 out3 =
 (bif decide (k6 < (pieces0.length : Int)) then (idx pieces0 k6).bind fun x1' =>
 (idx pieces0 i4).bind fun x2' =>
 ((bif (decide (x1' > x2') == false) then (idx pieces0 k6).bind fun x3' =>
 (idx pieces0 i4).bind fun x4' =>
 ((bif ((x3' == x4') == true) then some (decide (k6 < i4))
 else some false)).bind fun b5' =>
 some b5'
 else some true)).bind fun b6' =>
 (bif b6' then L78_3 n m1 m2 pieces0 i4 (wr .i64 (place5 + 1)) k6 out3
 else L78_3 n m1 m2 pieces0 i4 place5 k6 out3)
 else (bif inB place5 out3.length then (idx out3 place5).bind fun x7' =>
        L78_1 n m1 pieces0 (wr .i64 (i4 + 1)) (out3.set (Int.toNat place5) i4)
 else none)) := by kernel_rfl
theorem L78_3_raw (n : Nat × Nat) (m1 m2 : Nat) (pieces0 : List Int) (i4 : Int) (place5 : Int) (k6 : Int) (out3 : List Int) : (kq78_16 n m1 m2) { tm := [.c (.sl (.int .i64) pieces0 false), uu, uu, .own 3 none false, .c (.int .i64 i4), .c (.int .i64 place5), .c (.int .i64 k6), uu, uu, uu, uu, uu, uu, uu, uu, uu, uu, uu, uu, uu, uu, uu, uu, uu, uu, uu, uu, uu, uu, uu, uu, uu, uu, uu, uu, uu, uu, uu, uu, uu, uu, uu, uu, uu, uu, uu, uu, uu, uu, uu, uu, uu, uu, uu], hp := (upd emp 3 (.arr (.int .i64) out3 false)) } =
    L78_2 n m1 m2 pieces0 i4 place5 (wr .i64 (k6 + 1)) out3 := by kernel_rfl
noncomputable def S78 (n : Nat × Nat) (pieces0 : List Int) : Option R78 := run (E78 n) c78 an78 rt78 (fun _ _ => none) rt78 { tm := [.c (.sl (.int .i64) pieces0 false), uu, uu, uu, uu, uu, uu, uu, uu, uu, uu, uu, uu, uu, uu, uu, uu, uu, uu, uu, uu, uu, uu, uu, uu, uu, uu, uu, uu, uu, uu, uu, uu, uu, uu, uu, uu, uu, uu, uu, uu, uu, uu, uu, uu, uu, uu, uu, uu, uu, uu, uu, uu, uu], hp := emp }
theorem S78_eq (n : Nat × Nat) (pieces0 : List Int) : S78 n pieces0 =
 (bif decide (0 ≤ (pieces0.length : Int)) && decide ((pieces0.length : Int) ≤ (pieces0.length : Int)) && decide ((pieces0.length : Int) ≤ lim) then L78_1 n n.1 pieces0 0 (List.replicate (Int.toNat (pieces0.length : Int)) (0 : Int))
 else none) := by kernel_rfl
theorem S78_run (n : Nat × Nat) (xs : pksDen pk78) : S78 n xs.1 = runG (E78 n) noScope c78 an78 (rtG rk78) (fun _ _ => none) (rtG rk78) (st0 pk78 xs Tryd.f78.ntmps) := by kernel_rfl
noncomputable def P78 (n : Nat × Nat) := phiOf pk78 rk78 (fun xs => S78 n xs.1)
theorem call78 : CallOK Tryd.prog 78 := callOK_of Tryd.func78 (by kernel_rfl) (by kernel_rfl)
theorem env78 (n : Nat × Nat) : EnvOK Tryd.prog (E78 n) := envOK0 noPhi_ok rfl rfl
theorem par78 (n : Nat × Nat) : EnvPar (E78 n) := envPar0 noPhi_par rfl
theorem FC78 (n : Nat × Nat) : FCs Tryd.prog 78 (P78 n) := phiOf_FCs fun xs r h vs hv => FC.of_runG tabOK eqsOK (env78 n) (par78 n) mixed (fun _ p _ => noScope_ok p.1 p.2) Tryd.func78 (c := c78) (an := an78) (pks := pk78) (rks := rk78) (by kernel_rfl) (by kernel_rfl) hv ((S78_run n xs).symm.trans h)
abbrev R31 := List Int × Int
noncomputable def c31 : Code := bodyOf Tryd.f31
noncomputable def an31 : Ann := (.s .l (.s .l (.s (.s .l (.j [1] .l .l)) .l)))
def pk31 : List PK := [.c (.int .i64), .c (.sl (.int .i64))]
def rk31 : List RK := [.own (.int .i64) 4, .c (.int .i64) 5]
noncomputable def rt31 (st : St) : Option R31 := rtG rk31 st
noncomputable def E31 (n : Nat × Nat) : Env := { T := tab, phi := (consPhi 27 (fun _ => true) (P27 n) (consPhi 78 (fun _ => true) (P78 n) noPhi)), eff := fun _ => false, fuel := n.1, hold := n.2 }
noncomputable def S31 (n : Nat × Nat) (size0 : Int) (pieces1 : List Int) : Option R31 := run (E31 n) c31 an31 rt31 (fun _ _ => none) rt31 { tm := [.c (.int .i64 size0), .c (.sl (.int .i64) pieces1 false), uu, uu, uu, uu, uu, uu, uu, uu, uu, uu, uu, uu, uu], hp := emp }
theorem S31_eq (n : Nat × Nat) (size0 : Int) (pieces1 : List Int) : S31 n size0 pieces1 =
 (S27 n size0 pieces1).bind fun r1' =>
 (bif (r1' != 0) then some ([], r1')
 else (S78 n pieces1).bind fun r2' =>
 some (r2', 0)) := by kernel_rfl
theorem S31_run (n : Nat × Nat) (xs : pksDen pk31) : S31 n xs.1 xs.2.1 = runG (E31 n) noScope c31 an31 (rtG rk31) (fun _ _ => none) (rtG rk31) (st0 pk31 xs Tryd.f31.ntmps) := by kernel_rfl
noncomputable def P31 (n : Nat × Nat) := phiOf pk31 rk31 (fun xs => S31 n xs.1 xs.2.1)
theorem call31 : CallOK Tryd.prog 31 := callOK_of Tryd.func31 (by kernel_rfl) (by kernel_rfl)
theorem env31 (n : Nat × Nat) : EnvOK Tryd.prog (E31 n) := envOK0 (consPhi_ok (FC27 n) call27 (consPhi_ok (FC78 n) call78 noPhi_ok)) rfl rfl
theorem par31 (n : Nat × Nat) : EnvPar (E31 n) := envPar0 (consPhi_par phiOf_Par1 (consPhi_par phiOf_Par1 noPhi_par)) rfl
theorem FC31 (n : Nat × Nat) : FCs Tryd.prog 31 (P31 n) := phiOf_FCs fun xs r h vs hv => FC.of_runG tabOK eqsOK (env31 n) (par31 n) mixed (fun _ p _ => noScope_ok p.1 p.2) Tryd.func31 (c := c31) (an := an31) (pks := pk31) (rks := rk31) (by kernel_rfl) (by kernel_rfl) hv ((S31_run n xs).symm.trans h)
abbrev R73 := Bool
noncomputable def c73 : Code := bodyOf Tryd.f73
noncomputable def an73 : Ann := (.s .l (.s (.s .l (.j [] (.j [0, 1, 5] (.s (.s .l (.j [0, 1, 5] .l .l)) (.s (.j [0, 1, 5] (.s .l (.j [0, 1, 5] .l .l)) .l) .l)) .l) .l)) .l))
def pk73 : List PK := [.c (.sl (.int .i64)), .c (.int .i64)]
def rk73 : List RK := [.c .bool 4]
noncomputable def rt73 (st : St) : Option R73 := rtG rk73 st
noncomputable def E73 (n : Nat × Nat) : Env := { T := tab, phi := noPhi, eff := fun _ => false, fuel := n.1, hold := n.2 }
noncomputable def kq73_1 (n : Nat × Nat) : St → Option R73 := run (E73 n) (cB (cB c73)) (Ann.snd (Ann.snd an73)) rt73 (fun _ _ => none) rt73
noncomputable def xb73_3 (n : Nat × Nat) : Nat → St → Option R73 := fun j s => bif Nat.beq j 0 then normC [] s (kq73_1 n) else (fun _ _ => none) j s
noncomputable def F73_4 (n : Nat × Nat) : (St → Option R73) → St → Option R73 := fun K s => run (E73 n) (cA (cA (cB (cA (cB c73))))) (Ann.fst (Ann.fst (Ann.snd (Ann.fst (Ann.snd an73))))) (fun s => normC [0, 1, 5] s K) (xb73_3 n) rt73 s
noncomputable def L73_1 (n : Nat × Nat) (m : Nat) (l0 : List Int) (v1 : Int) (i5 : Int) : Option R73 := loopN (F73_4 n) m { tm := [.c (.sl (.int .i64) l0 false), .c (.int .i64 v1), uu, uu, uu, .c (.int .i64 i5), uu, uu, uu, uu, uu, uu, uu, uu, uu, uu, uu, uu], hp := emp }
theorem L73_1_eq (n : Nat × Nat) (m1 : Nat) (l0 : List Int) (v1 : Int) (i5 : Int) : L73_1 n (m1 + 1) l0 v1 i5 =
 (bif decide (i5 < (l0.length : Int)) then (idx l0 i5).bind fun x1' =>
 (bif (x1' == v1) then some true
 else L73_1 n m1 l0 v1 (wr .i64 (i5 + 1)))
 else some false) := by kernel_rfl
noncomputable def S73 (n : Nat × Nat) (l0 : List Int) (v1 : Int) : Option R73 := run (E73 n) c73 an73 rt73 (fun _ _ => none) rt73 { tm := [.c (.sl (.int .i64) l0 false), .c (.int .i64 v1), uu, uu, uu, uu, uu, uu, uu, uu, uu, uu, uu, uu, uu, uu, uu, uu], hp := emp }
theorem S73_eq (n : Nat × Nat) (l0 : List Int) (v1 : Int) : S73 n l0 v1 =
    L73_1 n n.1 l0 v1 0 := by kernel_rfl
theorem S73_run (n : Nat × Nat) (xs : pksDen pk73) : S73 n xs.1 xs.2.1 = runG (E73 n) noScope c73 an73 (rtG rk73) (fun _ _ => none) (rtG rk73) (st0 pk73 xs Tryd.f73.ntmps) := by kernel_rfl
noncomputable def P73 (n : Nat × Nat) := phiOf pk73 rk73 (fun xs => S73 n xs.1 xs.2.1)
theorem call73 : CallOK Tryd.prog 73 := callOK_of Tryd.func73 (by kernel_rfl) (by kernel_rfl)
theorem env73 (n : Nat × Nat) : EnvOK Tryd.prog (E73 n) := envOK0 noPhi_ok rfl rfl
theorem par73 (n : Nat × Nat) : EnvPar (E73 n) := envPar0 noPhi_par rfl
theorem FC73 (n : Nat × Nat) : FCs Tryd.prog 73 (P73 n) := phiOf_FCs fun xs r h vs hv => FC.of_runG tabOK eqsOK (env73 n) (par73 n) mixed (fun _ p _ => noScope_ok p.1 p.2) Tryd.func73 (c := c73) (an := an73) (pks := pk73) (rks := rk73) (by kernel_rfl) (by kernel_rfl) hv ((S73_run n xs).symm.trans h)
abbrev R67 := Int
noncomputable def c67 : Code := bodyOf Tryd.f67
noncomputable def an67 : Ann := (.s .l (.s .l (.s (.s .l (.j [3] (.j [0, 3, 4] (.s (.s .l (.j [0, 3, 4] .l .l)) (.s (.j [0, 3, 4] .l .l) .l)) .l) .l)) .l)))
def pk67 : List PK := [.c (.sl (.int .i64))]
def rk67 : List RK := [.c (.int .i64) 2]
noncomputable def rt67 (st : St) : Option R67 := rtG rk67 st
noncomputable def E67 (n : Nat × Nat) : Env := { T := tab, phi := noPhi, eff := fun _ => false, fuel := n.1, hold := n.2 }
noncomputable def kq67_1 (n : Nat × Nat) : St → Option R67 := run (E67 n) (cB (cB (cB c67))) (Ann.snd (Ann.snd (Ann.snd an67))) rt67 (fun _ _ => none) rt67
noncomputable def xb67_3 (n : Nat × Nat) : Nat → St → Option R67 := fun j s => bif Nat.beq j 0 then normC [3] s (kq67_1 n) else (fun _ _ => none) j s
noncomputable def F67_4 (n : Nat × Nat) : (St → Option R67) → St → Option R67 := fun K s => run (E67 n) (cA (cA (cB (cA (cB (cB c67)))))) (Ann.fst (Ann.fst (Ann.snd (Ann.fst (Ann.snd (Ann.snd an67)))))) (fun s => normC [0, 3, 4] s K) (xb67_3 n) rt67 s
noncomputable def L67_1 (n : Nat × Nat) (m : Nat) (plan0 : List Int) (v3 : Int) (i4 : Int) : Option R67 := loopN (F67_4 n) m { tm := [.c (.sl (.int .i64) plan0 false), uu, uu, .c (.int .i64 v3), .c (.int .i64 i4), uu, uu, uu, uu, uu, uu, uu, uu, uu, uu, uu, uu, uu, uu], hp := emp }
theorem L67_1_eq (n : Nat × Nat) (m1 : Nat) (plan0 : List Int) (v3 : Int) (i4 : Int) : L67_1 n (m1 + 1) plan0 v3 i4 =
 (bif decide (i4 < (plan0.length : Int)) then (idx plan0 i4).bind fun x1' =>
      L67_1 n m1 plan0 (if (wr .i64 (x1' + 1)) > v3 then (wr .i64 (x1' + 1)) else v3) (wr .i64 (i4 + 1))
 else some v3) := by kernel_rfl
noncomputable def S67 (n : Nat × Nat) (plan0 : List Int) : Option R67 := run (E67 n) c67 an67 rt67 (fun _ _ => none) rt67 { tm := [.c (.sl (.int .i64) plan0 false), uu, uu, uu, uu, uu, uu, uu, uu, uu, uu, uu, uu, uu, uu, uu, uu, uu, uu], hp := emp }
theorem S67_eq (n : Nat × Nat) (plan0 : List Int) : S67 n plan0 =
    L67_1 n n.1 plan0 0 0 := by kernel_rfl
theorem S67_run (n : Nat × Nat) (xs : pksDen pk67) : S67 n xs.1 = runG (E67 n) noScope c67 an67 (rtG rk67) (fun _ _ => none) (rtG rk67) (st0 pk67 xs Tryd.f67.ntmps) := by kernel_rfl
noncomputable def P67 (n : Nat × Nat) := phiOf pk67 rk67 (fun xs => S67 n xs.1)
theorem call67 : CallOK Tryd.prog 67 := callOK_of Tryd.func67 (by kernel_rfl) (by kernel_rfl)
theorem env67 (n : Nat × Nat) : EnvOK Tryd.prog (E67 n) := envOK0 noPhi_ok rfl rfl
theorem par67 (n : Nat × Nat) : EnvPar (E67 n) := envPar0 noPhi_par rfl
theorem FC67 (n : Nat × Nat) : FCs Tryd.prog 67 (P67 n) := phiOf_FCs fun xs r h vs hv => FC.of_runG tabOK eqsOK (env67 n) (par67 n) mixed (fun _ p _ => noScope_ok p.1 p.2) Tryd.func67 (c := c67) (an := an67) (pks := pk67) (rks := rk67) (by kernel_rfl) (by kernel_rfl) hv ((S67_run n xs).symm.trans h)
abbrev R74 := List Int
noncomputable def c74 : Code := bodyOf Tryd.f74
noncomputable def an74 : Ann := (.s .l (.s .l (.s (.s .l (.j [5] (.j [0, 1, 5, 6, 36, 37, 38, 39, 40, 41] (.s (.s .l (.j [0, 1, 5, 6, 36, 37, 38, 39, 40, 41] .l .l)) (.s (.j [0, 1, 5, 6, 36, 37, 38, 39, 40, 41] (.s .l (.s (.s .l (.j [0, 1, 5, 6, 7, 36, 37, 38, 39, 40, 41] (.j [0, 1, 5, 6, 7, 8, 36, 37, 38, 39, 40, 41] (.s (.s .l (.j [0, 1, 5, 6, 7, 8, 36, 37, 38, 39, 40, 41] .l .l)) (.s (.j [0, 1, 5, 6, 7, 8, 36, 37, 38, 39, 40, 41] (.s .l (.j [0, 1, 5, 6, 7, 8, 36, 37, 38, 39, 40, 41] (.j [0, 1, 5, 6, 7, 8, 9, 36, 37, 38, 39, 40, 41] (.s (.s .l (.j [0, 1, 5, 6, 7, 8, 9, 36, 37, 38, 39, 40, 41] .l .l)) (.j [] (.j [0, 1, 5, 6, 7, 8, 9, 36, 37, 38, 39, 40, 41] (.s .l (.j [0, 1, 5, 6, 7, 8, 9, 36, 37, 38, 39, 40, 41] .l .l)) .l) .l)) .l) .l)) .l) .l)) .l) .l)) .l)) .l) .l)) .l) .l)) .l)))
def pk74 : List PK := [.c (.sl (.int .i64)), .c (.sl (.sl (.int .i64)))]
def rk74 : List RK := [.own (.int .i64) 4]
noncomputable def rt74 (st : St) : Option R74 := rtG rk74 st
noncomputable def E74 (n : Nat × Nat) : Env := { T := tab, phi := (consPhi 67 (fun _ => true) (P67 n) (consPhi 73 (fun _ => true) (P73 n) noPhi)), eff := fun _ => false, fuel := n.1, hold := n.2 }
noncomputable def kq74_1 (n : Nat × Nat) : St → Option R74 := run (E74 n) (cB (cB (cB c74))) (Ann.snd (Ann.snd (Ann.snd an74))) rt74 (fun _ _ => none) rt74
noncomputable def xb74_3 (n : Nat × Nat) : Nat → St → Option R74 := fun j s => bif Nat.beq j 0 then normC [5] s (kq74_1 n) else (fun _ _ => none) j s
noncomputable def F74_4 (n : Nat × Nat) : (St → Option R74) → St → Option R74 := fun K s => run (E74 n) (cA (cA (cB (cA (cB (cB c74)))))) (Ann.fst (Ann.fst (Ann.snd (Ann.fst (Ann.snd (Ann.snd an74)))))) (fun s => normC [0, 1, 5, 6, 36, 37, 38, 39, 40, 41] s K) (xb74_3 n) rt74 s
noncomputable def kq74_7 (n : Nat × Nat) (m1 : Nat) : St → Option R74 := run (E74 n) (cB (cB (cA (cA (cB (cA (cB (cB c74)))))))) (Ann.snd (Ann.snd (Ann.fst (Ann.fst (Ann.snd (Ann.fst (Ann.snd (Ann.snd an74)))))))) (fun s => normC [0, 1, 5, 6, 36, 37, 38, 39, 40, 41] s (loopN (F74_4 n) m1)) (xb74_3 n) rt74
noncomputable def kc74_8 (n : Nat × Nat) (m1 : Nat) : St → Option R74 := fun s => normC [0, 1, 5, 6, 36, 37, 38, 39, 40, 41] s (kq74_7 n m1)
noncomputable def xb74_9 (n : Nat × Nat) (m1 : Nat) : Nat → St → Option R74 := fun j s => bif Nat.beq j 1 then normC [0, 1, 5, 6, 36, 37, 38, 39, 40, 41] s (kq74_7 n m1) else (xb74_3 n) j s
noncomputable def kq74_10 (n : Nat × Nat) (m1 : Nat) : St → Option R74 := run (E74 n) (cB (cB (cA (cA (cB (cA (cA (cB (cA (cB (cB c74))))))))))) (Ann.snd (Ann.snd (Ann.fst (Ann.fst (Ann.snd (Ann.fst (Ann.fst (Ann.snd (Ann.fst (Ann.snd (Ann.snd an74))))))))))) (kc74_8 n m1) (xb74_9 n m1) rt74
noncomputable def xb74_12 (n : Nat × Nat) (m1 : Nat) : Nat → St → Option R74 := fun j s => bif Nat.beq j 2 then normC [0, 1, 5, 6, 7, 36, 37, 38, 39, 40, 41] s (kq74_10 n m1) else (xb74_9 n m1) j s
noncomputable def F74_13 (n : Nat × Nat) (m1 : Nat) : (St → Option R74) → St → Option R74 := fun K s => run (E74 n) (cA (cA (cB (cA (cB (cA (cA (cB (cA (cA (cB (cA (cB (cB c74)))))))))))))) (Ann.fst (Ann.fst (Ann.snd (Ann.fst (Ann.snd (Ann.fst (Ann.fst (Ann.snd (Ann.fst (Ann.fst (Ann.snd (Ann.fst (Ann.snd (Ann.snd an74)))))))))))))) (fun s => normC [0, 1, 5, 6, 7, 8, 36, 37, 38, 39, 40, 41] s K) (xb74_12 n m1) rt74 s
noncomputable def kq74_16 (n : Nat × Nat) (m1 m2 : Nat) : St → Option R74 := run (E74 n) (cB (cB (cA (cA (cB (cA (cB (cA (cA (cB (cA (cA (cB (cA (cB (cB c74)))))))))))))))) (Ann.snd (Ann.snd (Ann.fst (Ann.fst (Ann.snd (Ann.fst (Ann.snd (Ann.fst (Ann.fst (Ann.snd (Ann.fst (Ann.fst (Ann.snd (Ann.fst (Ann.snd (Ann.snd an74)))))))))))))))) (fun s => normC [0, 1, 5, 6, 7, 8, 36, 37, 38, 39, 40, 41] s (loopN (F74_13 n m1) m2)) (xb74_12 n m1) rt74
noncomputable def kc74_17 (n : Nat × Nat) (m1 m2 : Nat) : St → Option R74 := fun s => normC [0, 1, 5, 6, 7, 8, 36, 37, 38, 39, 40, 41] s (kq74_16 n m1 m2)
noncomputable def xb74_18 (n : Nat × Nat) (m1 m2 : Nat) : Nat → St → Option R74 := fun j s => bif Nat.beq j 3 then normC [0, 1, 5, 6, 7, 8, 36, 37, 38, 39, 40, 41] s (kq74_16 n m1 m2) else (xb74_12 n m1) j s
noncomputable def xb74_20 (n : Nat × Nat) (m1 m2 : Nat) : Nat → St → Option R74 := fun j s => bif Nat.beq j 4 then normC [0, 1, 5, 6, 7, 8, 36, 37, 38, 39, 40, 41] s (kc74_17 n m1 m2) else (xb74_18 n m1 m2) j s
noncomputable def F74_21 (n : Nat × Nat) (m1 m2 : Nat) : (St → Option R74) → St → Option R74 := fun K s => run (E74 n) (cA (cA (cB (cA (cA (cB (cA (cA (cB (cA (cB (cA (cA (cB (cA (cA (cB (cA (cB (cB c74)))))))))))))))))))) (Ann.fst (Ann.fst (Ann.snd (Ann.fst (Ann.fst (Ann.snd (Ann.fst (Ann.fst (Ann.snd (Ann.fst (Ann.snd (Ann.fst (Ann.fst (Ann.snd (Ann.fst (Ann.fst (Ann.snd (Ann.fst (Ann.snd (Ann.snd an74)))))))))))))))))))) (fun s => normC [0, 1, 5, 6, 7, 8, 9, 36, 37, 38, 39, 40, 41] s K) (xb74_20 n m1 m2) rt74 s
noncomputable def kq74_24 (n : Nat × Nat) (m1 m2 m3 : Nat) : St → Option R74 := run (E74 n) (cB (cB (cA (cA (cB (cA (cA (cB (cA (cA (cB (cA (cB (cA (cA (cB (cA (cA (cB (cA (cB (cB c74)))))))))))))))))))))) (Ann.snd (Ann.snd (Ann.fst (Ann.fst (Ann.snd (Ann.fst (Ann.fst (Ann.snd (Ann.fst (Ann.fst (Ann.snd (Ann.fst (Ann.snd (Ann.fst (Ann.fst (Ann.snd (Ann.fst (Ann.fst (Ann.snd (Ann.fst (Ann.snd (Ann.snd an74)))))))))))))))))))))) (fun s => normC [0, 1, 5, 6, 7, 8, 9, 36, 37, 38, 39, 40, 41] s (loopN (F74_21 n m1 m2) m3)) (xb74_20 n m1 m2) rt74
noncomputable def L74_1 (n : Nat × Nat) (m : Nat) (pieces0 : List Int) (groups1 : List (List Int)) (i6 : Int) (out5 : List Int) : Option R74 := loopN (F74_4 n) m { tm := [.c (.sl (.int .i64) pieces0 false), .c (.sl (.sl (.int .i64)) groups1 false), uu, uu, uu, .own 5 none false, .c (.int .i64 i6), uu, uu, uu, uu, uu, uu, uu, uu, uu, uu, uu, uu, uu, uu, uu, uu, uu, uu, uu, uu, uu, uu, uu, uu, uu, uu, uu, uu, uu, uu, uu, uu, uu, uu, uu, uu, uu, uu, uu, uu, uu, uu, uu, uu, uu], hp := (upd emp 5 (.arr (.int .i64) out5 false)) }
noncomputable def L74_2 (n : Nat × Nat) (m1 : Nat) (m : Nat) (pieces0 : List Int) (groups1 : List (List Int)) (i6 : Int) (sheet7 : Int) (k8 : Int) (out5 : List Int) : Option R74 := loopN (F74_13 n m1) m { tm := [.c (.sl (.int .i64) pieces0 false), .c (.sl (.sl (.int .i64)) groups1 false), uu, uu, uu, .own 5 none false, .c (.int .i64 i6), .c (.int .i64 sheet7), .c (.int .i64 k8), uu, uu, uu, uu, uu, uu, uu, uu, uu, uu, uu, uu, uu, uu, uu, uu, uu, uu, uu, uu, uu, uu, uu, uu, uu, uu, uu, uu, uu, uu, uu, uu, uu, uu, uu, uu, uu, uu, uu, uu, uu, uu, uu], hp := (upd emp 5 (.arr (.int .i64) out5 false)) }
noncomputable def L74_3 (n : Nat × Nat) (m1 m2 : Nat) (m : Nat) (pieces0 : List Int) (groups1 : List (List Int)) (i6 : Int) (sheet7 : Int) (k8 : Int) (g9 : Int) (out5 : List Int) : Option R74 := loopN (F74_21 n m1 m2) m { tm := [.c (.sl (.int .i64) pieces0 false), .c (.sl (.sl (.int .i64)) groups1 false), uu, uu, uu, .own 5 none false, .c (.int .i64 i6), .c (.int .i64 sheet7), .c (.int .i64 k8), .c (.int .i64 g9), uu, uu, uu, uu, uu, uu, uu, uu, uu, uu, uu, uu, uu, uu, uu, uu, uu, uu, uu, uu, uu, uu, uu, uu, uu, uu, uu, uu, uu, uu, uu, uu, uu, uu, uu, uu, uu, uu, uu, uu, uu, uu], hp := (upd emp 5 (.arr (.int .i64) out5 false)) }
noncomputable def L74_4 (n : Nat × Nat) (m1 m2 m3 : Nat) (pieces0 : List Int) (groups1 : List (List Int)) (i6 : Int) (sheet7 : Int) (k8 : Int) (g9 : Int) (out5 : List Int) : Option R74 := loopN (fun _ => (kq74_24 n m1 m2 m3)) n.2 { tm := [.c (.sl (.int .i64) pieces0 false), .c (.sl (.sl (.int .i64)) groups1 false), uu, uu, uu, .own 5 none false, .c (.int .i64 i6), .c (.int .i64 sheet7), .c (.int .i64 k8), .c (.int .i64 g9), uu, uu, uu, uu, uu, uu, uu, uu, uu, uu, uu, uu, uu, uu, uu, uu, uu, uu, uu, uu, uu, uu, uu, uu, uu, uu, uu, uu, uu, uu, uu, uu, uu, uu, uu, uu, uu, uu, uu, uu, uu, uu], hp := (upd emp 5 (.arr (.int .i64) out5 false)) }
theorem L74_1_eq (n : Nat × Nat) (m1 : Nat) (pieces0 : List Int) (groups1 : List (List Int)) (i6 : Int) (out5 : List Int) : L74_1 n (m1 + 1) pieces0 groups1 i6 out5 =
 (bif decide (i6 < (pieces0.length : Int)) then (S67 n out5).bind fun r1' =>
      L74_2 n m1 n.1 pieces0 groups1 i6 r1' 0 out5
 else some out5) := by kernel_rfl
theorem L74_2_eq (n : Nat × Nat) (m1 m2 : Nat) (pieces0 : List Int) (groups1 : List (List Int)) (i6 : Int) (sheet7 : Int) (k8 : Int) (out5 : List Int) : L74_2 n m1 (m2 + 1) pieces0 groups1 i6 sheet7 k8 out5 =
 (bif decide (k8 < i6) then L74_3 n m1 m2 n.1 pieces0 groups1 i6 sheet7 k8 0 out5
 else (bif decide (out5.length + [sheet7].length ≤ lim) then L74_1 n m1 pieces0 groups1 (wr .i64 (i6 + 1)) (out5 ++ [sheet7])
 else none)) := by kernel_rfl
theorem L74_3_eq (n : Nat × Nat) (m1 m2 m3 : Nat) (pieces0 : List Int) (groups1 : List (List Int)) (i6 : Int) (sheet7 : Int) (k8 : Int) (g9 : Int) (out5 : List Int) : L74_3 n m1 m2 (m3 + 1) pieces0 groups1 i6 sheet7 k8 g9 out5 =
 (bif decide (g9 < (groups1.length : Int)) then (idx groups1 g9).bind fun x2' =>
 (S73 n x2' i6).bind fun r3' =>
 ((bif (r3' == true) then (idx groups1 g9).bind fun x4' =>
 (S73 n x4' k8).bind fun r5' =>
 some r5'
 else some false)).bind fun b6' =>
 (bif b6' then (bif inB k8 out5.length then (idx out5 k8).bind fun x7' =>
          L74_4 n m1 m2 m3 pieces0 groups1 i6 x7' k8 g9 out5
 else none)
 else L74_4 n m1 m2 m3 pieces0 groups1 i6 sheet7 k8 g9 out5)
 else L74_2 n m1 m2 pieces0 groups1 i6 sheet7 (wr .i64 (k8 + 1)) out5) := by kernel_rfl
theorem L74_4_raw (n : Nat × Nat) (m1 m2 m3 : Nat) (pieces0 : List Int) (groups1 : List (List Int)) (i6 : Int) (sheet7 : Int) (k8 : Int) (g9 : Int) (out5 : List Int) : (kq74_24 n m1 m2 m3) { tm := [.c (.sl (.int .i64) pieces0 false), .c (.sl (.sl (.int .i64)) groups1 false), uu, uu, uu, .own 5 none false, .c (.int .i64 i6), .c (.int .i64 sheet7), .c (.int .i64 k8), .c (.int .i64 g9), uu, uu, uu, uu, uu, uu, uu, uu, uu, uu, uu, uu, uu, uu, uu, uu, uu, uu, uu, uu, uu, uu, uu, uu, uu, uu, uu, uu, uu, uu, uu, uu, uu, uu, uu, uu, uu, uu, uu, uu, uu, uu], hp := (upd emp 5 (.arr (.int .i64) out5 false)) } =
    L74_3 n m1 m2 m3 pieces0 groups1 i6 sheet7 k8 (wr .i64 (g9 + 1)) out5 := by kernel_rfl
noncomputable def S74 (n : Nat × Nat) (pieces0 : List Int) (groups1 : List (List Int)) : Option R74 := run (E74 n) c74 an74 rt74 (fun _ _ => none) rt74 { tm := [.c (.sl (.int .i64) pieces0 false), .c (.sl (.sl (.int .i64)) groups1 false), uu, uu, uu, uu, uu, uu, uu, uu, uu, uu, uu, uu, uu, uu, uu, uu, uu, uu, uu, uu, uu, uu, uu, uu, uu, uu, uu, uu, uu, uu, uu, uu, uu, uu, uu, uu, uu, uu, uu, uu, uu, uu, uu, uu, uu, uu, uu, uu, uu, uu], hp := emp }
theorem S74_eq (n : Nat × Nat) (pieces0 : List Int) (groups1 : List (List Int)) : S74 n pieces0 groups1 =
    L74_1 n n.1 pieces0 groups1 0 [] := by kernel_rfl
theorem S74_run (n : Nat × Nat) (xs : pksDen pk74) : S74 n xs.1 xs.2.1 = runG (E74 n) noScope c74 an74 (rtG rk74) (fun _ _ => none) (rtG rk74) (st0 pk74 xs Tryd.f74.ntmps) := by kernel_rfl
noncomputable def P74 (n : Nat × Nat) := phiOf pk74 rk74 (fun xs => S74 n xs.1 xs.2.1)
theorem env74 (n : Nat × Nat) : EnvOK Tryd.prog (E74 n) := envOK0 (consPhi_ok (FC67 n) call67 (consPhi_ok (FC73 n) call73 noPhi_ok)) rfl rfl
theorem par74 (n : Nat × Nat) : EnvPar (E74 n) := envPar0 (consPhi_par phiOf_Par1 (consPhi_par phiOf_Par1 noPhi_par)) rfl
theorem FC74 (n : Nat × Nat) : FCs Tryd.prog 74 (P74 n) := phiOf_FCs fun xs r h vs hv => FC.of_runG tabOK eqsOK (env74 n) (par74 n) mixed (fun _ p _ => noScope_ok p.1 p.2) Tryd.func74 (c := c74) (an := an74) (pks := pk74) (rks := rk74) (by kernel_rfl) (by kernel_rfl) hv ((S74_run n xs).symm.trans h)
end Go.Proofs.YtgmonagekfjnmaaDoor
set_option linter.unusedVariables false
set_option linter.unusedSimpArgs false
set_option maxRecDepth 100000
namespace Go.Proofs.YtgmonagekfjnmaaDoor
open Go.RowKit Go.Shelf Go.Vi
def gtot (ps : List Int) : List Int → Int
  | [] => 0
  | i :: g => ps.getD i.toNat 0 + gtot ps g
def gat (sz : Int) (ps : List Int) (x : Int) : List (List Int) → Nat
  | [] => 0
  | g :: gs => if ps.getD x.toNat 0 + gtot ps g ≤ sz then 0 else gat sz ps x gs + 1
/-- A place for a group that may be new. -/
def gnew (a : Nat) (gs : List (List Int)) : List (List Int) := if a < gs.length then gs else gs ++ [[]]
def gput (a : Nat) (x : Int) (gs : List (List Int)) : List (List Int) := (gnew a gs).set a ((gnew a gs).getD a [] ++ [x])
def gfit (sz : Int) (ps : List Int) : List Int → List (List Int) → List (List Int)
  | [], gs => gs
  | x :: o, gs => gfit sz ps o (gput (gat sz ps x gs) x gs)
def HF81 (S : List Int → List (List Int) → Option (List Int)) (sz : Int) (ps o : List Int) : Option (List Int) :=
  bif decide (ps.length ≤ 1000000) && decide (o.length ≤ 1000) && ps.all (fun p => decide (0 ≤ p) && decide (p ≤ 1000000)) && o.all (fun i => decide (0 ≤ i) && decide (i < ps.length)) then S ps (gfit sz ps o []) else none
theorem gat_le (sz : Int) (ps : List Int) (x : Int) : ∀ gs, gat sz ps x gs ≤ gs.length
  | [] => Nat.le_refl _
  | g :: gs => by
    have := gat_le sz ps x gs
    unfold gat
    split <;> simp only [List.length_cons] <;> omega
theorem gat_fit {sz : Int} {ps : List Int} {x : Int} : ∀ {gs : List (List Int)} {a : Nat}, a ≤ gat sz ps x gs → ∀ h : a < gs.length, (ps.getD x.toNat 0 + gtot ps gs[a] ≤ sz → a = gat sz ps x gs) ∧ (¬ ps.getD x.toNat 0 + gtot ps gs[a] ≤ sz → a + 1 ≤ gat sz ps x gs)
  | [], _, _, h => by simp at h
  | g :: gs, 0, ha, h => by
    unfold gat
    constructor
    · intro h1; rw [List.getElem_cons_zero] at h1; rw [if_pos h1]
    · intro h1; rw [List.getElem_cons_zero] at h1; rw [if_neg h1]; omega
  | g :: gs, a + 1, ha, h => by
    unfold gat at ha ⊢
    split at ha
    · omega
    · rename_i hn
      obtain ⟨h1, h2⟩ := gat_fit (sz := sz) (ps := ps) (x := x) (gs := gs) (a := a) (by omega) (by simpa using h)
      rw [if_neg hn]
      exact ⟨fun e => by rw [← h1 e], fun e => by have := h2 e; omega⟩
theorem gtot_snoc (ps : List Int) (x : Int) : ∀ g : List Int, gtot ps (g ++ [x]) = gtot ps g + ps.getD x.toNat 0
  | [] => by simp [gtot]
  | y :: g => by simp only [List.cons_append, gtot, gtot_snoc ps x g]; omega
theorem gtot_rng {ps : List Int} (hp : ∀ p ∈ ps, 0 ≤ p ∧ p ≤ 1000000) : ∀ g : List Int, 0 ≤ gtot ps g ∧ gtot ps g ≤ 1000000 * g.length
  | [] => by simp [gtot]
  | y :: g => by
    have h1 := gtot_rng hp g
    have h2 : 0 ≤ ps.getD y.toNat 0 ∧ ps.getD y.toNat 0 ≤ 1000000 := by
      rw [List.getD_eq_getElem?_getD]
      cases e : ps[y.toNat]? with
      | none => simp
      | some p => exact hp p (List.mem_of_getElem? e)
    simp only [gtot, List.length_cons]
    omega
theorem gput_len (a : Nat) (x : Int) (gs : List (List Int)) (h : a ≤ gs.length) : (gput a x gs).length ≤ gs.length + 1 := by
  unfold gput gnew
  rw [List.length_set]
  split <;> simp
def gall (gs : List (List Int)) : Nat := gs.flatten.length
/-- A table of groups, each row in a block of its own. -/
structure FT (n0 : Nat) (gs : List (List Int)) (v : Value) (rows : List Value) (W : World) : Prop where
  tab : W.ownsRow n0 22 1 v gs.length rows
  row : ∀ s (h : s < gs.length), ∃ u, rows[s]? = some u ∧ W.ownsRow n0 3 1 u gs[s].length (gs[s].map (Value.int .i64))
  off : ∀ (s : Nat) u g, rows[s]? = some u → u.ownBlock = some g → v.ownBlock ≠ some g
  apart : ∀ (s s' : Nat) (u u' : Value) (g : Nat), s ≠ s' → rows[s]? = some u → rows[s']? = some u' → u.ownBlock = some g → u'.ownBlock ≠ some g
theorem FT.len {n0 : Nat} {gs : List (List Int)} {v : Value} {rows : List Value} {W : World} (h : FT n0 gs v rows W) : rows.length = gs.length := by
  have := h.tab.1
  omega
theorem FT.start (n0 : Nat) (W : World) : FT n0 [] (.slice none 0 0) [] W := ⟨World.ownsRow_nil _ _ _ _, fun s h => by simp at h, fun s u g h => by simp at h, fun s s' u u' g _ h => by simp at h⟩
theorem FT.kept {n0 : Nat} {gs : List (List Int)} {v : Value} {rows : List Value} {W W' : World} (h : FT n0 gs v rows W) (hg : W.grownBy W' none) : FT n0 gs v rows W' :=
  ⟨h.tab.kept hg (by cases v.ownBlock <;> simp), fun s hs => by
    obtain ⟨u, h1, h2⟩ := h.row s hs
    exact ⟨u, h1, h2.kept hg (by cases u.ownBlock <;> simp)⟩, h.off, h.apart⟩
theorem FT.slice {n0 : Nat} {gs : List (List Int)} {v : Value} {rows : List Value} {W : World} (h : FT n0 gs v rows W) :
    ∃ a cap, v = .slice a gs.length cap ∧ ∀ s (hs : s < gs.length), ∃ B u ra rcap, a = some ⟨B, 0, none⟩ ∧ n0 ≤ B ∧ B < W.heap.size ∧ rows[s]? = some u ∧ W.cell? ⟨B, s, none⟩ = some u ∧ W.frozen? ⟨B, s, none⟩ = false ∧ u = .slice ra gs[s].length rcap ∧ ∀ j (hj : j < gs[s].length), ∃ b, ra = some ⟨b, 0, none⟩ ∧ W.cell? ⟨b, j, none⟩ = some (.int .i64 gs[s][j]) := by
  have hlen := h.len
  have main : ∀ (g : Nat) (cap : Nat) (cur : Array Value), v = .slice (some ⟨g, 0, none⟩) gs.length cap → n0 ≤ g → W.heap[g]? = some (.cells cur 22 (0, 0)) → cur.toList.take (gs.length * 1) = rows → ∀ s (hs : s < gs.length), ∃ B u ra rcap, some (⟨g, 0, none⟩ : Addr) = some ⟨B, 0, none⟩ ∧ n0 ≤ B ∧ B < W.heap.size ∧ rows[s]? = some u ∧ W.cell? ⟨B, s, none⟩ = some u ∧ W.frozen? ⟨B, s, none⟩ = false ∧ u = .slice ra gs[s].length rcap ∧ ∀ j (hj : j < gs[s].length), ∃ b, ra = some ⟨b, 0, none⟩ ∧ W.cell? ⟨b, j, none⟩ = some (.int .i64 gs[s][j]) := by
    intro g cap cur hv hn hg ht s hs
    obtain ⟨u, hu, hr⟩ := h.row s hs
    have hc : cur[s]? = some u := by
      rw [← ht, List.getElem?_take] at hu
      split at hu
      · rw [← Array.getElem?_toList]; exact hu
      · cases hu
    have hb : Blk W g cur 22 := hg
    have hu2 : ∃ ra rcap, u = .slice ra gs[s].length rcap ∧ ∀ j (hj : j < gs[s].length), ∃ b, ra = some ⟨b, 0, none⟩ ∧ W.cell? ⟨b, j, none⟩ = some (.int .i64 gs[s][j]) := by
      rcases hr.2 with ⟨e1, e2⟩ | ⟨g2, cap2, cur2, e1, _, hg2, _, _, _, ht2⟩
      · exact ⟨none, 0, by rw [e1, e2], fun j hj => by omega⟩
      · refine ⟨some ⟨g2, 0, none⟩, cap2, e1, fun j hj => ⟨g2, rfl, ?_⟩⟩
        have h1 := congrArg (fun l => l[j]?) ht2
        simp only [List.getElem?_take, Nat.mul_one, if_pos hj, List.getElem?_map, List.getElem?_eq_getElem hj, Option.map_some] at h1
        exact (show Blk W g2 cur2 3 from hg2).cell j (by rw [← Array.getElem?_toList]; exact h1)
    obtain ⟨ra, rcap, e1, e2⟩ := hu2
    exact ⟨g, u, ra, rcap, rfl, hn, hb.lt, hu, hb.cell s hc, hb.frozen s, e1, e2⟩
  rcases h.tab.2 with ⟨e1, e2⟩ | ⟨g, cap, cur, e1, e2, e3, _, _, _, e4⟩
  · exact ⟨none, 0, by rw [e1, e2], fun s hs => by omega⟩
  · exact ⟨_, cap, e1, main g cap cur e1 e2 e3 e4⟩
/-- An empty row more. -/
theorem FT.more {n0 : Nat} {gs : List (List Int)} {v v' : Value} {rows : List Value} {W w2 : World} (h : FT n0 gs v rows W)
    (hown : w2.ownsRow n0 22 1 v' (gs.length + 1) (rows ++ [.slice none 0 0])) (hg : (W.alloc (.cells #[.slice none 0 0] 22)).grownBy w2 v.ownBlock) (hat : v'.ownBlock = v.ownBlock ∨ v'.ownBlock = some (W.alloc (.cells #[.slice none 0 0] 22)).heap.size) :
    FT n0 (gs ++ [[]]) v' (rows ++ [.slice none 0 0]) w2 := by
  have hlen := h.len
  have hget : ∀ (s : Nat) u, (rows ++ [Value.slice none 0 0])[s]? = some u → rows[s]? = some u ∨ u = .slice none 0 0 := fun s u hu => by
    rw [List.getElem?_append] at hu
    split at hu
    · exact .inl hu
    · right
      rw [List.getElem?_singleton] at hu
      split at hu
      · cases hu; rfl
      · cases hu
  have hlt : ∀ (s : Nat) u g, rows[s]? = some u → u.ownBlock = some g → g < W.heap.size := fun s u g hu hg' => by
    have hs : s < gs.length := by have := (List.getElem?_eq_some_iff.1 hu).1; omega
    obtain ⟨u2, h1, h2⟩ := h.row s hs
    rw [hu] at h1
    cases h1
    exact (h2.lt g hg').2
  refine ⟨by simpa using hown, fun s hs => ?_, fun s u g hu hg' => ?_, fun s s' u u' g hne hu hu' h1 => ?_⟩
  · by_cases e : s < gs.length
    · obtain ⟨u, h1, h2⟩ := h.row s e
      have e3 : (gs ++ [[]])[s] = gs[s] := List.getElem_append_left e
      refine ⟨u, by rw [List.getElem?_append_left (by omega)]; exact h1, ?_⟩
      rw [e3]
      refine (h2.alloc _).kept hg ?_
      cases ho : u.ownBlock with
      | none => exact .inl rfl
      | some g => exact .inr (fun e2 => h.off s u g h1 ho e2.symm)
    · have e2 : s = gs.length := by simp at hs; omega
      subst e2
      refine ⟨.slice none 0 0, by rw [List.getElem?_append_right (by omega), hlen, Nat.sub_self]; rfl, ?_⟩
      simp only [List.getElem_append_right (Nat.le_refl _), Nat.sub_self, List.getElem_cons_zero]
      exact World.ownsRow_nil _ _ _ _
  · rcases hget s u hu with h1 | h1
    · rcases hat with e | e
      · rw [e]; exact h.off s u g h1 hg'
      · rw [e]
        have := hlt s u g h1 hg'
        simp
        omega
    · rw [h1] at hg'; cases hg'
  · rcases hget s u hu with h2 | h2
    · rcases hget s' u' hu' with h3 | h3
      · exact h.apart s s' u u' g hne h2 h3 h1
      · rw [h3]; intro h4; cases h4
    · rw [h2] at h1; cases h1
/-- One element more in one row. -/
theorem FT.put {n0 : Nat} {gs : List (List Int)} {rows : List Value} {W w2 : World} {B cap : Nat} (h : FT n0 gs (.slice (some ⟨B, 0, none⟩) gs.length cap) rows W) {s : Nat} (hs : s < gs.length) {x : Int} {u u' : Value} (hu : rows[s]? = some u)
    (hown : w2.ownsRow n0 3 1 u' (gs[s].length + 1) (gs[s].map (Value.int .i64) ++ [.int .i64 x])) (hg : (W.alloc (.cells #[.int .i64 x] 3)).grownBy w2 u.ownBlock) (hat : u'.ownBlock = u.ownBlock ∨ u'.ownBlock = some (W.alloc (.cells #[.int .i64 x] 3)).heap.size) :
    W.cell? ⟨B, s, none⟩ = some u ∧ w2.cell? ⟨B, s, none⟩ = some u ∧ w2.frozen? ⟨B, s, none⟩ = false ∧ FT n0 (gs.set s (gs[s] ++ [x])) (.slice (some ⟨B, 0, none⟩) gs.length cap) (rows.set s u') (w2.setCell ⟨B, s, none⟩ u') := by
  have hlen := h.len
  obtain ⟨cur, hb, hn, hcap, hmx, hsz, htk⟩ : ∃ cur, Blk W B cur 22 ∧ n0 ≤ B ∧ gs.length ≤ cap ∧ cap ≤ maxLen ∧ cur.size = cap * 1 ∧ cur.toList.take (gs.length * 1) = rows := by
    rcases h.tab.2 with ⟨e1, e2⟩ | ⟨g, cap', cur, e1, e2, e3, e4, e5, e6, e7⟩
    · cases e1
    · cases e1
      exact ⟨cur, e3, e2, e4, e5, e6, e7⟩
  have hcs : cur[s]? = some u := by
    have h1 := hu
    rw [← htk, List.getElem?_take, if_pos (by omega)] at h1
    rw [← Array.getElem?_toList]
    exact h1
  have hbo : u.ownBlock ≠ some B := fun e => h.off s u B hu e rfl
  have hb2 : Blk w2 B cur 22 := (hb.kept (World.grownBy_alloc W _ none) (by simp)).kept hg (fun e => hbo e.symm)
  have hlt : ∀ (s : Nat) u g, rows[s]? = some u → u.ownBlock = some g → g < W.heap.size := fun s u g hu hg' => by
    have hs : s < gs.length := by have := (List.getElem?_eq_some_iff.1 hu).1; omega
    obtain ⟨u2, h1, h2⟩ := h.row s hs
    rw [hu] at h1
    cases h1
    exact (h2.lt g hg').2
  have hBl := hb.lt
  have hu'B : u'.ownBlock ≠ some B := by
    rcases hat with e | e
    · rw [e]; exact hbo
    · rw [e]; simp; omega
  have hoth : ∀ s' v g, s' ≠ s → rows[s']? = some v → u'.ownBlock = some g → v.ownBlock ≠ some g := fun s' v g hne hv hg' hv' => by
    rcases hat with e | e
    · exact h.apart s' s v u g hne hv hu hv' (by rw [← e]; exact hg')
    · rw [e] at hg'
      cases hg'
      have := hlt s' v _ hv hv'
      simp at this
      omega
  have kb : ∀ {v : Value} {n : Nat} {xs : List Value}, v.ownBlock ≠ some B → w2.ownsRow n0 3 1 v n xs → (w2.setCell ⟨B, s, none⟩ u').ownsRow n0 3 1 v n xs := fun {v n xs} hv hr =>
    hr.kept (row := some B) ⟨rfl, rfl, rfl, (KeepsWalks.setCell w2 _ u').size, fun k _ hk => Below.heap_setCell _ _ _ k (fun e => hk (by rw [e]))⟩ (.inr hv)
  have hb3 := hb2.set s u'
  have hset : ∀ s', s' ≠ s → (rows.set s u')[s']? = rows[s']? := fun s' hne => List.getElem?_set_ne (fun e => hne e.symm)
  have hset2 : (rows.set s u')[s]? = some u' := List.getElem?_set_self (by omega)
  refine ⟨hb.cell s hcs, hb2.cell s hcs, hb2.frozen s, ⟨?_, fun s' hs' => ?_, fun s' v g hv hv' => ?_, fun s1 s2 v1 v2 g hne h1 h2 h3 => ?_⟩⟩
  · refine ⟨by rw [List.length_set, List.length_set]; omega, .inr ⟨B, cap, cur.setIfInBounds s u', by rw [List.length_set], hn, hb3, by rw [List.length_set]; exact hcap, hmx, by rw [Array.size_setIfInBounds]; exact hsz, ?_⟩⟩
    rw [List.length_set, ← htk, Array.toList_setIfInBounds, List.take_set]
  · rw [List.length_set] at hs'
    by_cases e : s' = s
    · subst e
      refine ⟨u', hset2, ?_⟩
      rw [List.getElem_set_self]
      refine kb hu'B ?_
      simpa using hown
    · obtain ⟨v, hv, hr⟩ := h.row s' hs'
      refine ⟨v, by rw [hset s' e]; exact hv, ?_⟩
      rw [List.getElem_set_ne (fun e2 => e e2.symm)]
      refine kb (fun e2 => h.off s' v B hv e2 rfl) ((hr.alloc _).kept hg ?_)
      cases ho : v.ownBlock with
      | none => exact .inl rfl
      | some g => exact .inr fun e2 => h.apart s' s v u g e hv hu ho e2.symm
  · by_cases e : s' = s
    · subst e
      rw [hset2] at hv
      cases hv
      intro e2
      cases e2
      exact hu'B hv'
    · rw [hset s' e] at hv
      exact h.off s' v g hv hv'
  · by_cases e1 : s1 = s
    · subst e1
      rw [hset2] at h1
      cases h1
      rw [hset s2 (fun e => hne e.symm)] at h2
      exact hoth s2 v2 g (fun e => hne e.symm) h2 h3
    · rw [hset s1 e1] at h1
      by_cases e2 : s2 = s
      · subst e2
        rw [hset2] at h2
        cases h2
        exact fun h4 => hoth s1 v1 g e1 h1 h4 h3
      · rw [hset s2 e2] at h2
        exact h.apart s1 s2 v1 v2 g hne h1 h2 h3
noncomputable def c81 : Code := bodyOf Tryd.f81
noncomputable def r81_16 : Code := (cB (cB (cB (cA (cA (cB (cA (cA (cB (cA (cB (cB c81))))))))))))
/-- A region with draws: what it leaves, named. -/
def nrm (R : Act → World → Prop) : Exit → Act → World → Prop
  | .normal, a, w => R a w
  | _, _, _ => False
theorem wpIn_nrm {F : Fence} {n : Nat} {P : Program} {c : Code} {Q : Exit → Act → World → Prop} {a : Act} {w : World} {R : Act → World → Prop}
    (h : c.wpIn F n P (nrm R) a w) (k : ∀ a' w', R a' w' → Q .normal a' w') : c.wpIn F n P Q a w :=
  wpIn_mono h fun e a' w' h => by
    cases e with
    | normal => exact k a' w' h
    | _ => exact h.elim
/-- An append, at an operation. -/
theorem oper_app {P : Program} {w : World} {F : Fence} {n : Nat} {o : Oper} {a : Act} {K : Act → World → Prop} {Q : Exit → Act → World → Prop} (hro : F.round = none) (hgd : o.guard = none) (s x : Operand) (t : TypeId)
    (ho : o.op = .call { callee := .builtin .append, args := #[s, x], argTypes := #[t, t] })
    (base : Nat) (e : TypeId) (i : TypeInfo) (z : Value) (size bytes : Nat) (ht : P.underlying t = some (.slice e)) (hi : P.info? e = some i) (hz : i.zero = some z)
    (hsize : i.size = size) (hby : i.bytes = bytes) (hzs : z.cells.size = size) (hsz : 0 < size)
    (v : Value) (n0 : Nat) (xs : List Value) (hs : a.eval s = v) (hown : w.ownsRow base e size v n0 xs)
    (ad : Addr) (m c : Nat) (news : List Value) (hx : a.eval x = .slice (some ad) m c) (hl : news.length = m * size) (hnews : ∀ j u, news[j]? = some u → w.cell? (ad.add j) = some u) (h1 : ∀ u ∈ news, u.oneCell' = true)
    (h63 : n0 + m ≤ maxLen) (hbytes : (n0 + m) * bytes ≤ 140737488355328) (hbase : base ≤ w.heap.size)
    (h : ∀ v' w', w'.ownsRow base e size v' (n0 + m) (xs ++ news) → w.grownBy w' v.ownBlock → (v'.ownBlock = v.ownBlock ∨ v'.ownBlock = some w.heap.size) → K (a.put o.dst v') w') :
    o.wpIn F n P a w K Q := by
  obtain ⟨v', w', hr, h2, h3, h4, h5⟩ := run_append_own_at (P := P) w base t o.type e i z size bytes ht hi hz hsize hby hzs hsz v n0 xs hown ad m c news hl hnews h1 h63 hbytes hbase
  unfold Oper.wpIn
  refine ⟨by simp [Oper.about, ho, resolve, Target.leads, Sem.run_pure], ?_⟩
  rw [hro, Oper.semAt_none]
  simp [execOp, ho, resolve, invoke, builtin, hs, hx, hr, Result.andThen]
  exact h v' w' h2 h3 h5
theorem y_idx23 {A : Act} {o : Oper} {i j B L cap x : Nat} (ho : o.op = .indexAddr 23 (.tmp i) (.tmp j)) (h1 : A.eval (.tmp i) = .slice (some ⟨B, 0, none⟩) L cap) (h2 : A.eval (.tmp j) = .int .i64 (x : Nat)) (hx : x < L) (w : World) :
    (execOp A.eval o).run Tryd.prog w = .ok (.value (.pointer (some ⟨B, x, none⟩))) w := by
  have h1 : A.tmps[i]?.getD undef = .slice (some ⟨B, 0, none⟩) L cap := by simpa [go_sem] using h1
  have h2 : A.tmps[j]?.getD undef = .int .i64 (x : Nat) := by simpa [go_sem] using h2
  have hx2 : ¬ ((L : Int) ≤ x) := by omega
  simp [go_sem, ho, h1, h2, hx, hx2]
theorem y_idx22 {A : Act} {o : Oper} {i j B off L cap x : Nat} (ho : o.op = .indexAddr 22 (.tmp i) (.tmp j)) (h1 : A.eval (.tmp i) = .slice (some ⟨B, off, none⟩) L cap) (h2 : A.eval (.tmp j) = .int .i64 (x : Nat)) (hx : x < L) (w : World) :
    (execOp A.eval o).run Tryd.prog w = .ok (.value (.pointer (some ⟨B, off + x, none⟩))) w := by
  have h1 : A.tmps[i]?.getD undef = .slice (some ⟨B, off, none⟩) L cap := by simpa [go_sem] using h1
  have h2 : A.tmps[j]?.getD undef = .int .i64 (x : Nat) := by simpa [go_sem] using h2
  have hx2 : ¬ ((L : Int) ≤ x) := by omega
  simp [go_sem, ho, h1, h2, hx, hx2]
theorem oper_store {w : World} {F : Fence} {n : Nat} {o : Oper} {a : Act} {K : Act → World → Prop} {Q : Exit → Act → World → Prop} {i j B s : Nat} {v : Value} {sa : Option Addr} {sl sc : Nat} (hro : F.round = none) (ho : o.op = .store 22 (.tmp i) (.tmp j))
    (h1 : a.eval (.tmp i) = .pointer (some ⟨B, s, none⟩)) (h2 : a.eval (.tmp j) = .slice sa sl sc) (hv : w.cell? ⟨B, s, none⟩ = some v) (hf : w.frozen? ⟨B, s, none⟩ = false) (h : K (a.put o.dst undef) (w.setCell ⟨B, s, none⟩ (.slice sa sl sc))) :
    o.wpIn F n Tryd.prog a w K Q := by
  unfold Oper.wpIn
  refine ⟨by simp [Oper.about, ho], ?_⟩
  rw [hro, Oper.semAt_none]
  have h1 : a.tmps[i]?.getD undef = .pointer (some ⟨B, s, none⟩) := by simpa [go_sem] using h1
  have h2 : a.tmps[j]?.getD undef = .slice sa sl sc := by simpa [go_sem] using h2
  simp [go_sem, ho, h1, h2, hv, hf]
  exact h
section
attribute [local go_sem] Oper.semAt_some
set_option maxHeartbeats 16000000 in
theorem reg16 {n : Nat} {Wc : World} {B s L cap b2 off2 k ol cap2 m n0 : Nat} {x : Int} {u : Value} {xs : List Value} (hs : s < L) (hk : k < ol) (q1 : Wc.cell? ⟨B, s, none⟩ = some u) (q2 : Wc.cell? ⟨b2, off2 + k, none⟩ = some (.int .i64 x))
    (hown : Wc.ownsRow n0 3 1 u m xs) (hm : m ≤ 1000000) (hn0 : n0 ≤ Wc.heap.size) (hst : ∀ w2, (Wc.drew.alloc (.cells #[.int .i64 x] 3)).grownBy w2 u.ownBlock → (∃ v, w2.cell? ⟨B, s, none⟩ = some v) ∧ w2.frozen? ⟨B, s, none⟩ = false)
    {Q : Exit → Act → World → Prop} {x0 x1 x3 x4 x5 x6 x10 x11 x12 x13 x14 x15 x16 x17 x18 x19 x20 x21 x22 x23 x24 x25 x26 x27 x28 x29 x30 x31 x32 x33 x34 x35 x36 x37 x38 x39 x40 x41 x42 x43 x44 x45 x46 x47 x48 x49 x50 x51 x52 x53 x54 x55 x56 x57 x58 x59 x60 x61 x62 x63 x64 x65 x66 x67 x68 x69 x70 x71 x72 x73 x74 x75 x76 x77 : Value} {ds : List Deferred}
    (hR : ∀ u' w3, w3.ownsRow n0 3 1 u' (m + 1) (xs ++ [.int .i64 x]) → (Wc.drew.alloc (.cells #[.int .i64 x] 3)).grownBy w3 u.ownBlock → (u'.ownBlock = u.ownBlock ∨ u'.ownBlock = some (Wc.drew.alloc (.cells #[.int .i64 x] 3)).heap.size) → Q .normal { tmps := #[x0, x1, .slice (some ⟨b2, off2, none⟩) ol cap2, x3, x4, x5, x6, .slice (some ⟨B, 0, none⟩) L cap, .int .i64 (k : Nat), .int .i64 (s : Nat), x10, x11, x12, x13, x14, x15, x16, x17, x18, x19, x20, x21, x22, x23, x24, x25, x26, x27, x28, x29, x30, x31, x32, x33, x34, x35, x36, x37, x38, x39, x40, x41, x42, x43, x44, x45, x46, x47, x48, x49, x50, x51, x52, x53, x54, x55, x56, x57, x58, x59, x60, x61, .slice (some ⟨B, 0, none⟩) L cap, .int .i64 (s : Nat), .slice (some ⟨B, 0, none⟩) L cap, .int .i64 (s : Nat), .pointer (some ⟨B, s, none⟩), u, .slice (some ⟨b2, off2, none⟩) ol cap2, .int .i64 (k : Nat), .pointer (some ⟨b2, off2 + k, none⟩), .int .i64 x, .slice (some ⟨Wc.heap.size, 0, none⟩) 1 1, u', .pointer (some ⟨B, s, none⟩), x75, x76, x77], defers := ds } (w3.setCell ⟨B, s, none⟩ u')) :
    r81_16.wpIn Fence.wide n Tryd.prog Q { tmps := #[x0, x1, .slice (some ⟨b2, off2, none⟩) ol cap2, x3, x4, x5, x6, .slice (some ⟨B, 0, none⟩) L cap, .int .i64 (k : Nat), .int .i64 (s : Nat), x10, x11, x12, x13, x14, x15, x16, x17, x18, x19, x20, x21, x22, x23, x24, x25, x26, x27, x28, x29, x30, x31, x32, x33, x34, x35, x36, x37, x38, x39, x40, x41, x42, x43, x44, x45, x46, x47, x48, x49, x50, x51, x52, x53, x54, x55, x56, x57, x58, x59, x60, x61, x62, x63, x64, x65, x66, x67, x68, x69, x70, x71, x72, x73, x74, x75, x76, x77], defers := ds } Wc := by
  obtain ⟨i0, hi0, hz0, hz1, hz2⟩ := info_parts (show (Tryd.prog.info? 3).map (fun i => (i.zero, i.size, i.bytes)) = some (some (.int .i64 0), 1, 8) by kernel_rfl)
  have hu22 : Tryd.prog.underlying 22 = some (.slice 3) := by kernel_rfl
  refine wpIn_nrm (R := fun a w => Q .normal a w) ?_ (fun _ _ h => h)
  unfold r81_16 c81
  simp only [cA, cB, bodyOf, Tryd.f81]
  refine wpIn_region_any (by kernel_rfl) ?_
  have step : ∀ {i : Nat} {oi : Oper} {u : Value} {fuel : Nat} {listed : Array Bool} {a : Act} {w : World} {ops : Array Oper}, ops[i]? = some oi → Region.noSelect ops = true → Region.free .any ops listed i = true → (Region.ready .any ops listed).contains i = true → YieldsFenced Tryd.prog ops oi u a →
      wpAnyIn Fence.wide n Tryd.prog .any ops (nrm fun a w => Q .normal a w) fuel (listed.setIfInBounds i true) (a.put oi.dst u) w → wpAnyIn Fence.wide n Tryd.prog .any ops (nrm fun a w => Q .normal a w) (fuel + 1) listed a w :=
    fun h1 h2 h3 h4 h5 h6 => wpAnyIn_take rfl h1 h2 h3 h4 (fun c a w h => h) h5 h6
  have p1 : Wc.drew.cell? ⟨B, s, none⟩ = some u := q1
  have p2 : Wc.drew.cell? ⟨b2, off2 + k, none⟩ = some (.int .i64 x) := q2
  have p3 : (Wc.drew.alloc (.cells #[.int .i64 x] 3)).cell? ⟨B, s, none⟩ = some u := (World.grownBy_alloc Wc.drew _ none).cell p1 (by simp)
  have p4 : (Wc.alloc (.cells #[.int .i64 x] 3)).drew.cell? ⟨B, s, none⟩ = some u := p3
  have p5 : (Wc.alloc (.cells #[.int .i64 x] 3)).cell? ⟨B, s, none⟩ = some u := p3
  have hown2 : (Wc.drew.alloc (.cells #[.int .i64 x] 3)).ownsRow n0 3 1 u m xs := (show Wc.drew.ownsRow n0 3 1 u m xs from hown).alloc _
  have hnew : ∀ j v, [Value.int .i64 x][j]? = some v → (Wc.drew.alloc (.cells #[.int .i64 x] 3)).cell? ((⟨Wc.heap.size, 0, none⟩ : Addr).add j) = some v := by
    intro j v hv
    match j, hv with
    | 0, hv =>
      cases hv
      have hb : Blk (Wc.drew.alloc (.cells #[.int .i64 x] 3)) Wc.heap.size #[.int .i64 x] 3 := Blk.new Wc.drew _ _
      exact hb.cell 0 rfl
  have hsz2 : n0 ≤ (Wc.drew.alloc (.cells #[.int .i64 x] 3)).heap.size := by
    rw [World.size_alloc]
    show n0 ≤ Wc.heap.size + 1
    omega
  refine step (i := 0) (u := .slice (some ⟨B, 0, none⟩) L cap) (fuel := 13) rfl (by kernel_rfl) (by kernel_rfl) (by kernel_rfl) ⟨.inl ⟨by kernel_rfl, fun w => by kernel_rfl⟩, fun w => by kernel_rfl⟩ ?_
  refine step (i := 1) (u := .int .i64 (s : Nat)) (fuel := 12) rfl (by kernel_rfl) (by kernel_rfl) (by kernel_rfl) ⟨.inl ⟨by kernel_rfl, fun w => by kernel_rfl⟩, fun w => by kernel_rfl⟩ ?_
  refine step (i := 2) (u := .slice (some ⟨B, 0, none⟩) L cap) (fuel := 11) rfl (by kernel_rfl) (by kernel_rfl) (by kernel_rfl) ⟨.inl ⟨by kernel_rfl, fun w => by kernel_rfl⟩, fun w => by kernel_rfl⟩ ?_
  refine step (i := 3) (u := .int .i64 (s : Nat)) (fuel := 10) rfl (by kernel_rfl) (by kernel_rfl) (by kernel_rfl) ⟨.inl ⟨by kernel_rfl, fun w => by kernel_rfl⟩, fun w => by kernel_rfl⟩ ?_
  refine step (i := 6) (u := .slice (some ⟨b2, off2, none⟩) ol cap2) (fuel := 9) rfl (by kernel_rfl) (by kernel_rfl) (by kernel_rfl) ⟨.inl ⟨by kernel_rfl, fun w => by kernel_rfl⟩, fun w => by kernel_rfl⟩ ?_
  refine step (i := 7) (u := .int .i64 (k : Nat)) (fuel := 8) rfl (by kernel_rfl) (by kernel_rfl) (by kernel_rfl) ⟨.inl ⟨by kernel_rfl, fun w => by kernel_rfl⟩, fun w => by kernel_rfl⟩ ?_
  refine step (i := 4) (u := .pointer (some ⟨B, s, none⟩)) (fuel := 7) rfl (by kernel_rfl) (by kernel_rfl) (by kernel_rfl) ⟨.inl ⟨by kernel_rfl, y_idx23 (L := L) (cap := cap) rfl (by kernel_rfl) (by kernel_rfl) hs⟩, fun w => by kernel_rfl⟩ ?_
  refine step (i := 8) (u := .pointer (some ⟨b2, off2 + k, none⟩)) (fuel := 6) rfl (by kernel_rfl) (by kernel_rfl) (by kernel_rfl) ⟨.inl ⟨by kernel_rfl, y_idx22 (L := ol) (cap := cap2) rfl (by kernel_rfl) (by kernel_rfl) hk⟩, fun w => by kernel_rfl⟩ ?_
  refine wpAnyIn_ready (rs := [5, 9]) (by kernel_rfl) (by simp) (BigFrame.allReadyIn_want rfl (by kernel_rfl) ?_ (BigFrame.allReadyIn_want rfl (by kernel_rfl) ?_ AllReadyIn.nil))
  · intro K1 hK1
    simp only [List.getElem_toArray, List.getElem_cons_succ, List.getElem_cons_zero, Act.put, List.setIfInBounds_toArray, List.set_cons_succ, List.set_cons_zero]
    first | gi_big_move | gi_big_op
    refine hK1 _ _ ?_
    clear hK1
    refine wpAnyIn_ready (rs := [9]) (by kernel_rfl) (by simp) (BigFrame.allReadyIn_want rfl (by kernel_rfl) ?_ AllReadyIn.nil)
    intro K1 hK1
    simp only [List.getElem_toArray, List.getElem_cons_succ, List.getElem_cons_zero, Act.put, List.setIfInBounds_toArray, List.set_cons_succ, List.set_cons_zero]
    first | gi_big_move | gi_big_op
    refine hK1 _ _ ?_
    clear hK1
    refine wpAnyIn_ready (rs := [10]) (by kernel_rfl) (by simp) (BigFrame.allReadyIn_want rfl (by kernel_rfl) ?_ AllReadyIn.nil)
    intro K1 hK1
    simp only [List.getElem_toArray, List.getElem_cons_succ, List.getElem_cons_zero, Act.put, List.setIfInBounds_toArray, List.set_cons_succ, List.set_cons_zero]
    first | gi_big_move | gi_big_op
    refine hK1 _ _ ?_
    clear hK1
    refine wpAnyIn_ready (rs := [11]) (by kernel_rfl) (by simp) (BigFrame.allReadyIn_want rfl (by kernel_rfl) ?_ AllReadyIn.nil)
    intro K1 hK1
    simp only [List.getElem_toArray, List.getElem_cons_succ, List.getElem_cons_zero, Act.put, List.setIfInBounds_toArray, List.set_cons_succ, List.set_cons_zero]
    refine oper_app rfl rfl _ _ 22 rfl n0 3 i0 (.int .i64 0) 1 8 hu22 hi0 hz0 hz1 hz2 rfl (by decide) u m xs (by kernel_rfl) hown2 ⟨Wc.heap.size, 0, none⟩ 1 1 [.int .i64 x] (by kernel_rfl) rfl hnew (fun v hv => by rw [List.mem_singleton.1 hv]; rfl) (by unfold maxLen; omega) (by omega) hsz2 ?_
    intro u' w3 ho hg hat
    obtain ⟨g', cap', rfl⟩ := ownsRow_succ ho
    refine hK1 _ _ ?_
    clear hK1
    obtain ⟨⟨v0, hv0⟩, hfr0⟩ := hst _ hg
    refine step (i := 12) (u := .pointer (some ⟨B, s, none⟩)) (fuel := 1) rfl (by kernel_rfl) (by kernel_rfl) (by kernel_rfl) ⟨.inl ⟨by kernel_rfl, y_idx23 (L := L) (cap := cap) rfl (by kernel_rfl) (by kernel_rfl) hs⟩, fun w => by kernel_rfl⟩ ?_
    refine wpAnyIn_ready (rs := [13]) (by kernel_rfl) (by simp) (BigFrame.allReadyIn_want rfl (by kernel_rfl) ?_ AllReadyIn.nil)
    intro K1 hK1
    simp only [List.getElem_toArray, List.getElem_cons_succ, List.getElem_cons_zero, Act.put, List.setIfInBounds_toArray, List.set_cons_succ, List.set_cons_zero]
    refine oper_store (sa := some ⟨g', 0, none⟩) (sl := m + 1) (sc := cap') rfl rfl (by kernel_rfl) (by kernel_rfl) hv0 hfr0 ?_
    refine hK1 _ _ ?_
    clear hK1
    refine ⟨by kernel_rfl, ?_⟩
    refine (congrArg (fun a => Q .normal a _) ?_).mp (hR _ w3 ho hg hat)
    simp [Act.put]
  · intro K1 hK1
    simp only [List.getElem_toArray, List.getElem_cons_succ, List.getElem_cons_zero, Act.put, List.setIfInBounds_toArray, List.set_cons_succ, List.set_cons_zero]
    first | gi_big_move | gi_big_op
    refine hK1 _ _ ?_
    clear hK1
    refine wpAnyIn_ready (rs := [5, 10]) (by kernel_rfl) (by simp) (BigFrame.allReadyIn_want rfl (by kernel_rfl) ?_ (BigFrame.allReadyIn_want rfl (by kernel_rfl) ?_ AllReadyIn.nil))
    · intro K1 hK1
      simp only [List.getElem_toArray, List.getElem_cons_succ, List.getElem_cons_zero, Act.put, List.setIfInBounds_toArray, List.set_cons_succ, List.set_cons_zero]
      first | gi_big_move | gi_big_op
      refine hK1 _ _ ?_
      clear hK1
      refine wpAnyIn_ready (rs := [10]) (by kernel_rfl) (by simp) (BigFrame.allReadyIn_want rfl (by kernel_rfl) ?_ AllReadyIn.nil)
      intro K1 hK1
      simp only [List.getElem_toArray, List.getElem_cons_succ, List.getElem_cons_zero, Act.put, List.setIfInBounds_toArray, List.set_cons_succ, List.set_cons_zero]
      first | gi_big_move | gi_big_op
      refine hK1 _ _ ?_
      clear hK1
      refine wpAnyIn_ready (rs := [11]) (by kernel_rfl) (by simp) (BigFrame.allReadyIn_want rfl (by kernel_rfl) ?_ AllReadyIn.nil)
      intro K1 hK1
      simp only [List.getElem_toArray, List.getElem_cons_succ, List.getElem_cons_zero, Act.put, List.setIfInBounds_toArray, List.set_cons_succ, List.set_cons_zero]
      refine oper_app rfl rfl _ _ 22 rfl n0 3 i0 (.int .i64 0) 1 8 hu22 hi0 hz0 hz1 hz2 rfl (by decide) u m xs (by kernel_rfl) hown2 ⟨Wc.heap.size, 0, none⟩ 1 1 [.int .i64 x] (by kernel_rfl) rfl hnew (fun v hv => by rw [List.mem_singleton.1 hv]; rfl) (by unfold maxLen; omega) (by omega) hsz2 ?_
      intro u' w3 ho hg hat
      obtain ⟨g', cap', rfl⟩ := ownsRow_succ ho
      refine hK1 _ _ ?_
      clear hK1
      obtain ⟨⟨v0, hv0⟩, hfr0⟩ := hst _ hg
      refine step (i := 12) (u := .pointer (some ⟨B, s, none⟩)) (fuel := 1) rfl (by kernel_rfl) (by kernel_rfl) (by kernel_rfl) ⟨.inl ⟨by kernel_rfl, y_idx23 (L := L) (cap := cap) rfl (by kernel_rfl) (by kernel_rfl) hs⟩, fun w => by kernel_rfl⟩ ?_
      refine wpAnyIn_ready (rs := [13]) (by kernel_rfl) (by simp) (BigFrame.allReadyIn_want rfl (by kernel_rfl) ?_ AllReadyIn.nil)
      intro K1 hK1
      simp only [List.getElem_toArray, List.getElem_cons_succ, List.getElem_cons_zero, Act.put, List.setIfInBounds_toArray, List.set_cons_succ, List.set_cons_zero]
      refine oper_store (sa := some ⟨g', 0, none⟩) (sl := m + 1) (sc := cap') rfl rfl (by kernel_rfl) (by kernel_rfl) hv0 hfr0 ?_
      refine hK1 _ _ ?_
      clear hK1
      refine ⟨by kernel_rfl, ?_⟩
      refine (congrArg (fun a => Q .normal a _) ?_).mp (hR _ w3 ho hg hat)
      simp [Act.put]
    · intro K1 hK1
      simp only [List.getElem_toArray, List.getElem_cons_succ, List.getElem_cons_zero, Act.put, List.setIfInBounds_toArray, List.set_cons_succ, List.set_cons_zero]
      first | gi_big_move | gi_big_op
      refine hK1 _ _ ?_
      clear hK1
      refine wpAnyIn_ready (rs := [5]) (by kernel_rfl) (by simp) (BigFrame.allReadyIn_want rfl (by kernel_rfl) ?_ AllReadyIn.nil)
      intro K1 hK1
      simp only [List.getElem_toArray, List.getElem_cons_succ, List.getElem_cons_zero, Act.put, List.setIfInBounds_toArray, List.set_cons_succ, List.set_cons_zero]
      first | gi_big_move | gi_big_op
      refine hK1 _ _ ?_
      clear hK1
      refine wpAnyIn_ready (rs := [11]) (by kernel_rfl) (by simp) (BigFrame.allReadyIn_want rfl (by kernel_rfl) ?_ AllReadyIn.nil)
      intro K1 hK1
      simp only [List.getElem_toArray, List.getElem_cons_succ, List.getElem_cons_zero, Act.put, List.setIfInBounds_toArray, List.set_cons_succ, List.set_cons_zero]
      refine oper_app rfl rfl _ _ 22 rfl n0 3 i0 (.int .i64 0) 1 8 hu22 hi0 hz0 hz1 hz2 rfl (by decide) u m xs (by kernel_rfl) hown2 ⟨Wc.heap.size, 0, none⟩ 1 1 [.int .i64 x] (by kernel_rfl) rfl hnew (fun v hv => by rw [List.mem_singleton.1 hv]; rfl) (by unfold maxLen; omega) (by omega) hsz2 ?_
      intro u' w3 ho hg hat
      obtain ⟨g', cap', rfl⟩ := ownsRow_succ ho
      refine hK1 _ _ ?_
      clear hK1
      obtain ⟨⟨v0, hv0⟩, hfr0⟩ := hst _ hg
      refine step (i := 12) (u := .pointer (some ⟨B, s, none⟩)) (fuel := 1) rfl (by kernel_rfl) (by kernel_rfl) (by kernel_rfl) ⟨.inl ⟨by kernel_rfl, y_idx23 (L := L) (cap := cap) rfl (by kernel_rfl) (by kernel_rfl) hs⟩, fun w => by kernel_rfl⟩ ?_
      refine wpAnyIn_ready (rs := [13]) (by kernel_rfl) (by simp) (BigFrame.allReadyIn_want rfl (by kernel_rfl) ?_ AllReadyIn.nil)
      intro K1 hK1
      simp only [List.getElem_toArray, List.getElem_cons_succ, List.getElem_cons_zero, Act.put, List.setIfInBounds_toArray, List.set_cons_succ, List.set_cons_zero]
      refine oper_store (sa := some ⟨g', 0, none⟩) (sl := m + 1) (sc := cap') rfl rfl (by kernel_rfl) (by kernel_rfl) hv0 hfr0 ?_
      refine hK1 _ _ ?_
      clear hK1
      refine ⟨by kernel_rfl, ?_⟩
      refine (congrArg (fun a => Q .normal a _) ?_).mp (hR _ w3 ho hg hat)
      simp [Act.put]
end
theorem gfit_snoc (sz : Int) (ps : List Int) (x : Int) : ∀ (o : List Int) (gs : List (List Int)), gfit sz ps (o ++ [x]) gs = gput (gat sz ps x (gfit sz ps o gs)) x (gfit sz ps o gs)
  | [], gs => rfl
  | y :: o, gs => gfit_snoc sz ps x o _
theorem gput_all (a : Nat) (x : Int) (gs : List (List Int)) (h : a ≤ gs.length) : gall (gput a x gs) = gall gs + 1 := by
  have main : ∀ (a : Nat) (gs : List (List Int)), a < gs.length → (gs.set a (gs.getD a [] ++ [x])).flatten.length = gs.flatten.length + 1 := by
    intro a gs
    induction gs generalizing a with
    | nil => intro h; simp at h
    | cons g gs ih =>
      intro h
      cases a with
      | zero => simp; omega
      | succ a =>
        have := ih a (by simpa using h)
        simp only [List.set_cons_succ, List.flatten_cons, List.length_append, List.getD_cons_succ, this]
        omega
  unfold gput gnew gall
  split
  · rename_i h1
    exact main a gs h1
  · rename_i h1
    rw [main a (gs ++ [[]]) (by simp; omega)]
    simp
theorem gfit_all (sz : Int) (ps : List Int) : ∀ (o : List Int) (gs : List (List Int)), gall (gfit sz ps o gs) = gall gs + o.length ∧ (gfit sz ps o gs).length ≤ gs.length + o.length
  | [], gs => ⟨rfl, Nat.le_refl _⟩
  | x :: o, gs => by
    obtain ⟨h1, h2⟩ := gfit_all sz ps o (gput (gat sz ps x gs) x gs)
    have h3 := gput_all (gat sz ps x gs) x gs (gat_le sz ps x gs)
    have h4 := gput_len (gat sz ps x gs) x gs (gat_le sz ps x gs)
    unfold gfit
    rw [h1, h3, List.length_cons]
    exact ⟨by omega, by omega⟩
theorem gall_row {gs : List (List Int)} : ∀ {s : Nat} (h : s < gs.length), gs[s].length ≤ gall gs := by
  unfold gall
  induction gs with
  | nil => intro s h; simp at h
  | cons g gs ih =>
    intro s h
    cases s with
    | zero => simp
    | succ s =>
      have := ih (s := s) (by simpa using h)
      simp only [List.getElem_cons_succ, List.flatten_cons, List.length_append]
      omega
theorem FT.kcell {n0 : Nat} {gs : List (List Int)} {rows : List Value} {W w2 : World} {B cap : Nat} (h : FT n0 gs (.slice (some ⟨B, 0, none⟩) gs.length cap) rows W) {s : Nat} (hs : s < gs.length) {u : Value} (hu : rows[s]? = some u) {o : Obj} (hg : (W.alloc o).grownBy w2 u.ownBlock) :
    (∃ v, w2.cell? ⟨B, s, none⟩ = some v) ∧ w2.frozen? ⟨B, s, none⟩ = false := by
  obtain ⟨cur, hb, htk⟩ : ∃ cur, Blk W B cur 22 ∧ cur.toList.take (gs.length * 1) = rows := by
    rcases h.tab.2 with ⟨e1, e2⟩ | ⟨g, cap', cur, e1, e2, e3, e4, e5, e6, e7⟩
    · cases e1
    · cases e1
      exact ⟨cur, e3, e7⟩
  have hcs : cur[s]? = some u := by
    have h1 := hu
    rw [← htk, List.getElem?_take, if_pos (by omega)] at h1
    rw [← Array.getElem?_toList]
    exact h1
  have hb2 : Blk w2 B cur 22 := (hb.kept (World.grownBy_alloc W _ none) (by simp)).kept hg (fun e => h.off s u B hu e.symm rfl)
  exact ⟨⟨u, hb2.cell s hcs⟩, hb2.frozen s⟩
theorem gput_mem {a : Nat} {x : Int} {gs : List (List Int)} {g : List Int} {i : Int} (hg : g ∈ gput a x gs) (hi : i ∈ g) : i = x ∨ ∃ g' ∈ gs, i ∈ g' := by
  unfold gput at hg
  have hn : ∀ g' ∈ gnew a gs, i ∈ g' → ∃ g' ∈ gs, i ∈ g' := fun g' h1 h2 => by
    unfold gnew at h1
    split at h1
    · exact ⟨g', h1, h2⟩
    · rcases List.mem_append.1 h1 with h1 | h1
      · exact ⟨g', h1, h2⟩
      · rw [List.mem_singleton.1 h1] at h2; cases h2
  rcases List.mem_or_eq_of_mem_set hg with h | h
  · exact .inr (hn g h hi)
  · rw [h] at hi
    rcases List.mem_append.1 hi with h1 | h1
    · right
      rw [List.getD_eq_getElem?_getD] at h1
      cases e : (gnew a gs)[a]? with
      | none => rw [e] at h1; cases h1
      | some g' => rw [e] at h1; exact hn g' (List.mem_of_getElem? e) h1
    · exact .inl (List.mem_singleton.1 h1)
theorem gfit_mem (sz : Int) (ps : List Int) : ∀ (o : List Int) (gs : List (List Int)) (g : List Int) (i : Int), g ∈ gfit sz ps o gs → i ∈ g → i ∈ o ∨ ∃ g' ∈ gs, i ∈ g'
  | [], gs, g, i, h, hi => .inr ⟨g, h, hi⟩
  | x :: o, gs, g, i, h, hi => by
    rcases gfit_mem sz ps o _ g i h hi with h1 | ⟨g', h1, h2⟩
    · exact .inl (List.mem_cons_of_mem _ h1)
    · rcases gput_mem h1 h2 with h3 | h3
      · exact .inl (by rw [h3]; exact List.mem_cons_self)
      · exact .inr h3
theorem grown_drew (W : World) : W.grownBy W.drew none := ⟨rfl, rfl, rfl, Nat.le_refl _, fun _ _ _ => rfl⟩
theorem gput_old {a : Nat} {x : Int} {gs : List (List Int)} (h : a < gs.length) : gput a x gs = gs.set a (gs[a] ++ [x]) := by
  unfold gput gnew
  rw [if_pos h, List.getD_eq_getElem?_getD, List.getElem?_eq_getElem h, Option.getD_some]
theorem gput_new (x : Int) (gs : List (List Int)) : gput gs.length x gs = (gs ++ [[]]).set gs.length ((gs ++ [[]])[gs.length]'(by simp) ++ [x]) := by
  unfold gput gnew
  rw [if_neg (Nat.lt_irrefl _), List.getD_eq_getElem?_getD, List.getElem?_eq_getElem (by simp), Option.getD_some]
theorem below_app {w W w2 : World} {o : Obj} {row : Option Nat} (hB : Below w.heap.size w W) (hg : (W.alloc o).grownBy w2 row) (hr : ∀ g, row = some g → w.heap.size ≤ g) : Below w.heap.size w w2 := by
  have hA : Below w.heap.size w (W.alloc o) := hB.alloc hB.size _
  exact ⟨hg.os.trans hA.os, hg.tape.trans hA.tape, hg.output.trans hA.output, Nat.le_trans hA.size hg.size, fun i hi => (hg.block i (by have := hA.size; omega) (fun e => by have := hr i e.symm; omega)).trans (hA.block i hi)⟩
theorem below_set {w W : World} {B s : Nat} {v : Value} (hB : Below w.heap.size w W) (hn : w.heap.size ≤ B) : Below w.heap.size w (W.setCell ⟨B, s, none⟩ v) :=
  ⟨hB.os, hB.tape, hB.output, Nat.le_trans hB.size (KeepsWalks.setCell W _ _).size, fun i hi => (Below.heap_setCell _ _ _ i (by simp only []; omega)).trans (hB.block i hi)⟩
section
attribute [local go_sem] Oper.semAt_some
set_option maxHeartbeats 8000000 in
theorem fit_in (n : Nat) (hn : 3 ≤ n) (sz : Int) (ad1 ad2 : Option Addr) (cap1 cap2 : Nat) (ps o : List Int) (w : World) (Post : Value → World → Prop) (hpl : ps.length ≤ 1000000) (hol : o.length ≤ 1000) (hp : ∀ p ∈ ps, 0 ≤ p ∧ p ≤ 1000000) (hin : ∀ i ∈ o, 0 ≤ i ∧ i < ps.length)
    (hps : ∀ j (h : j < ps.length), ∃ b off, ad1 = some ⟨b, off, none⟩ ∧ b < w.heap.size ∧ w.cell? ⟨b, off + j, none⟩ = some (.int .i64 ps[j]))
    (hos : ∀ j (h : j < o.length), ∃ b off, ad2 = some ⟨b, off, none⟩ ∧ b < w.heap.size ∧ w.cell? ⟨b, off + j, none⟩ = some (.int .i64 o[j]))
    (hck : ∀ W v rows, FT w.heap.size (gfit sz ps o []) v rows W → Below w.heap.size w W → CallsIn Fence.wide (n - 1) Tryd.prog 74 #[.slice ad1 ps.length cap1, v] W fun e w' => ∃ u, e = .returned u ∧ Post u w') :
    CallsIn Fence.wide n Tryd.prog 81 #[.int .i64 sz, .slice ad1 ps.length cap1, .slice ad2 o.length cap2] w fun e w' => ∃ u, e = .returned u ∧ Post u w' := by
  have h1 : 1 ≤ n := by omega
  obtain ⟨i0, hi0, hz0, hz1, hz2⟩ := info_parts (show (Tryd.prog.info? 3).map (fun i => (i.zero, i.size, i.bytes)) = some (some (.int .i64 0), 1, 8) by kernel_rfl)
  obtain ⟨i1, hi1, hy0, hy1, hy2⟩ := info_parts (show (Tryd.prog.info? 22).map (fun i => (i.zero, i.size, i.bytes)) = some (some (.slice none 0 0), 1, 24) by kernel_rfl)
  have hu22 : Tryd.prog.underlying 22 = some (.slice 3) := by kernel_rfl
  have hu23 : Tryd.prog.underlying 23 = some (.slice 22) := by kernel_rfl
  have h74 : Fence.wide.fn 74 := trivial
  refine callsIn_of_wp Tryd.func81 rfl trivial ?_ rfl
  simp only [Tryd.ntmps81, List.size_toArray, List.length_cons, List.length_nil, Nat.reduceAdd, Nat.reduceSub, Array.replicate_succ, Array.replicate_zero, List.push_toArray, List.append_toArray, List.nil_append, List.cons_append]
  gi_wp2
  gi_loopw [8, 7] (fun kv gv wr => ∃ (k : Nat) (rows : List Value), kv = .int .i64 k ∧ k ≤ o.length ∧ FT w.heap.size (gfit sz ps (o.take k) []) gv rows wr ∧ Below w.heap.size w wr)
    (fun kv _ _ => o.length - (intOf kv).toNat)
  case atStart => exact ⟨0, [], rfl, Nat.zero_le _, FT.start _ _, Below.refl _ _⟩
  case round =>
    obtain ⟨k, rows, rfl, hk, hF, hB⟩ := hrel
    obtain ⟨wi, rfl⟩ : ∃ wi, wi = wr := ⟨wr, rfl⟩
    generalize hG : gfit sz ps (o.take k) [] = gs at hF
    have hgl : gs.length ≤ k ∧ gall gs ≤ k := by
      obtain ⟨g1, g2⟩ := gfit_all sz ps (o.take k) []
      rw [hG, List.length_take] at g1 g2
      have g3 : gall [] = 0 := rfl
      rw [g3] at g1
      rw [List.length_nil] at g2
      omega
    have hgm : ∀ g ∈ gs, ∀ i ∈ g, 0 ≤ i ∧ i < ps.length := fun g hg i hi => by
      rw [← hG] at hg
      rcases gfit_mem sz ps _ _ g i hg hi with h2 | ⟨g', h2, _⟩
      · exact hin i (List.mem_of_mem_take h2)
      · cases h2
    obtain ⟨va, vcap, rfl, hsl⟩ := hF.slice
    by_cases hkl : k < o.length
    · obtain ⟨b2, off2, rfl, hb2, hc2⟩ := hos k hkl
      have hco : wi.cell? ⟨b2, off2 + k, none⟩ = some (.int .i64 o[k]) := (hB.cell (p := ⟨b2, off2 + k, none⟩) hb2).trans hc2
      obtain ⟨hx0, hx1⟩ := hin o[k] (List.getElem_mem _)
      obtain ⟨q, hq⟩ := Int.eq_ofNat_of_zero_le hx0
      have hqp : q < ps.length := by omega
      obtain ⟨b1, off1, rfl, hb1, hc1⟩ := hps q hqp
      have hps' : ∀ j (h : j < ps.length), wi.cell? ⟨b1, off1 + j, none⟩ = some (.int .i64 ps[j]) := fun j hj => by
        obtain ⟨b3, off3, e, _, h3⟩ := hps j hj
        cases e
        exact (hB.cell (p := ⟨b1, off1 + j, none⟩) hb1).trans h3
      have hpq := hp _ (List.getElem_mem hqp)
      have hcp := hps' q hqp
      rw [hq] at hco
      gi_wp2
      gi_loopw [9] (fun av wr => ∃ a : Nat, av = .int .i64 a ∧ a ≤ gat sz ps o[k] gs ∧ wi = wr)
        (fun av _ => gs.length - (intOf av).toNat)
      case atStart => exact ⟨0, rfl, Nat.zero_le _, rfl⟩
      case round =>
        obtain ⟨a, rfl, ha, rfl⟩ := hrel
        have hF1 := hF
        by_cases hag : a < gs.length
        · obtain ⟨hfit1, hfit2⟩ := gat_fit ha hag
          obtain ⟨B, u, ra, rcap, rfl, hBn, hBl, hru, hcu, hfu, rfl, hrow⟩ := hsl a hag
          have hlr := gall_row hag
          gi_wp2
          gi_loopw [10, 11] (fun nv iv wr => ∃ j : Nat, iv = .int .i64 j ∧ j ≤ gs[a].length ∧ nv = .int .i64 (ps[q] + gtot ps (gs[a].take j)) ∧ wi = wr)
            (fun _ iv _ => gs[a].length - (intOf iv).toNat)
          case atStart => exact ⟨0, rfl, Nat.zero_le _, by simp [gtot], rfl⟩
          case round =>
            obtain ⟨j, rfl, hj, rfl, rfl⟩ := hrel
            have ht0 := gtot_rng hp (gs[a].take j)
            rw [List.length_take] at ht0
            by_cases hjl : j < gs[a].length
            · obtain ⟨b, rfl, hcj⟩ := hrow j hjl
              obtain ⟨y0, y1⟩ := hgm _ (List.getElem_mem hag) _ (List.getElem_mem hjl)
              obtain ⟨r, hr⟩ := Int.eq_ofNat_of_zero_le y0
              have hrp : r < ps.length := by omega
              have hpr := hp _ (List.getElem_mem hrp)
              have hcr := hps' r hrp
              rw [hr] at hcj
              have hst : gtot ps (gs[a].take (j + 1)) = gtot ps (gs[a].take j) + ps[r] := by
                rw [List.take_succ_eq_append_getElem hjl, gtot_snoc, hr, Int.toNat_natCast, List.getD_eq_getElem?_getD, List.getElem?_eq_getElem hrp, Option.getD_some]
              gi_wp2
              exact ⟨⟨j + 1, by simp, by omega, by rw [hst, Int.add_assoc], trivial⟩, by simp [intOf]; omega⟩
            · obtain rfl : j = gs[a].length := by omega
              have hx2 : ps.getD o[k].toNat 0 = ps[q] := by rw [hq, Int.toNat_natCast, List.getD_eq_getElem?_getD, List.getElem?_eq_getElem hqp, Option.getD_some]
              rw [hx2] at hfit1 hfit2
              rw [List.take_length] at ht0 ⊢
              by_cases hle : ps[q] + gtot ps gs[a] ≤ sz
              · gi_wp2
                have hFd := hF.kept (grown_drew wi)
                obtain ⟨u2, hu2, hrw⟩ := hF.row a hag
                rw [hru] at hu2
                cases hu2
                refine reg16 (B := B) (s := a) (k := k) (b2 := b2) (off2 := off2) (x := (q : Int)) (m := gs[a].length) (n0 := w.heap.size) (xs := gs[a].map (Value.int .i64)) hag hkl hcu hco hrw (by omega) hB.size (fun w4 hg4 => hFd.kcell hag hru hg4) ?_
                intro u' w3 ho hg hat2
                obtain ⟨k1, k2, k3, hF3⟩ := hFd.put (x := (q : Int)) hag hru ho hg hat2
                have hB3 : Below w.heap.size w w3 := below_app (W := wi.drew) (hB.trans ((Below.refl _ _).drew)) hg (fun g hg => (hrw.lt g hg).1)
                have hB4 := below_set (s := a) (v := u') hB3 hBn
                have hFin : FT w.heap.size (gfit sz ps (o.take (k + 1)) []) (.slice (some ⟨B, 0, none⟩) gs.length vcap) (rows.set a u') (w3.setCell ⟨B, a, none⟩ u') := by
                  have e0 : a = gat sz ps o[k] gs := hfit1 hle
                  rw [List.take_succ_eq_append_getElem hkl, gfit_snoc, hG, ← e0, gput_old hag, hq]
                  exact hF3
                gi_wp2
                exact ⟨⟨k + 1, _, by simp, by omega, hFin, hB4⟩, by simp [intOf]; omega⟩
              · have hnx := hfit2 (by omega)
                gi_wp2
                exact ⟨⟨a + 1, by simp, hnx, trivial⟩, by simp [intOf]; omega⟩
        · have ha2 : a = gs.length := by have := gat_le sz ps o[k] gs; omega
          subst ha2
          gi_wp2_with (gi_at_builtin; go_loud (refine wpListIn_append_own_at _ rfl _ _ 23 rfl w.heap.size 22 i1 (.slice none 0 0) 1 24 hu23 hi1 hy0 hy1 hy2 rfl (by decide) _ _ _ rfl (hF.tab.alloc _) ⟨wi.heap.size, 0, none⟩ 1 1 [.slice none 0 0] rfl rfl ?c1 ?c2 ?c3 ?c4 ?c5 ?_))
          case c1 =>
            intro j u hj
            match j, hj with
            | 0, hj => simp at hj; subst hj; simp [Addr.add]
          case c2 => intro u hu; simp at hu; subst hu; rfl
          case c3 => unfold maxLen; omega
          case c4 => omega
          case c5 => have := hB.size; simp; omega
          · intro v' w2 hown hgrow _ hat
            have hF2 := hF.more hown hgrow (by simpa using hat)
            obtain ⟨va', vcap', rfl, hsl2⟩ := hF2.slice
            have hB2 : Below w.heap.size w w2 := below_app hB hgrow (fun g hg => (hF.tab.lt g hg).1)
            have hg2 : (gs ++ [[]]).length = gs.length + 1 := by simp
            have hg3 : (gs ++ [[]])[gs.length]'(by simp) = [] := by simp
            obtain ⟨B, u, ra, rcap, rfl, hBn, hBl, hru, hcu, hfu, hue, hrow⟩ := hsl2 gs.length (by simp)
            obtain ⟨u2, hu2, hrw⟩ := hF2.row gs.length (by simp)
            rw [hru] at hu2
            cases hu2
            rw [hg3] at hrw hue
            have hps2 : ∀ j (h : j < ps.length), w2.cell? ⟨b1, off1 + j, none⟩ = some (.int .i64 ps[j]) := fun j hj => by
              obtain ⟨b3, off3, e, _, h3⟩ := hps j hj
              cases e
              exact (hB2.cell (p := ⟨b1, off1 + j, none⟩) hb1).trans h3
            have hco2 : w2.cell? ⟨b2, off2 + k, none⟩ = some (.int .i64 (q : Int)) := by rw [← hq]; exact (hB2.cell (p := ⟨b2, off2 + k, none⟩) hb2).trans hc2
            have hs2 := hB2.size
            have hoc : gs.length < (gs ++ [[]]).length := by omega
            gi_wp2
            have hFd := hF2.kept (grown_drew w2)
            refine reg16 (B := B) (s := gs.length) (k := k) (b2 := b2) (off2 := off2) (x := (q : Int)) (m := 0) (n0 := w.heap.size) (xs := []) hoc hkl hcu hco2 hrw (by omega) hs2 (fun w4 hg4 => hFd.kcell hoc hru hg4) ?_
            intro u' w3 ho hg hat2
            obtain ⟨k1, k2, k3, hF3⟩ := hFd.put (x := (q : Int)) hoc hru (by rw [hg3]; exact ho) hg hat2
            rw [hg3] at hF3
            have hB3 : Below w.heap.size w w3 := below_app (W := w2.drew) (hB2.trans ((Below.refl _ _).drew)) hg (fun g hg => (hrw.lt g hg).1)
            have hB4 := below_set (s := gs.length) (v := u') hB3 hBn
            have hFin : FT w.heap.size (gfit sz ps (o.take (k + 1)) []) (.slice (some ⟨B, 0, none⟩) (gs ++ [[]]).length vcap') ((rows ++ [Value.slice none 0 0]).set gs.length u') (w3.setCell ⟨B, gs.length, none⟩ u') := by
              have e0 : gat sz ps o[k] gs = gs.length := by have := gat_le sz ps o[k] gs; omega
              rw [List.take_succ_eq_append_getElem hkl, gfit_snoc, hG, e0, gput_new, hg3, hq]
              exact hF3
            gi_wp2
            exact ⟨⟨k + 1, _, by simp, by omega, hFin, hB4⟩, by simp [intOf]; omega⟩
    · obtain rfl : k = o.length := by omega
      rw [List.take_length] at hG
      subst hG
      gi_wp2_with (gi_at_call 74; refine (hck _ _ rows hF hB).mono ?_; rintro e w1 ⟨u, rfl, hPo⟩)
      exact ⟨rfl, _, results_tmp rfl _ _ _, u, rfl, hPo⟩
end
theorem row_VRs {W : World} {A : Nat → Prop} {n0 : Nat} {u : Value} {l : List Int} (hA : ∀ b, n0 ≤ b → b < W.heap.size → A b) (h : W.ownsRow n0 3 1 u l.length (l.map (Value.int .i64))) : VRs W A (.sl (.int .i64)) l [u] := by
  rcases h.2 with ⟨e1, e2⟩ | ⟨g, cap, cur, e1, e2, e3, e4, e5, e6, e7⟩
  · exact ⟨none, 0, by rw [e1, e2], by omega, .inl (List.length_eq_zero_iff.1 e2)⟩
  · refine ⟨some ⟨g, 0, none⟩, cap, by rw [e1], e4, .inr ⟨g, 0, cur, 3, (0, 0), rfl, hA g e2 (Array.getElem?_eq_some_iff.1 e3).1, e3, by show 0 + l.length * 1 ≤ _; omega, fun j z hj => ?_⟩⟩
    have hj2 := (List.getElem?_eq_some_iff.1 hj).1
    show (cur.toList.drop (0 + j * 1)).take 1 = [.int .i64 z]
    have h7 : (l.map (Value.int .i64))[j]? = some (.int .i64 z) := by rw [List.getElem?_map, hj]; rfl
    rw [← e7, List.getElem?_take, if_pos (by omega)] at h7
    obtain ⟨h8, h9⟩ := List.getElem?_eq_some_iff.1 h7
    rw [Nat.zero_add, Nat.mul_one, List.drop_eq_getElem_cons h8, h9]
    rfl
theorem FT.cr {W : World} {A : Nat → Prop} {n0 : Nat} {gs : List (List Int)} {v : Value} {rows : List Value} (h : FT n0 gs v rows W) (hA : ∀ b, n0 ≤ b → b < W.heap.size → A b) : CR W A (.sl (.sl (.int .i64)) gs false) v := by
  rcases h.tab.2 with ⟨e1, e2⟩ | ⟨g, cap, cur, e1, e2, e3, e4, e5, e6, e7⟩
  · exact ⟨none, 0, by rw [e1, e2], by omega, fun h => (by cases h), .inl (List.length_eq_zero_iff.1 e2)⟩
  · refine ⟨some ⟨g, 0, none⟩, cap, e1, e4, fun h => (by cases h), .inr ⟨g, 0, cur, 22, (0, 0), rfl, hA g e2 (Array.getElem?_eq_some_iff.1 e3).1, e3, by show 0 + gs.length * 1 ≤ _; omega, fun i y hi => ?_⟩⟩
    have hi2 := (List.getElem?_eq_some_iff.1 hi).1
    obtain ⟨u, hu, hr⟩ := h.row i hi2
    have hy : gs[i] = y := (List.getElem?_eq_some_iff.1 hi).2
    rw [hy] at hr
    show VRs W A (.sl (.int .i64)) y ((cur.toList.drop (0 + i * 1)).take 1)
    have h7 := hu
    rw [← e7, List.getElem?_take, if_pos (by omega)] at h7
    obtain ⟨h8, h9⟩ := List.getElem?_eq_some_iff.1 h7
    rw [Nat.zero_add, Nat.mul_one, List.drop_eq_getElem_cons h8, h9]
    exact row_VRs hA hr
/-- What comes back of a callee's callee. -/
theorem ret_up {w W w' : World} {A0 : Nat → Prop} {xs : List Int} {u : Value} (hB : Below w.heap.size w W) (h : RetR W w' (fun b => A0 b ∨ (w.heap.size ≤ b ∧ b < W.heap.size)) [.fresh (.int .i64) xs false] u) : RetR w w' A0 [.fresh (.int .i64) xs false] u := by
  obtain ⟨is, us, e, hR⟩ := h
  match is, us, hR with
  | [i], [v], ⟨⟨h1, h2, h3⟩, h4, _⟩ =>
    have hS := hB.size
    have hm : ∀ b, newA W w' (fun b => A0 b ∨ (w.heap.size ≤ b ∧ b < W.heap.size)) [i] b → newA w w' A0 [i] b ∧ w'.heap[b]? = w'.heap[b]? := by
      intro b hb
      refine ⟨⟨hb.1, ?_, hb.2.2⟩, rfl⟩
      intro hlt
      rcases hb.2.1 (Nat.lt_of_lt_of_le hlt hS) with h5 | h5
      · exact h5
      · omega
    have hn : ∀ b c, i = .at b c → w.heap.size ≤ b ∧ b < w'.heap.size := by
      intro b c hbc
      have := h3 b c hbc
      omega
    exact ⟨[i], [v], e, ⟨objR.mono hm _ _ (fun _ _ _ => rfl) h1, h2, hn⟩, h4, trivial⟩
  | [], us, hR => exact absurd hR.lengths.1 (by simp)
  | _ :: _ :: _, us, hR => exact absurd hR.lengths.1 (by simp)
  | [_], [], hR => exact absurd hR.lengths.2 (by simp)
  | [_], _ :: _ :: _, hR => exact absurd hR.lengths.2 (by simp)
theorem HC81 (n : Nat × Nat) (xs : pksDen [.c (.int .i64), .c (.sl (.int .i64)), .c (.sl (.int .i64))]) (r : rksDen [.own (.int .i64) 0]) (h : HF81 (S74 n) xs.1 xs.2.1 xs.2.2.1 = some r) (vs : List V) (hv : pksArg [.c (.int .i64), .c (.sl (.int .i64)), .c (.sl (.int .i64))] vs = some xs) :
    FC Tryd.prog 81 vs (rets [.own (.int .i64) 0] r) := by
  obtain ⟨sz, ps, o, ⟨⟩⟩ := xs
  unfold HF81 at h
  obtain ⟨hd, h⟩ := cond_some h rfl
  simp only [Bool.and_eq_true, decide_eq_true_eq, List.all_eq_true] at hd
  obtain ⟨⟨⟨d1, d2⟩, d3⟩, d4⟩ := hd
  intro w A0 args hA hargs hgl
  have hv2 := pksArg_VR _ _ _ _ hv hargs
  match args, hv2 with
  | [v0, v1, v2], ⟨g0, g1, g2, _⟩ =>
    have g0 : v0 = .int .i64 sz := g0
    subst g0
    obtain ⟨ad1, cap1, rfl, hc1⟩ := CR_cells (t := false) g1 hA
    obtain ⟨ad2, cap2, rfl, hc2⟩ := CR_cells (t := false) g2 hA
    refine ((callsIn_wide (n := 3)).1 (fit_in 3 (by omega) sz ad1 ad2 cap1 cap2 ps o w (fun u w' => Grows w w' ∧ RetR w w' A0 (rets [.own (.int .i64) 0] r) u) d1 d2 d3 d4 hc1 hc2 ?_)).mono ?_
    · intro W v rows hF hB
      obtain ⟨ret, f1, f2⟩ := FC74 n [.c (.sl (.int .i64) ps false), .c (.sl (.sl (.int .i64)) (gfit sz ps o []) false)] _ some (rets rk74 r) (by
        show (S74 n ps (gfit sz ps o [])).bind (fun r => some (rets rk74 r)) = some (rets rk74 r)
        rw [h]
        rfl)
      cases f1
      have hmA : ∀ b, A0 b → (A0 b ∨ (w.heap.size ≤ b ∧ b < W.heap.size)) ∧ W.heap[b]? = w.heap[b]? := fun b hb => ⟨.inl hb, hB.block b (hA b hb)⟩
      refine (callsIn_wide (n := 3 - 1)).2 ((f2 W (fun b => A0 b ∨ (w.heap.size ≤ b ∧ b < W.heap.size)) [.slice ad1 ps.length cap1, v] (fun b hb => ?_) ⟨CR.mono hmA (.sl (.int .i64) ps false) _ g1, hF.cr (fun b h1 h2 => .inr ⟨h1, h2⟩), trivial⟩ (hgl.mono hB.size hmA)).mono ?_)
      · rcases hb with hb | hb
        · exact Nat.lt_of_lt_of_le (hA b hb) hB.size
        · exact hb.2
      · intro x w' hx
        cases x with
        | returned u => exact ⟨u, rfl, (Grows.of_below hB).trans hx.1, ret_up hB hx.2⟩
        | _ => exact hx.elim
    · rintro x w' ⟨u, rfl, h1, h2⟩
      exact ⟨h1, h2⟩
end Go.Proofs.YtgmonagekfjnmaaDoor
set_option linter.unusedVariables false
set_option linter.unusedSimpArgs false
set_option maxRecDepth 100000
namespace Go.Proofs.YtgmonagekfjnmaaDoor
open Go.Vi
abbrev R81 := List Int
def pk81 : List PK := [.c (.int .i64), .c (.sl (.int .i64)), .c (.sl (.int .i64))]
def rk81 : List RK := [.own (.int .i64) 0]
noncomputable def S81 (n : Nat × Nat) (size0 : Int) (pieces1 : List Int) (order2 : List Int) : Option R81 := HF81 (S74 n) size0 pieces1 order2
noncomputable def P81 (n : Nat × Nat) := phiOf pk81 rk81 (fun xs => S81 n xs.1 xs.2.1 xs.2.2.1)
theorem call81 : CallOK Tryd.prog 81 := callOK_of Tryd.func81 (by kernel_rfl) (by kernel_rfl)
theorem FC81 (n : Nat × Nat) : FCs Tryd.prog 81 (P81 n) := phiOf_FCs fun xs r h vs hv => HC81 n xs r h vs hv
abbrev R33 := List Int × Int
noncomputable def c33 : Code := bodyOf Tryd.f33
noncomputable def an33 : Ann := (.s .l (.s .l (.s (.s .l (.j [0, 1, 2, 8, 27, 28] .l .l)) (.s (.s .l (.j [0, 1, 2, 8] (.j [0, 1, 2, 8, 9, 27, 28] (.s (.s .l (.j [0, 1, 2, 8, 9, 27, 28] .l .l)) (.j [] (.j [0, 1, 2, 8, 9, 27, 28] (.s .l (.j [0, 1, 2, 8, 9, 27, 28] .l (.s .l (.j [0, 1, 2, 8, 9, 27, 28] .l .l)))) .l) .l)) .l) .l)) (.s (.s .l (.j [0, 1, 2] .l .l)) .l)))))
def pk33 : List PK := [.c (.int .i64), .c (.sl (.int .i64)), .c (.sl (.int .i64))]
def rk33 : List RK := [.own (.int .i64) 6, .c (.int .i64) 7]
noncomputable def rt33 (st : St) : Option R33 := rtG rk33 st
noncomputable def E33 (n : Nat × Nat) : Env := { T := tab, phi := (consPhi 27 (fun _ => true) (P27 n) (consPhi 72 (fun _ => true) (P72 n) (consPhi 73 (fun _ => true) (P73 n) (consPhi 81 (fun _ => true) (P81 n) noPhi)))), eff := fun _ => false, fuel := n.1, hold := n.2 }
noncomputable def kq33_3 (n : Nat × Nat) : St → Option R33 := run (E33 n) (cB (cB (cB (cB c33)))) (Ann.snd (Ann.snd (Ann.snd (Ann.snd an33)))) rt33 (fun _ _ => none) rt33
noncomputable def xb33_5 (n : Nat × Nat) : Nat → St → Option R33 := fun j s => bif Nat.beq j 0 then normC [0, 1, 2, 8] s (kq33_3 n) else (fun _ _ => none) j s
noncomputable def F33_6 (n : Nat × Nat) : (St → Option R33) → St → Option R33 := fun K s => run (E33 n) (cA (cA (cB (cA (cB (cB (cB c33))))))) (Ann.fst (Ann.fst (Ann.snd (Ann.fst (Ann.snd (Ann.snd (Ann.snd an33))))))) (fun s => normC [0, 1, 2, 8, 9, 27, 28] s K) (xb33_5 n) rt33 s
noncomputable def kq33_9 (n : Nat × Nat) (m1 : Nat) : St → Option R33 := run (E33 n) (cB (cB (cA (cA (cB (cA (cB (cB (cB c33))))))))) (Ann.snd (Ann.snd (Ann.fst (Ann.fst (Ann.snd (Ann.fst (Ann.snd (Ann.snd (Ann.snd an33))))))))) (fun s => normC [0, 1, 2, 8, 9, 27, 28] s (loopN (F33_6 n) m1)) (xb33_5 n) rt33
noncomputable def L33_1 (n : Nat × Nat) (m : Nat) (size0 : Int) (pieces1 : List Int) (order2 : List Int) (e8 : Int) (i9 : Int) : Option R33 := loopN (F33_6 n) m { tm := [.c (.int .i64 size0), .c (.sl (.int .i64) pieces1 false), .c (.sl (.int .i64) order2 false), uu, uu, uu, uu, uu, .c (.int .i64 e8), .c (.int .i64 i9), uu, uu, uu, uu, uu, uu, uu, uu, uu, uu, uu, uu, uu, uu, uu, uu, uu, uu, uu, uu, uu, uu, uu, uu, uu, uu, uu, uu, uu, uu, uu, uu, uu, uu, uu, uu, uu, uu, uu, uu, uu, uu, uu, uu, uu, uu], hp := emp }
noncomputable def L33_2 (n : Nat × Nat) (m1 : Nat) (size0 : Int) (pieces1 : List Int) (order2 : List Int) (e8 : Int) (i9 : Int) : Option R33 := loopN (fun _ => (kq33_9 n m1)) n.2 { tm := [.c (.int .i64 size0), .c (.sl (.int .i64) pieces1 false), .c (.sl (.int .i64) order2 false), uu, uu, uu, uu, uu, .c (.int .i64 e8), .c (.int .i64 i9), uu, uu, uu, uu, uu, uu, uu, uu, uu, uu, uu, uu, uu, uu, uu, uu, uu, uu, uu, uu, uu, uu, uu, uu, uu, uu, uu, uu, uu, uu, uu, uu, uu, uu, uu, uu, uu, uu, uu, uu, uu, uu, uu, uu, uu, uu], hp := emp }
theorem L33_1_eq (n : Nat × Nat) (m1 : Nat) (size0 : Int) (pieces1 : List Int) (order2 : List Int) (e8 : Int) (i9 : Int) : L33_1 n (m1 + 1) size0 pieces1 order2 e8 i9 =
 ((bif (decide (i9 < (order2.length : Int)) == true) then some (e8 == 0)
 else some false)).bind fun b3' =>
 (bif b3' then (idx order2 i9).bind fun x4' =>
 (S72 n x4' 0 (wr .i64 ((pieces1.length : Int) - 1))).bind fun r5' =>
 (bif (!r5') then L33_2 n m1 size0 pieces1 order2 2 i9
 else (bif bounds none (some i9) none order2.length then (idx order2 i9).bind fun x6' =>
 (S73 n (order2.take (Int.toNat i9)) x6').bind fun r7' =>
 (bif r7' then L33_2 n m1 size0 pieces1 order2 6 i9
 else L33_2 n m1 size0 pieces1 order2 e8 i9)
 else none))
 else (bif (e8 != 0) then some ([], e8)
 else (S81 n size0 pieces1 order2).bind fun r8' =>
 some (r8', 0))) := by kernel_rfl
theorem L33_2_raw (n : Nat × Nat) (m1 : Nat) (size0 : Int) (pieces1 : List Int) (order2 : List Int) (e8 : Int) (i9 : Int) : (kq33_9 n m1) { tm := [.c (.int .i64 size0), .c (.sl (.int .i64) pieces1 false), .c (.sl (.int .i64) order2 false), uu, uu, uu, uu, uu, .c (.int .i64 e8), .c (.int .i64 i9), uu, uu, uu, uu, uu, uu, uu, uu, uu, uu, uu, uu, uu, uu, uu, uu, uu, uu, uu, uu, uu, uu, uu, uu, uu, uu, uu, uu, uu, uu, uu, uu, uu, uu, uu, uu, uu, uu, uu, uu, uu, uu, uu, uu, uu, uu], hp := emp } =
    L33_1 n m1 size0 pieces1 order2 e8 (wr .i64 (i9 + 1)) := by kernel_rfl
noncomputable def S33 (n : Nat × Nat) (size0 : Int) (pieces1 : List Int) (order2 : List Int) : Option R33 := run (E33 n) c33 an33 rt33 (fun _ _ => none) rt33 { tm := [.c (.int .i64 size0), .c (.sl (.int .i64) pieces1 false), .c (.sl (.int .i64) order2 false), uu, uu, uu, uu, uu, uu, uu, uu, uu, uu, uu, uu, uu, uu, uu, uu, uu, uu, uu, uu, uu, uu, uu, uu, uu, uu, uu, uu, uu, uu, uu, uu, uu, uu, uu, uu, uu, uu, uu, uu, uu, uu, uu, uu, uu, uu, uu, uu, uu, uu, uu, uu, uu], hp := emp }
theorem S33_eq (n : Nat × Nat) (size0 : Int) (pieces1 : List Int) (order2 : List Int) : S33 n size0 pieces1 order2 =
 (S27 n size0 pieces1).bind fun r1' =>
 ((bif ((r1' == 0) == true) then some ((order2.length : Int) != (pieces1.length : Int))
 else some false)).bind fun b2' =>
 (bif b2' then L33_1 n n.1 size0 pieces1 order2 5 0
 else L33_1 n n.1 size0 pieces1 order2 r1' 0) := by kernel_rfl
theorem S33_run (n : Nat × Nat) (xs : pksDen pk33) : S33 n xs.1 xs.2.1 xs.2.2.1 = runG (E33 n) noScope c33 an33 (rtG rk33) (fun _ _ => none) (rtG rk33) (st0 pk33 xs Tryd.f33.ntmps) := by kernel_rfl
noncomputable def P33 (n : Nat × Nat) := phiOf pk33 rk33 (fun xs => S33 n xs.1 xs.2.1 xs.2.2.1)
theorem call33 : CallOK Tryd.prog 33 := callOK_of Tryd.func33 (by kernel_rfl) (by kernel_rfl)
theorem env33 (n : Nat × Nat) : EnvOK Tryd.prog (E33 n) := envOK0 (consPhi_ok (FC27 n) call27 (consPhi_ok (FC72 n) call72 (consPhi_ok (FC73 n) call73 (consPhi_ok (FC81 n) call81 noPhi_ok)))) rfl rfl
theorem par33 (n : Nat × Nat) : EnvPar (E33 n) := envPar0 (consPhi_par phiOf_Par1 (consPhi_par phiOf_Par1 (consPhi_par phiOf_Par1 (consPhi_par phiOf_Par1 noPhi_par)))) rfl
theorem FC33 (n : Nat × Nat) : FCs Tryd.prog 33 (P33 n) := phiOf_FCs fun xs r h vs hv => FC.of_runG tabOK eqsOK (env33 n) (par33 n) mixed (fun _ p _ => noScope_ok p.1 p.2) Tryd.func33 (c := c33) (an := an33) (pks := pk33) (rks := rk33) (by kernel_rfl) (by kernel_rfl) hv ((S33_run n xs).symm.trans h)
abbrev R4 := Bool
noncomputable def c4 : Code := bodyOf Tryd.f4
noncomputable def an4 : Ann := (.s .l (.s (.s .l (.j [0, 1, 2, 54, 55, 56, 59, 60, 61, 64, 65, 66, 69] .l .l)) .l))
def pk4 : List PK := [.c (.int .i64), .c (.sl (.int .i64)), .c (.sl (.int .i64))]
def rk4 : List RK := [.c .bool 6]
noncomputable def rt4 (st : St) : Option R4 := rtG rk4 st
noncomputable def E4 (n : Nat × Nat) : Env := { T := tab, phi := (consPhi 17 (fun _ => true) (P17 n) (consPhi 24 (fun _ => true) (P24 n) (consPhi 30 (fun _ => true) (P30 n) (consPhi 31 (fun _ => true) (P31 n) (consPhi 32 (fun _ => true) (P32 n) (consPhi 33 (fun _ => true) (P33 n) noPhi)))))), eff := fun _ => false, fuel := n.1, hold := n.2 }
noncomputable def S4 (n : Nat × Nat) (size0 : Int) (pieces1 : List Int) (order2 : List Int) : Option R4 := run (E4 n) c4 an4 rt4 (fun _ _ => none) rt4 { tm := [.c (.int .i64 size0), .c (.sl (.int .i64) pieces1 false), .c (.sl (.int .i64) order2 false), uu, uu, uu, uu, uu, uu, uu, uu, uu, uu, uu, uu, uu, uu, uu, uu, uu, uu, uu, uu, uu, uu, uu, uu, uu, uu, uu, uu, uu, uu, uu, uu, uu, uu, uu, uu, uu, uu, uu, uu, uu, uu, uu, uu, uu, uu, uu, uu, uu, uu, uu, uu, uu, uu, uu, uu, uu, uu, uu, uu, uu, uu, uu, uu, uu, uu, uu, uu], hp := emp }
theorem S4_eq (n : Nat × Nat) (size0 : Int) (pieces1 : List Int) (order2 : List Int) : S4 n size0 pieces1 order2 =
 ((bif (decide ((pieces1.length : Int) > 40) == false) then some (decide ((order2.length : Int) > 40))
 else some true)).bind fun b1' =>
 (bif b1' then (S17 n).bind fun r2' =>
 some r2'
 else (S30 n size0 pieces1).bind fun r3' =>
 (S31 n size0 pieces1).bind fun r4' =>
 (S32 n size0 pieces1 order2).bind fun r5' =>
 (S33 n size0 pieces1 order2).bind fun r6' =>
 (S24 n r3'.1 r4'.1).bind fun r7' =>
 ((bif (r7' == true) then some (r3'.2 == r4'.2)
 else some false)).bind fun b8' =>
 ((bif (b8' == true) then (S24 n r5'.1 r6'.1).bind fun r9' =>
 some r9'
 else some false)).bind fun b10' =>
 ((bif (b10' == true) then some (r5'.2 == r6'.2)
 else some false)).bind fun b11' =>
 ((bif (b11' == true) then (S17 n).bind fun r12' =>
 some r12'
 else some false)).bind fun b13' =>
 some b13') := by kernel_rfl
theorem S4_run (n : Nat × Nat) (xs : pksDen pk4) : S4 n xs.1 xs.2.1 xs.2.2.1 = runG (E4 n) noScope c4 an4 (rtG rk4) (fun _ _ => none) (rtG rk4) (st0 pk4 xs Tryd.f4.ntmps) := by kernel_rfl
noncomputable def P4 (n : Nat × Nat) := phiOf pk4 rk4 (fun xs => S4 n xs.1 xs.2.1 xs.2.2.1)
theorem env4 (n : Nat × Nat) : EnvOK Tryd.prog (E4 n) := envOK0 (consPhi_ok (FC17 n) call17 (consPhi_ok (FC24 n) call24 (consPhi_ok (FC30 n) call30 (consPhi_ok (FC31 n) call31 (consPhi_ok (FC32 n) call32 (consPhi_ok (FC33 n) call33 noPhi_ok)))))) rfl rfl
theorem par4 (n : Nat × Nat) : EnvPar (E4 n) := envPar0 (consPhi_par phiOf_Par1 (consPhi_par phiOf_Par1 (consPhi_par phiOf_Par1 (consPhi_par phiOf_Par1 (consPhi_par phiOf_Par1 (consPhi_par phiOf_Par1 noPhi_par)))))) rfl
theorem FC4 (n : Nat × Nat) : FCs Tryd.prog 4 (P4 n) := phiOf_FCs fun xs r h vs hv => FC.of_runG tabOK eqsOK (env4 n) (par4 n) mixed (fun _ p _ => noScope_ok p.1 p.2) Tryd.func4 (c := c4) (an := an4) (pks := pk4) (rks := rk4) (by kernel_rfl) (by kernel_rfl) hv ((S4_run n xs).symm.trans h)
/-D 72 -/
noncomputable def D72 (n : Nat × Nat) (v0 : Int) (lo1 : Int) (hi2 : Int) : Option R72 :=
 ((bif (decide (v0 ≥ lo1) == true) then some (decide (v0 ≤ hi2))
 else some false)).bind fun b1' =>
 some b1'
theorem S72_D (n : Nat × Nat) (hn : n.2 = 1) : S72 n = D72 n := by
  funext v0 lo1 hi2; refine (S72_eq n v0 lo1 hi2).trans ?_
  unfold D72
  first | with_reducible rfl | rfl
/-D 27 -/
noncomputable def DF27_1 (n : Nat × Nat) (f1 : Int → List Int → Int → Option R27) (size0 : Int) (pieces1 : List Int) (i5 : Int) : Option R27 :=
 (bif decide (i5 < (pieces1.length : Int)) then (idx pieces1 i5).bind fun x2' =>
 (D72 n x2' 1 size0).bind fun r3' =>
 (bif (!r3') then some 1
 else f1 size0 pieces1 (wr .i64 (i5 + 1)))
 else some 0)
noncomputable def DL27_1 (n : Nat × Nat) (m : Nat) : Int → List Int → Int → Option R27 := Nat.rec (motive := fun _ => Int → List Int → Int → Option R27) (fun _ _ _ => none) (fun _ ih => DF27_1 n ih) m
theorem DL27_1_succ (n : Nat × Nat) (m : Nat) : DL27_1 n (m + 1) = DF27_1 n (DL27_1 n m) := rfl
theorem DL27_1_eq (n : Nat × Nat) (hn : n.2 = 1) : ∀ m, L27_1 n m = DL27_1 n m
  | 0 => by funext size0 pieces1 i5; kernel_rfl
  | m + 1 => by
    have ih := DL27_1_eq n hn m
    funext size0 pieces1 i5; refine (L27_1_eq n m size0 pieces1 i5).trans ?_
    rw [DL27_1_succ]
    unfold DF27_1
    (try simp only [ih, S72_D n hn]) <;> first | with_reducible rfl | rfl
noncomputable def D27 (n : Nat × Nat) (size0 : Int) (pieces1 : List Int) : Option R27 :=
 (D72 n size0 1 24).bind fun r1' =>
 (bif (!r1') then some 1
 else (bif decide ((pieces1.length : Int) > 8) then some 3
 else DL27_1 n n.1 size0 pieces1 0))
theorem S27_D (n : Nat × Nat) (hn : n.2 = 1) : S27 n = D27 n := by
  funext size0 pieces1; refine (S27_eq n size0 pieces1).trans ?_
  unfold D27
  (try simp only [DL27_1_eq n hn, S72_D n hn]) <;> first | with_reducible rfl | rfl
/-D 78 -/
noncomputable def DL78_3 (n : Nat × Nat) (f1 : List Int → Int → List Int → Option R78) (f2 : List Int → Int → Int → Int → List Int → Option R78) (pieces0 : List Int) (i4 : Int) (place5 : Int) (k6 : Int) (out3 : List Int) : Option R78 :=
    f2 pieces0 i4 place5 (wr .i64 (k6 + 1)) out3
theorem DL78_3_eq (n : Nat × Nat) (hn : n.2 = 1) (m1 m2 : Nat) : L78_3 n m1 m2 = DL78_3 n (L78_1 n m1) (L78_2 n m1 m2) := by
  funext pieces0 i4 place5 k6 out3; refine ((held_eq hn _).trans (L78_3_raw n m1 m2 pieces0 i4 place5 k6 out3)).trans ?_
  unfold DL78_3
  first | with_reducible rfl | rfl
noncomputable def DF78_2 (n : Nat × Nat) (f1 : List Int → Int → List Int → Option R78) (f2 : List Int → Int → Int → Int → List Int → Option R78) (pieces0 : List Int) (i4 : Int) (place5 : Int) (k6 : Int) (out3 : List Int) : Option R78 :=
 (bif decide (k6 < (pieces0.length : Int)) then (idx pieces0 k6).bind fun x1' =>
 (idx pieces0 i4).bind fun x2' =>
 ((bif (decide (x1' > x2') == false) then (idx pieces0 k6).bind fun x3' =>
 (idx pieces0 i4).bind fun x4' =>
 ((bif ((x3' == x4') == true) then some (decide (k6 < i4))
 else some false)).bind fun b5' =>
 some b5'
 else some true)).bind fun b6' =>
 (bif b6' then DL78_3 n f1 f2 pieces0 i4 (wr .i64 (place5 + 1)) k6 out3
 else DL78_3 n f1 f2 pieces0 i4 place5 k6 out3)
 else (bif inB place5 out3.length then (idx out3 place5).bind fun x7' =>
        f1 pieces0 (wr .i64 (i4 + 1)) (out3.set (Int.toNat place5) i4)
 else none))
noncomputable def DL78_2 (n : Nat × Nat) (f1 : List Int → Int → List Int → Option R78) (m : Nat) : List Int → Int → Int → Int → List Int → Option R78 := Nat.rec (motive := fun _ => List Int → Int → Int → Int → List Int → Option R78) (fun _ _ _ _ _ => none) (fun _ ih => DF78_2 n f1 ih) m
theorem DL78_2_succ (n : Nat × Nat) (f1 : List Int → Int → List Int → Option R78) (m : Nat) : DL78_2 n f1 (m + 1) = DF78_2 n f1 (DL78_2 n f1 m) := rfl
theorem DL78_2_eq (n : Nat × Nat) (hn : n.2 = 1) (m1 : Nat) : ∀ m, L78_2 n m1 m = DL78_2 n (L78_1 n m1) m
  | 0 => by funext pieces0 i4 place5 k6 out3; kernel_rfl
  | m + 1 => by
    have ih := DL78_2_eq n hn m1 m
    funext pieces0 i4 place5 k6 out3; refine (L78_2_eq n m1 m pieces0 i4 place5 k6 out3).trans ?_
    rw [DL78_2_succ]
    unfold DF78_2
    (try simp only [ih, DL78_3_eq n hn]) <;> first | with_reducible rfl | rfl
noncomputable def DF78_1 (n : Nat × Nat) (f1 : List Int → Int → List Int → Option R78) (pieces0 : List Int) (i4 : Int) (out3 : List Int) : Option R78 :=
 (bif decide (i4 < (pieces0.length : Int)) then DL78_2 n f1 n.1 pieces0 i4 0 0 out3
 else some out3)
noncomputable def DL78_1 (n : Nat × Nat) (m : Nat) : List Int → Int → List Int → Option R78 := Nat.rec (motive := fun _ => List Int → Int → List Int → Option R78) (fun _ _ _ => none) (fun _ ih => DF78_1 n ih) m
theorem DL78_1_succ (n : Nat × Nat) (m : Nat) : DL78_1 n (m + 1) = DF78_1 n (DL78_1 n m) := rfl
theorem DL78_1_eq (n : Nat × Nat) (hn : n.2 = 1) : ∀ m, L78_1 n m = DL78_1 n m
  | 0 => by funext pieces0 i4 out3; kernel_rfl
  | m + 1 => by
    have ih := DL78_1_eq n hn m
    funext pieces0 i4 out3; refine (L78_1_eq n m pieces0 i4 out3).trans ?_
    rw [DL78_1_succ]
    unfold DF78_1
    (try simp only [ih, DL78_3_eq n hn, DL78_2_eq n hn]) <;> first | with_reducible rfl | rfl
noncomputable def D78 (n : Nat × Nat) (pieces0 : List Int) : Option R78 :=
 (bif decide (0 ≤ (pieces0.length : Int)) && decide ((pieces0.length : Int) ≤ (pieces0.length : Int)) && decide ((pieces0.length : Int) ≤ lim) then DL78_1 n n.1 pieces0 0 (List.replicate (Int.toNat (pieces0.length : Int)) (0 : Int))
 else none)
theorem S78_D (n : Nat × Nat) (hn : n.2 = 1) : S78 n = D78 n := by
  funext pieces0; refine (S78_eq n pieces0).trans ?_
  unfold D78
  (try simp only [DL78_3_eq n hn, DL78_2_eq n hn, DL78_1_eq n hn]) <;> first | with_reducible rfl | rfl
/-D 31 -/
noncomputable def D31 (n : Nat × Nat) (size0 : Int) (pieces1 : List Int) : Option R31 :=
 (D27 n size0 pieces1).bind fun r1' =>
 (bif (r1' != 0) then some ([], r1')
 else (D78 n pieces1).bind fun r2' =>
 some (r2', 0))
theorem S31_D (n : Nat × Nat) (hn : n.2 = 1) : S31 n = D31 n := by
  funext size0 pieces1; refine (S31_eq n size0 pieces1).trans ?_
  unfold D31
  (try simp only [S27_D n hn, S78_D n hn]) <;> first | with_reducible rfl | rfl
/-D 73 -/
noncomputable def DF73_1 (n : Nat × Nat) (f1 : List Int → Int → Int → Option R73) (l0 : List Int) (v1 : Int) (i5 : Int) : Option R73 :=
 (bif decide (i5 < (l0.length : Int)) then (idx l0 i5).bind fun x1' =>
 (bif (x1' == v1) then some true
 else f1 l0 v1 (wr .i64 (i5 + 1)))
 else some false)
noncomputable def DL73_1 (n : Nat × Nat) (m : Nat) : List Int → Int → Int → Option R73 := Nat.rec (motive := fun _ => List Int → Int → Int → Option R73) (fun _ _ _ => none) (fun _ ih => DF73_1 n ih) m
theorem DL73_1_succ (n : Nat × Nat) (m : Nat) : DL73_1 n (m + 1) = DF73_1 n (DL73_1 n m) := rfl
theorem DL73_1_eq (n : Nat × Nat) (hn : n.2 = 1) : ∀ m, L73_1 n m = DL73_1 n m
  | 0 => by funext l0 v1 i5; kernel_rfl
  | m + 1 => by
    have ih := DL73_1_eq n hn m
    funext l0 v1 i5; refine (L73_1_eq n m l0 v1 i5).trans ?_
    rw [DL73_1_succ]
    unfold DF73_1
    (try simp only [ih]) <;> first | with_reducible rfl | rfl
noncomputable def D73 (n : Nat × Nat) (l0 : List Int) (v1 : Int) : Option R73 :=
    DL73_1 n n.1 l0 v1 0
theorem S73_D (n : Nat × Nat) (hn : n.2 = 1) : S73 n = D73 n := by
  funext l0 v1; refine (S73_eq n l0 v1).trans ?_
  unfold D73
  (try simp only [DL73_1_eq n hn]) <;> first | with_reducible rfl | rfl
/-D 67 -/
noncomputable def DF67_1 (n : Nat × Nat) (f1 : List Int → Int → Int → Option R67) (plan0 : List Int) (v3 : Int) (i4 : Int) : Option R67 :=
 (bif decide (i4 < (plan0.length : Int)) then (idx plan0 i4).bind fun x1' =>
      f1 plan0 (if (wr .i64 (x1' + 1)) > v3 then (wr .i64 (x1' + 1)) else v3) (wr .i64 (i4 + 1))
 else some v3)
noncomputable def DL67_1 (n : Nat × Nat) (m : Nat) : List Int → Int → Int → Option R67 := Nat.rec (motive := fun _ => List Int → Int → Int → Option R67) (fun _ _ _ => none) (fun _ ih => DF67_1 n ih) m
theorem DL67_1_succ (n : Nat × Nat) (m : Nat) : DL67_1 n (m + 1) = DF67_1 n (DL67_1 n m) := rfl
theorem DL67_1_eq (n : Nat × Nat) (hn : n.2 = 1) : ∀ m, L67_1 n m = DL67_1 n m
  | 0 => by funext plan0 v3 i4; kernel_rfl
  | m + 1 => by
    have ih := DL67_1_eq n hn m
    funext plan0 v3 i4; refine (L67_1_eq n m plan0 v3 i4).trans ?_
    rw [DL67_1_succ]
    unfold DF67_1
    (try simp only [ih]) <;> first | with_reducible rfl | rfl
noncomputable def D67 (n : Nat × Nat) (plan0 : List Int) : Option R67 :=
    DL67_1 n n.1 plan0 0 0
theorem S67_D (n : Nat × Nat) (hn : n.2 = 1) : S67 n = D67 n := by
  funext plan0; refine (S67_eq n plan0).trans ?_
  unfold D67
  (try simp only [DL67_1_eq n hn]) <;> first | with_reducible rfl | rfl
/-D 74 -/
noncomputable def DL74_4 (n : Nat × Nat) (f1 : List Int → List (List Int) → Int → List Int → Option R74) (f2 : List Int → List (List Int) → Int → Int → Int → List Int → Option R74) (f3 : List Int → List (List Int) → Int → Int → Int → Int → List Int → Option R74) (pieces0 : List Int) (groups1 : List (List Int)) (i6 : Int) (sheet7 : Int) (k8 : Int) (g9 : Int) (out5 : List Int) : Option R74 :=
    f3 pieces0 groups1 i6 sheet7 k8 (wr .i64 (g9 + 1)) out5
theorem DL74_4_eq (n : Nat × Nat) (hn : n.2 = 1) (m1 m2 m3 : Nat) : L74_4 n m1 m2 m3 = DL74_4 n (L74_1 n m1) (L74_2 n m1 m2) (L74_3 n m1 m2 m3) := by
  funext pieces0 groups1 i6 sheet7 k8 g9 out5; refine ((held_eq hn _).trans (L74_4_raw n m1 m2 m3 pieces0 groups1 i6 sheet7 k8 g9 out5)).trans ?_
  unfold DL74_4
  (try simp only [S67_D n hn, S73_D n hn]) <;> first | with_reducible rfl | rfl
noncomputable def DF74_3 (n : Nat × Nat) (f1 : List Int → List (List Int) → Int → List Int → Option R74) (f2 : List Int → List (List Int) → Int → Int → Int → List Int → Option R74) (f3 : List Int → List (List Int) → Int → Int → Int → Int → List Int → Option R74) (pieces0 : List Int) (groups1 : List (List Int)) (i6 : Int) (sheet7 : Int) (k8 : Int) (g9 : Int) (out5 : List Int) : Option R74 :=
 (bif decide (g9 < (groups1.length : Int)) then (idx groups1 g9).bind fun x2' =>
 (D73 n x2' i6).bind fun r3' =>
 ((bif (r3' == true) then (idx groups1 g9).bind fun x4' =>
 (D73 n x4' k8).bind fun r5' =>
 some r5'
 else some false)).bind fun b6' =>
 (bif b6' then (bif inB k8 out5.length then (idx out5 k8).bind fun x7' =>
          DL74_4 n f1 f2 f3 pieces0 groups1 i6 x7' k8 g9 out5
 else none)
 else DL74_4 n f1 f2 f3 pieces0 groups1 i6 sheet7 k8 g9 out5)
 else f2 pieces0 groups1 i6 sheet7 (wr .i64 (k8 + 1)) out5)
noncomputable def DL74_3 (n : Nat × Nat) (f1 : List Int → List (List Int) → Int → List Int → Option R74) (f2 : List Int → List (List Int) → Int → Int → Int → List Int → Option R74) (m : Nat) : List Int → List (List Int) → Int → Int → Int → Int → List Int → Option R74 := Nat.rec (motive := fun _ => List Int → List (List Int) → Int → Int → Int → Int → List Int → Option R74) (fun _ _ _ _ _ _ _ => none) (fun _ ih => DF74_3 n f1 f2 ih) m
theorem DL74_3_succ (n : Nat × Nat) (f1 : List Int → List (List Int) → Int → List Int → Option R74) (f2 : List Int → List (List Int) → Int → Int → Int → List Int → Option R74) (m : Nat) : DL74_3 n f1 f2 (m + 1) = DF74_3 n f1 f2 (DL74_3 n f1 f2 m) := rfl
theorem DL74_3_eq (n : Nat × Nat) (hn : n.2 = 1) (m1 m2 : Nat) : ∀ m, L74_3 n m1 m2 m = DL74_3 n (L74_1 n m1) (L74_2 n m1 m2) m
  | 0 => by funext pieces0 groups1 i6 sheet7 k8 g9 out5; kernel_rfl
  | m + 1 => by
    have ih := DL74_3_eq n hn m1 m2 m
    funext pieces0 groups1 i6 sheet7 k8 g9 out5; refine (L74_3_eq n m1 m2 m pieces0 groups1 i6 sheet7 k8 g9 out5).trans ?_
    rw [DL74_3_succ]
    unfold DF74_3
    (try simp only [ih, DL74_4_eq n hn, S67_D n hn, S73_D n hn]) <;> first | with_reducible rfl | rfl
noncomputable def DF74_2 (n : Nat × Nat) (f1 : List Int → List (List Int) → Int → List Int → Option R74) (f2 : List Int → List (List Int) → Int → Int → Int → List Int → Option R74) (pieces0 : List Int) (groups1 : List (List Int)) (i6 : Int) (sheet7 : Int) (k8 : Int) (out5 : List Int) : Option R74 :=
 (bif decide (k8 < i6) then DL74_3 n f1 f2 n.1 pieces0 groups1 i6 sheet7 k8 0 out5
 else (bif decide (out5.length + [sheet7].length ≤ lim) then f1 pieces0 groups1 (wr .i64 (i6 + 1)) (out5 ++ [sheet7])
 else none))
noncomputable def DL74_2 (n : Nat × Nat) (f1 : List Int → List (List Int) → Int → List Int → Option R74) (m : Nat) : List Int → List (List Int) → Int → Int → Int → List Int → Option R74 := Nat.rec (motive := fun _ => List Int → List (List Int) → Int → Int → Int → List Int → Option R74) (fun _ _ _ _ _ _ => none) (fun _ ih => DF74_2 n f1 ih) m
theorem DL74_2_succ (n : Nat × Nat) (f1 : List Int → List (List Int) → Int → List Int → Option R74) (m : Nat) : DL74_2 n f1 (m + 1) = DF74_2 n f1 (DL74_2 n f1 m) := rfl
theorem DL74_2_eq (n : Nat × Nat) (hn : n.2 = 1) (m1 : Nat) : ∀ m, L74_2 n m1 m = DL74_2 n (L74_1 n m1) m
  | 0 => by funext pieces0 groups1 i6 sheet7 k8 out5; kernel_rfl
  | m + 1 => by
    have ih := DL74_2_eq n hn m1 m
    funext pieces0 groups1 i6 sheet7 k8 out5; refine (L74_2_eq n m1 m pieces0 groups1 i6 sheet7 k8 out5).trans ?_
    rw [DL74_2_succ]
    unfold DF74_2
    (try simp only [ih, DL74_4_eq n hn, DL74_3_eq n hn, S67_D n hn, S73_D n hn]) <;> first | with_reducible rfl | rfl
noncomputable def DF74_1 (n : Nat × Nat) (f1 : List Int → List (List Int) → Int → List Int → Option R74) (pieces0 : List Int) (groups1 : List (List Int)) (i6 : Int) (out5 : List Int) : Option R74 :=
 (bif decide (i6 < (pieces0.length : Int)) then (D67 n out5).bind fun r1' =>
      DL74_2 n f1 n.1 pieces0 groups1 i6 r1' 0 out5
 else some out5)
noncomputable def DL74_1 (n : Nat × Nat) (m : Nat) : List Int → List (List Int) → Int → List Int → Option R74 := Nat.rec (motive := fun _ => List Int → List (List Int) → Int → List Int → Option R74) (fun _ _ _ _ => none) (fun _ ih => DF74_1 n ih) m
theorem DL74_1_succ (n : Nat × Nat) (m : Nat) : DL74_1 n (m + 1) = DF74_1 n (DL74_1 n m) := rfl
theorem DL74_1_eq (n : Nat × Nat) (hn : n.2 = 1) : ∀ m, L74_1 n m = DL74_1 n m
  | 0 => by funext pieces0 groups1 i6 out5; kernel_rfl
  | m + 1 => by
    have ih := DL74_1_eq n hn m
    funext pieces0 groups1 i6 out5; refine (L74_1_eq n m pieces0 groups1 i6 out5).trans ?_
    rw [DL74_1_succ]
    unfold DF74_1
    (try simp only [ih, DL74_4_eq n hn, DL74_3_eq n hn, DL74_2_eq n hn, S67_D n hn, S73_D n hn]) <;> first | with_reducible rfl | rfl
noncomputable def D74 (n : Nat × Nat) (pieces0 : List Int) (groups1 : List (List Int)) : Option R74 :=
    DL74_1 n n.1 pieces0 groups1 0 []
theorem S74_D (n : Nat × Nat) (hn : n.2 = 1) : S74 n = D74 n := by
  funext pieces0 groups1; refine (S74_eq n pieces0 groups1).trans ?_
  unfold D74
  (try simp only [DL74_4_eq n hn, DL74_3_eq n hn, DL74_2_eq n hn, DL74_1_eq n hn, S67_D n hn, S73_D n hn]) <;> first | with_reducible rfl | rfl
/-D 81 -/
noncomputable def D81 (n : Nat × Nat) (size0 : Int) (pieces1 : List Int) (order2 : List Int) : Option R81 := HF81 (D74 n) size0 pieces1 order2
theorem S81_D (n : Nat × Nat) (hn : n.2 = 1) : S81 n = D81 n := by unfold S81 D81; rw [S74_D n hn]
/-D 33 -/
noncomputable def DL33_2 (n : Nat × Nat) (f1 : Int → List Int → List Int → Int → Int → Option R33) (size0 : Int) (pieces1 : List Int) (order2 : List Int) (e8 : Int) (i9 : Int) : Option R33 :=
    f1 size0 pieces1 order2 e8 (wr .i64 (i9 + 1))
theorem DL33_2_eq (n : Nat × Nat) (hn : n.2 = 1) (m1 : Nat) : L33_2 n m1 = DL33_2 n (L33_1 n m1) := by
  funext size0 pieces1 order2 e8 i9; refine ((held_eq hn _).trans (L33_2_raw n m1 size0 pieces1 order2 e8 i9)).trans ?_
  unfold DL33_2
  (try simp only [S27_D n hn, S72_D n hn, S73_D n hn, S81_D n hn]) <;> first | with_reducible rfl | rfl
noncomputable def DF33_1 (n : Nat × Nat) (f1 : Int → List Int → List Int → Int → Int → Option R33) (size0 : Int) (pieces1 : List Int) (order2 : List Int) (e8 : Int) (i9 : Int) : Option R33 :=
 ((bif (decide (i9 < (order2.length : Int)) == true) then some (e8 == 0)
 else some false)).bind fun b3' =>
 (bif b3' then (idx order2 i9).bind fun x4' =>
 (D72 n x4' 0 (wr .i64 ((pieces1.length : Int) - 1))).bind fun r5' =>
 (bif (!r5') then DL33_2 n f1 size0 pieces1 order2 2 i9
 else (bif bounds none (some i9) none order2.length then (idx order2 i9).bind fun x6' =>
 (D73 n (order2.take (Int.toNat i9)) x6').bind fun r7' =>
 (bif r7' then DL33_2 n f1 size0 pieces1 order2 6 i9
 else DL33_2 n f1 size0 pieces1 order2 e8 i9)
 else none))
 else (bif (e8 != 0) then some ([], e8)
 else (D81 n size0 pieces1 order2).bind fun r8' =>
 some (r8', 0)))
noncomputable def DL33_1 (n : Nat × Nat) (m : Nat) : Int → List Int → List Int → Int → Int → Option R33 := Nat.rec (motive := fun _ => Int → List Int → List Int → Int → Int → Option R33) (fun _ _ _ _ _ => none) (fun _ ih => DF33_1 n ih) m
theorem DL33_1_succ (n : Nat × Nat) (m : Nat) : DL33_1 n (m + 1) = DF33_1 n (DL33_1 n m) := rfl
theorem DL33_1_eq (n : Nat × Nat) (hn : n.2 = 1) : ∀ m, L33_1 n m = DL33_1 n m
  | 0 => by funext size0 pieces1 order2 e8 i9; kernel_rfl
  | m + 1 => by
    have ih := DL33_1_eq n hn m
    funext size0 pieces1 order2 e8 i9; refine (L33_1_eq n m size0 pieces1 order2 e8 i9).trans ?_
    rw [DL33_1_succ]
    unfold DF33_1
    (try simp only [ih, DL33_2_eq n hn, S27_D n hn, S72_D n hn, S73_D n hn, S81_D n hn]) <;> first | with_reducible rfl | rfl
noncomputable def D33 (n : Nat × Nat) (size0 : Int) (pieces1 : List Int) (order2 : List Int) : Option R33 :=
 (D27 n size0 pieces1).bind fun r1' =>
 ((bif ((r1' == 0) == true) then some ((order2.length : Int) != (pieces1.length : Int))
 else some false)).bind fun b2' =>
 (bif b2' then DL33_1 n n.1 size0 pieces1 order2 5 0
 else DL33_1 n n.1 size0 pieces1 order2 r1' 0)
theorem S33_D (n : Nat × Nat) (hn : n.2 = 1) : S33 n = D33 n := by
  funext size0 pieces1 order2; refine (S33_eq n size0 pieces1 order2).trans ?_
  unfold D33
  (try simp only [DL33_2_eq n hn, DL33_1_eq n hn, S27_D n hn, S72_D n hn, S73_D n hn, S81_D n hn]) <;> first | with_reducible rfl | rfl
/-D 4 -/
noncomputable def D4 (n : Nat × Nat) (size0 : Int) (pieces1 : List Int) (order2 : List Int) : Option R4 :=
 ((bif (decide ((pieces1.length : Int) > 40) == false) then some (decide ((order2.length : Int) > 40))
 else some true)).bind fun b1' =>
 (bif b1' then (D17 n).bind fun r2' =>
 some r2'
 else (D30 n size0 pieces1).bind fun r3' =>
 (D31 n size0 pieces1).bind fun r4' =>
 (D32 n size0 pieces1 order2).bind fun r5' =>
 (D33 n size0 pieces1 order2).bind fun r6' =>
 (D24 n r3'.1 r4'.1).bind fun r7' =>
 ((bif (r7' == true) then some (r3'.2 == r4'.2)
 else some false)).bind fun b8' =>
 ((bif (b8' == true) then (D24 n r5'.1 r6'.1).bind fun r9' =>
 some r9'
 else some false)).bind fun b10' =>
 ((bif (b10' == true) then some (r5'.2 == r6'.2)
 else some false)).bind fun b11' =>
 ((bif (b11' == true) then (D17 n).bind fun r12' =>
 some r12'
 else some false)).bind fun b13' =>
 some b13')
theorem S4_D (n : Nat × Nat) (hn : n.2 = 1) : S4 n = D4 n := by
  funext size0 pieces1 order2; refine (S4_eq n size0 pieces1 order2).trans ?_
  unfold D4
  (try simp only [S17_D n hn, S24_D n hn, S30_D n hn, S31_D n hn, S32_D n hn, S33_D n hn]) <;> first | with_reducible rfl | rfl
/-D 13 -/
end Go.Proofs.YtgmonagekfjnmaaDoor
set_option linter.unusedVariables false
set_option linter.unusedSimpArgs false
namespace Go.Proofs.YtgmonagekfjnmaaDoor
open Go.Vi
abbrev N : Nat × Nat := (1000000, 1)
theorem works_eq : D17 N = some true := by kernel_rfl
end Go.Proofs.YtgmonagekfjnmaaDoor
set_option linter.unusedVariables false
set_option linter.unusedSimpArgs false
set_option maxRecDepth 100000
namespace Go.Proofs.YtgmonagekfjnmaaDoor
open Go.Vi
noncomputable def c3 : Code := bodyOf Tryd.f3
/-D 16 -/
/-D 68 -/
/-D 29 -/
/-D 19 -/
/-D 21 -/
/-D 23 -/
/-D 3 -/
end Go.Proofs.YtgmonagekfjnmaaDoor
set_option linter.unusedVariables false
set_option linter.unusedSimpArgs false
namespace Go.Proofs.YtgmonagekfjnmaaDoor
open Go.Vi
theorem hN1 : 1000 ≤ N.1 := by decide
theorem wr_ok {x : Int} (h1 : -9223372036854775808 ≤ x) (h2 : x ≤ 9223372036854775807) : wr .i64 x = x := by
  have : wr .i64 x = (x + 9223372036854775808) % 18446744073709551616 - 9223372036854775808 := by
    simp only [wr, IntKind.wrap, IntKind.signed, IntKind.bits]
    simp
    split <;> omega
  rw [this]
  omega
theorem wr_succ {k : Nat} (h : k < 1000000) : wr .i64 ((k : Int) + 1) = ((k + 1 : Nat) : Int) := by
  rw [wr_ok (by omega) (by omega)]; omega
theorem idx_nat {α : Type} {l : List α} {k : Nat} (h : k < l.length) : idx l (k : Int) = some l[k] := by
  unfold idx
  rw [if_pos (by omega), Int.toNat_natCast, List.getElem?_eq_getElem h]
theorem idx_int {α : Type} {l : List α} {k : Nat} {i : Int} (hi : i = k) (h : k < l.length) : idx l i = some l[k] := by
  subst hi
  exact idx_nat h
theorem drop_cons {α : Type} {l : List α} {k : Nat} (h : k < l.length) : l.drop k = l[k] :: l.drop (k + 1) := List.drop_eq_getElem_cons h
theorem inB_nat {k n : Nat} (h : k < n) : inB (k : Int) n = true := by
  unfold inB
  simp [h]
theorem lim_dec {α : Type} {a : Nat} {x : α} (h : a < 1000000) : decide (a + [x].length ≤ lim) = true := decide_eq_true (by simp [lim]; omega)
theorem dlt_t {a b : Nat} (h : a < b) : decide ((a : Int) < (b : Int)) = true := decide_eq_true (by omega)
theorem dlt_f {a b : Nat} (h : ¬ a < b) : decide ((a : Int) < (b : Int)) = false := decide_eq_false (by omega)
theorem take_snoc {α : Type} {l : List α} {k : Nat} (h : k < l.length) : l.take (k + 1) = l.take k ++ [l[k]] := (List.take_append_getElem h).symm
theorem max_if (a b : Int) : (if b > a then b else a) = max a b := by
  by_cases h : b > a
  · rw [if_pos h, Int.max_eq_right (by omega)]
  · rw [if_neg h, Int.max_eq_left (by omega)]
/-- Two lists are the same. -/
theorem same_loop (n : Nat × Nat) (a b : List Int) (hl : a.length = b.length) (hs : a.length < 1000) : ∀ (m k : Nat), k ≤ a.length → a.length - k < m → DL24_1 n m a b (k : Int) = some (decide (a.drop k = b.drop k))
  | 0, k, _, h => by omega
  | m + 1, k, hk, h => by
    rw [DL24_1_succ]
    unfold DF24_1
    by_cases hlt : k < a.length
    · have ih := same_loop n a b hl hs m (k + 1) (by omega) (by omega)
      rw [dlt_t hlt, cond_true, idx_nat hlt, idx_nat (by omega : k < b.length), wr_succ (by omega), ih, drop_cons hlt, drop_cons (by omega : k < b.length)]
      simp only [Option.bind_some, List.cons.injEq]
      by_cases e : a[k] = b[k]
      · simp [e]
      · rw [show (a[k] != b[k]) = true by simpa using e, cond_true]; simp [e]
    · rw [dlt_f hlt, cond_false, List.drop_of_length_le (by omega), List.drop_of_length_le (by omega)]
      simp
theorem same_eq {n : Nat × Nat} (hn : 1000 ≤ n.1) {a b : List Int} (hs : a.length < 900) : D24 n a b = some (decide (a = b)) := by
  unfold D24
  by_cases hl : a.length = b.length
  · rw [show (((a.length : Int)) != (b.length : Int)) = false by simp [hl], cond_false]
    have := same_loop n a b hl (by omega) n.1 0 (by omega) (by omega)
    simpa using this
  · rw [show (((a.length : Int)) != (b.length : Int)) = true by simpa using (by omega : (a.length : Int) ≠ b.length), cond_true]
    rw [decide_eq_false (fun e => hl (by rw [e]))]
/-- The first place at which something holds, or -1. -/
def fnd (q : Int → Bool) : Nat → List Int → Int
  | _, [] => -1
  | k, x :: l => if q x then (k : Int) else fnd q (k + 1) l
theorem fnd_bnd (q : Int → Bool) : ∀ (l : List Int) (k : Nat), fnd q k l = -1 ∧ (∀ x ∈ l, q x = false) ∨ (k ≤ fnd q k l ∧ fnd q k l < k + l.length ∧ ∃ x ∈ l, q x = true)
  | [], k => by simp [fnd]
  | x :: l, k => by
    unfold fnd
    by_cases h : q x = true
    · rw [if_pos h]
      exact .inr ⟨by omega, by simp; omega, x, by simp, h⟩
    · rw [if_neg h]
      rcases fnd_bnd q l (k + 1) with ⟨h1, h2⟩ | ⟨h1, h2, y, hy, hq⟩
      · exact .inl ⟨h1, fun y hy => (List.mem_cons.1 hy).elim (fun e => by rw [e]; simpa using h) (fun hy => h2 y hy)⟩
      · exact .inr ⟨by omega, by simp; omega, y, by simp [hy], hq⟩
theorem fnd_ge (q : Int → Bool) (l : List Int) (k : Nat) : (0 ≤ fnd q k l) ↔ ∃ x ∈ l, q x = true := by
  rcases fnd_bnd q l k with ⟨h1, h2⟩ | ⟨h1, h2, h3⟩
  · constructor
    · intro h; omega
    · rintro ⟨x, hx, hq⟩; rw [h2 x hx] at hq; cases hq
  · exact ⟨fun _ => h3, fun _ => by omega⟩
/-- A job's error. -/
def BadP (sz p : Int) : Prop := p < 1 ∨ sz < p
instance (sz p : Int) : Decidable (BadP sz p) := inferInstanceAs (Decidable (_ ∨ _))
def chk (sz : Int) (ps : List Int) : Int := if sz < 1 ∨ 24 < sz then 1 else if 8 < ps.length then 3 else if ∃ p ∈ ps, BadP sz p then 1 else 0
structure Job (sz : Int) (ps : List Int) : Prop where
  lo : 1 ≤ sz
  hi : sz ≤ 24
  len : ps.length ≤ 8
  ok : ∀ p ∈ ps, 1 ≤ p ∧ p ≤ sz
theorem chk_job {sz : Int} {ps : List Int} : chk sz ps = 0 ↔ Job sz ps := by
  unfold chk
  constructor
  · intro h
    split at h
    · omega
    · split at h
      · omega
      · split at h
        · omega
        · rename_i h1 h2 h3
          refine ⟨by omega, by omega, by omega, fun p hp => ?_⟩
          have : ¬ BadP sz p := fun hb => h3 ⟨p, hp, hb⟩
          unfold BadP at this
          omega
  · intro h
    have := h.lo
    have := h.hi
    have := h.len
    rw [if_neg (by omega), if_neg (by omega), if_neg]
    rintro ⟨p, hp, hb⟩
    have := h.ok p hp
    unfold BadP at hb
    omega
theorem bad_eq (n : Nat × Nat) (p sz : Int) : D76 n p sz = some (decide (BadP sz p)) := by
  unfold D76 BadP
  by_cases h : p < 1
  · rw [decide_eq_true h]; simp [h]
  · rw [decide_eq_false h]; simp [h]
theorem idxf_loop (n : Nat × Nat) (l : List Int) (sz : Int) (hs : l.length < 100000) : ∀ (m k : Nat), k ≤ l.length → l.length - k < m → DL79c76_1 n m l sz (l.length : Int) (k : Int) = some (fnd (fun p => decide (BadP sz p)) k (l.drop k))
  | 0, k, _, h => by omega
  | m + 1, k, hk, h => by
    rw [DL79c76_1_succ]
    unfold DF79c76_1
    by_cases hlt : k < l.length
    · have ih := idxf_loop n l sz hs m (k + 1) (by omega) (by omega)
      rw [dlt_t hlt, cond_true, idx_nat hlt, Option.bind_some, bad_eq, Option.bind_some, wr_succ (by omega), ih, drop_cons hlt]
      generalize l.drop (k + 1) = t at *
      generalize l[k] = x at *
      unfold fnd
      by_cases e : BadP sz x
      · simp [e]
      · simp only [e, decide_false, cond_false, Bool.false_eq_true, if_false]
        cases t <;> rfl
    · rw [dlt_f hlt, cond_false, List.drop_of_length_le (by omega)]
      rfl
theorem anyb_eq {n : Nat × Nat} (l : List Int) (sz : Int) (hs : l.length < n.1) (hs2 : l.length < 100000) : D75c76 n l sz = some (decide (∃ p ∈ l, BadP sz p)) := by
  unfold D75c76 D79c76
  have := idxf_loop n l sz hs2 n.1 0 (by omega) (by omega)
  rw [show ((0 : Nat) : Int) = 0 from rfl, List.drop_zero] at this
  rw [this, Option.bind_some]
  congr 1
  apply decide_eq_decide.2
  have := fnd_ge (fun p => decide (BadP sz p)) l 0
  simp only [decide_eq_true_eq] at this
  exact this
theorem Check_eq {n : Nat × Nat} (hn : 1000 ≤ n.1) (sz : Int) (ps : List Int) : D26 n sz ps = some (chk sz ps) := by
  unfold D26 chk
  by_cases h1 : sz < 1
  · rw [decide_eq_true h1, if_pos (.inl h1)]; rfl
  · rw [decide_eq_false h1]
    by_cases h2 : 24 < sz
    · rw [if_pos (.inr h2), decide_eq_true (show sz > 24 from h2)]; rfl
    · rw [if_neg (by omega), decide_eq_false (show ¬ sz > 24 from h2)]
      simp only [beq_self_eq_true, cond_true, Option.bind_some, cond_false]
      by_cases h3 : 8 < ps.length
      · rw [if_pos h3, decide_eq_true (show (ps.length : Int) > 8 by omega), cond_true]
      · rw [if_neg h3, decide_eq_false (show ¬ (ps.length : Int) > 8 by omega), cond_false, anyb_eq ps sz (by omega) (by omega), Option.bind_some]
        by_cases h4 : ∃ p ∈ ps, BadP sz p
        · rw [if_pos h4, decide_eq_true h4, cond_true]
        · rw [if_neg h4, decide_eq_false h4, cond_false]
theorem in_eq (n : Nat × Nat) (v lo hi : Int) : D72 n v lo hi = some (decide (lo ≤ v ∧ v ≤ hi)) := by
  unfold D72
  by_cases h : lo ≤ v
  · rw [decide_eq_true (show v ≥ lo from h)]; simp [h]
  · rw [decide_eq_false (show ¬ v ≥ lo from h)]; simp [h]
theorem rcheck_loop (n : Nat × Nat) (sz : Int) (l : List Int) (hs : l.length < 1000) : ∀ (m k : Nat), k ≤ l.length → l.length - k < m → DL27_1 n m sz l (k : Int) = some (if ∃ p ∈ l.drop k, BadP sz p then 1 else 0)
  | 0, k, _, h => by omega
  | m + 1, k, hk, h => by
    rw [DL27_1_succ]
    unfold DF27_1
    by_cases hlt : k < l.length
    · have ih := rcheck_loop n sz l hs m (k + 1) (by omega) (by omega)
      rw [dlt_t hlt, cond_true, idx_nat hlt, Option.bind_some, in_eq, Option.bind_some, wr_succ (by omega), ih, drop_cons hlt]
      generalize l.drop (k + 1) = t at *
      generalize l[k] = x at *
      by_cases e : BadP sz x
      · rw [decide_eq_false (by unfold BadP at e; omega), Bool.not_false, cond_true, if_pos ⟨x, by simp, e⟩]
      · rw [decide_eq_true (by unfold BadP at e; omega), Bool.not_true, cond_false]
        simp [e]
    · rw [dlt_f hlt, cond_false, List.drop_of_length_le (by omega)]
      simp
theorem rCheck_eq {n : Nat × Nat} (hn : 1000 ≤ n.1) (sz : Int) (ps : List Int) : D27 n sz ps = some (chk sz ps) := by
  unfold D27 chk
  rw [in_eq, Option.bind_some]
  by_cases h1 : sz < 1 ∨ 24 < sz
  · rw [if_pos h1, decide_eq_false (by omega), Bool.not_false, cond_true]
  · rw [if_neg h1, decide_eq_true (by omega), Bool.not_true, cond_false]
    by_cases h3 : 8 < ps.length
    · rw [if_pos h3, decide_eq_true (show (ps.length : Int) > 8 by omega), cond_true]
    · rw [if_neg h3, decide_eq_false (show ¬ (ps.length : Int) > 8 by omega), cond_false]
      have := rcheck_loop n sz ps (by omega) n.1 0 (by omega) (by omega)
      rw [show ((0 : Nat) : Int) = 0 from rfl, List.drop_zero] at this
      exact this
/-- How many sheets a plan has. -/
def mny (l : List Int) : Int := l.foldl (fun a s => max a (s + 1)) 0
/-- How much of a sheet is used. -/
def usd : List Int → List Int → Int → Int
  | p :: ps, x :: l, s => (if x = s then p else 0) + usd ps l s
  | _, _, _ => 0
theorem fold_mny : ∀ (l : List Int) (a : Int), a ≤ l.foldl (fun a s => max a (s + 1)) a ∧ (∀ x ∈ l, x < l.foldl (fun a s => max a (s + 1)) a)
  | [], a => by simp
  | x :: l, a => by
    rw [List.foldl_cons]
    obtain ⟨h1, h2⟩ := fold_mny l (max a (x + 1))
    refine ⟨by omega, fun y hy => ?_⟩
    rcases List.mem_cons.1 hy with rfl | hy
    · omega
    · exact h2 y hy
theorem mny_nn (l : List Int) : 0 ≤ mny l := (fold_mny l 0).1
theorem mny_lt {l : List Int} {x : Int} (h : x ∈ l) : x < mny l := (fold_mny l 0).2 x h
theorem mny_snoc (l : List Int) (x : Int) : mny (l ++ [x]) = max (mny l) (x + 1) := by simp [mny, List.foldl_append]
theorem usd_none {s : Int} : ∀ {ps l : List Int}, s ∉ l → usd ps l s = 0
  | [], [], _ => rfl
  | [], _ :: _, _ => rfl
  | _ :: _, [], _ => rfl
  | q :: ps, y :: l, h => by
    simp only [List.mem_cons, not_or] at h
    simp only [usd, if_neg (fun e => h.1 (Eq.symm e)), usd_none h.2]
    omega
theorem many_loop (n : Nat × Nat) (l : List Int) (hs : l.length < 1000) (hb : ∀ x ∈ l, 0 ≤ x ∧ x ≤ 100000) : ∀ (m k : Nat) (v : Int), k ≤ l.length → l.length - k < m → DL67_1 n m l v (k : Int) = some ((l.drop k).foldl (fun a s => max a (s + 1)) v)
  | 0, k, v, _, h => by omega
  | m + 1, k, v, hk, h => by
    rw [DL67_1_succ]
    unfold DF67_1
    by_cases hlt : k < l.length
    · have hx := hb _ (List.getElem_mem hlt)
      rw [dlt_t hlt, cond_true, idx_nat hlt, Option.bind_some, wr_ok (x := l[k] + 1) (by omega) (by omega), max_if, wr_succ (by omega), many_loop n l hs hb m (k + 1) _ (by omega) (by omega), drop_cons hlt, List.foldl_cons]
    · rw [dlt_f hlt, cond_false, List.drop_of_length_le (by omega)]
      rfl
theorem many_eq {n : Nat × Nat} (hn : 1000 ≤ n.1) {l : List Int} (hs : l.length < 900) (hb : ∀ x ∈ l, 0 ≤ x ∧ x ≤ 100000) : D67 n l = some (mny l) := by
  unfold D67
  exact many_loop n l (by omega) hb n.1 0 0 (by omega) (by omega)
/-- The error of sheets' order. -/
def oer : Int → List Int → Int
  | _, [] => 0
  | m, x :: l => if x < 0 then 2 else if m < x then 7 else oer (max m (x + 1)) l
/-- What is left of each sheet. -/
def lf (sz : Int) (ps l : List Int) : List Int := (List.range (mny l).toNat).map fun s : Nat => sz - usd ps l (s : Int)
theorem lf_len (sz : Int) (ps l : List Int) : ((lf sz ps l).length : Int) = mny l := by
  have := mny_nn l
  simp [lf]
  omega
theorem lf_get {sz : Int} {ps l : List Int} {s : Nat} (h : s < (lf sz ps l).length) : (lf sz ps l)[s] = sz - usd ps l (s : Int) := by simp [lf]
theorem bounds_hi {k n : Nat} (h : k ≤ n) : bounds none (some (k : Int)) none n = true := by
  unfold bounds
  simp
  omega
/-- A plan that is one. -/
structure Pln (sz : Int) (ps l : List Int) : Prop where
  job : Job sz ps
  len : l.length = ps.length
  ord : oer 0 l = 0
  fit : ∀ x ∈ l, usd ps l x ≤ sz
theorem oer_bnd : ∀ (l : List Int) (m : Int), 0 ≤ m → oer m l = 0 → (∀ x ∈ l, 0 ≤ x ∧ x < m + l.length) ∧ l.foldl (fun a s => max a (s + 1)) m ≤ m + l.length
  | [], m, _, _ => by simp
  | x :: l, m, hm, h => by
    unfold oer at h
    split at h
    · omega
    · split at h
      · omega
      · obtain ⟨h1, h2⟩ := oer_bnd l _ (by omega) h
        rw [List.foldl_cons, List.length_cons]
        refine ⟨fun y hy => ?_, by omega⟩
        rcases List.mem_cons.1 hy with rfl | hy
        · omega
        · have := h1 y hy
          omega
theorem Pln.rng {sz : Int} {ps l : List Int} (h : Pln sz ps l) : ∀ x ∈ l, 0 ≤ x ∧ x ≤ 100000 := fun x hx => by
  have := (oer_bnd l 0 (by omega) h.ord).1 x hx
  have := h.job.len
  have := h.len
  omega
theorem Pln.mny {sz : Int} {ps l : List Int} (h : Pln sz ps l) : mny l ≤ 8 := by
  have h1 := (oer_bnd l 0 (by omega) h.ord).2
  have := h.job.len
  have := h.len
  unfold Proofs.YtgmonagekfjnmaaDoor.mny
  omega
/-- The groups' numbers, put where their pieces are: an error, or none, and what there is. -/
def pin (g : Int) : List Int → List Int → Int × List Int
  | [], out => (0, out)
  | x :: r, out => if x < 0 ∨ (out.length : Int) ≤ x then (2, out) else if 0 ≤ out.getD x.toNat 0 then (6, out) else pin g r (out.set x.toNat g)
/-- Numbers by their first places. -/
def tid : List Int → List Int → List Int
  | _, [] => []
  | met, x :: l => if x ∈ met then fnd (fun y => x == y) 0 met :: tid met l else (met.length : Int) :: tid (met ++ [x]) l
theorem tid_len : ∀ (l met : List Int), (tid met l).length = l.length
  | [], _ => rfl
  | x :: l, met => by
    unfold tid
    split <;> simp [tid_len l]
theorem find_loop (n : Nat × Nat) (l : List Int) (v : Int) (hs : l.length < 1000) : ∀ (m k : Nat), k ≤ l.length → l.length - k < m → DL95_1 n m l v (l.length : Int) (k : Int) = some (fnd (fun y => v == y) k (l.drop k))
  | 0, k, _, h => by omega
  | m + 1, k, hk, h => by
    rw [DL95_1_succ]
    unfold DF95_1
    by_cases hlt : k < l.length
    · have ih := find_loop n l v hs m (k + 1) (by omega) (by omega)
      rw [dlt_t hlt, cond_true, idx_nat hlt, Option.bind_some, wr_succ (by omega), ih, drop_cons hlt]
      generalize l.drop (k + 1) = t at *
      generalize l[k] = x at *
      unfold fnd
      by_cases e : v = x
      · subst e
        simp
      · rw [show (v == x) = false from beq_false_of_ne e]
        simp only [cond_false, Bool.false_eq_true, if_false]
        cases t <;> rfl
    · rw [dlt_f hlt, cond_false, List.drop_of_length_le (by omega)]
      rfl
theorem find_eq {n : Nat × Nat} (hn : 1000 ≤ n.1) (l : List Int) (v : Int) (hs : l.length < 900) : D95 n l v = some (fnd (fun y => v == y) 0 l) := by
  unfold D95
  have := find_loop n l v (by omega) n.1 0 (by omega) (by omega)
  simpa using this
theorem fnd_mem (v : Int) (l : List Int) : (0 ≤ fnd (fun y => v == y) 0 l) ↔ v ∈ l := by
  rw [fnd_ge]
  simp
theorem tid_loop (n : Nat × Nat) (hn : 1000 ≤ n.1) (l : List Int) (hs : l.length < 800) : ∀ (m k : Nat) (met out : List Int), k ≤ l.length → l.length - k < m → met.length ≤ k → out.length = k →
    DL71_1 n m l (l.length : Int) (k : Int) met out = some (out ++ tid met (l.drop k))
  | 0, k, _, _, _, h, _, _ => by omega
  | m + 1, k, met, out, hk, h, h1, h2 => by
    rw [DL71_1_succ]
    unfold DF71_1
    by_cases hlt : k < l.length
    · rw [dlt_t hlt, cond_true, idx_nat hlt, Option.bind_some, find_eq hn met _ (by omega), Option.bind_some, drop_cons hlt]
      have hm := fnd_mem l[k] met
      unfold tid
      by_cases e : l[k] ∈ met
      · have hf : ¬ fnd (fun y => l[k] == y) 0 met < 0 := Int.not_lt.2 (hm.2 e)
        rw [if_pos e, decide_eq_false hf, cond_false, lim_dec (by omega), cond_true, wr_succ (by omega), tid_loop n hn l hs m (k + 1) _ _ (by omega) (by omega) (by omega) (by simp; omega), List.append_assoc, List.singleton_append]
      · have hf : fnd (fun y => l[k] == y) 0 met < 0 := Int.not_le.1 (fun h => e (hm.1 h))
        rw [if_neg e, decide_eq_true hf, cond_true, lim_dec (by omega), cond_true, lim_dec (by omega), cond_true, wr_succ (by omega), tid_loop n hn l hs m (k + 1) _ _ (by omega) (by omega) (by simp; omega) (by simp; omega), List.append_assoc, List.singleton_append]
    · rw [dlt_f hlt, cond_false, List.drop_of_length_le (by omega)]
      simp [tid]
theorem tid_eq {n : Nat × Nat} (hn : 1000 ≤ n.1) (l : List Int) (hs : l.length < 800) : D71 n l = some (tid [] l) := by
  unfold D71
  have := tid_loop n hn l hs n.1 0 [] [] (by omega) (by omega) (by simp) (by simp)
  simpa using this
theorem rep_eq : ∀ k ≤ 8, D69 N [-1] ((k : Nat) : Int) = some (List.replicate k (-1))
  | 0, _ => by kernel_rfl
  | 1, _ => by kernel_rfl
  | 2, _ => by kernel_rfl
  | 3, _ => by kernel_rfl
  | 4, _ => by kernel_rfl
  | 5, _ => by kernel_rfl
  | 6, _ => by kernel_rfl
  | 7, _ => by kernel_rfl
  | 8, _ => by kernel_rfl
  | k + 9, h => by omega
end Go.Proofs.YtgmonagekfjnmaaDoor
/-
  Sheets: the search, for any function that is handed plans.
-/
set_option linter.unusedVariables false
set_option linter.unusedSimpArgs false
namespace Go.Proofs.YtgmonagekfjnmaaDoor
open Go.Vi
/-! All plans with at most so many sheets that begin with some numbers, in ascending order. -/
def rm (sz : Int) (L : List Int) (s : Nat) : Int := L.getD s sz
def up (sz : Int) (L : List Int) (s : Nat) (p : Int) : List Int := (if s = L.length then L ++ [sz] else L).set s (rm sz L s - p)
def pl (sz : Int) (mo : Nat) : List Int → List Int → List Int → List (List Int)
  | [], b, _ => [b]
  | p :: r, b, L => (List.range' 0 (min (L.length + 1) mo)).flatMap fun s => if p ≤ rm sz L s then pl sz mo r (b ++ [(s : Int)]) (up sz L s p) else []
/-! The search's three places. -/
section
variable {V : Type}
abbrev SR (V : Type) := Unit × V × Unit
abbrev FN (V : Type) := Int → List Int → Int → Int → V → List Int → List Int → Option (SR V)
theorem up_len {sz : Int} {L : List Int} {s : Nat} (p : Int) (h1 : s ≤ L.length) : (up sz L s p).length = max L.length (s + 1) := by
  unfold up
  rw [List.length_set]
  split
  · simp; omega
  · omega
theorem rm_get {sz : Int} {L : List Int} {s : Nat} (hs : s < L.length) : rm sz L s = L[s] := by unfold rm; rw [List.getD_eq_getElem?_getD, List.getElem?_eq_getElem hs, Option.getD_some]
theorem up_get {sz : Int} {L : List Int} {s i : Nat} (p : Int) (hi : i < (up sz L s p).length) : (up sz L s p)[i] = if s = i then rm sz L s - p else rm sz L i := by
  unfold up at hi ⊢
  rw [List.getElem_set]
  split
  · rfl
  · rename_i hne
    rw [List.length_set] at hi
    split
    · rename_i he
      simp only [if_pos he, List.length_append, List.length_cons, List.length_nil] at hi
      rw [List.getElem_append_left (by omega)]
      exact (rm_get _).symm
    · rename_i he
      simp only [if_neg he] at hi
      exact (rm_get _).symm
theorem up_mem {sz : Int} {L : List Int} {s : Nat} {p : Int} (h1 : s ≤ L.length) : ∀ x ∈ up sz L s p, x = rm sz L s - p ∨ x ∈ L := fun x hx => by
  obtain ⟨i, hi, e⟩ := List.getElem_of_mem hx
  have hl := up_len (sz := sz) p h1
  rw [up_get p hi] at e
  split at e
  · exact .inl e.symm
  · rename_i hne
    right
    rw [rm_get (by omega)] at e
    rw [← e]
    exact List.getElem_mem _
theorem rm_rng {sz : Int} {L : List Int} (hL : ∀ x ∈ L, 0 ≤ x ∧ x < sz) (h : 0 ≤ sz) (s : Nat) : 0 ≤ rm sz L s ∧ rm sz L s ≤ sz := by
  unfold rm
  by_cases hs : s < L.length
  · rw [List.getD_eq_getElem?_getD, List.getElem?_eq_getElem hs, Option.getD_some]
    have := hL _ (List.getElem_mem hs)
    omega
  · rw [List.getD_eq_getElem?_getD, List.getElem?_eq_none (by omega), Option.getD_none]
    omega
theorem up_rng {sz : Int} {L : List Int} {s : Nat} {p : Int} (hL : ∀ x ∈ L, 0 ≤ x ∧ x < sz) (h : 0 ≤ sz) (h1 : s ≤ L.length) (hp : 1 ≤ p) (hf : p ≤ rm sz L s) : ∀ x ∈ up sz L s p, 0 ≤ x ∧ x < sz := fun x hx => by
  have := rm_rng hL h s
  rcases up_mem h1 x hx with e | e
  · omega
  · exact hL x e
/-! The loop over the sheets for one piece. -/
structure SI (sz : Int) (mo : Nat) (ps : List Int) (b L : List Int) : Prop where
  job : Job sz ps
  le : b.length ≤ ps.length
  lm : L.length ≤ mo
  lb : L.length ≤ b.length
  rng : ∀ x ∈ L, 0 ≤ x ∧ x < sz
  mo : mo ≤ 1000
variable {b1 x1 f2 : FN V} {sz : Int} {mo : Nat} {ps b L : List Int}
/-! All of it. -/
variable {C : List Int → V → Option (Bool × List Int × V × Unit)} {c : List Int → V → Bool × V} {q0 : Nat}
end
end Go.Proofs.YtgmonagekfjnmaaDoor
set_option linter.unusedVariables false
set_option linter.unusedSimpArgs false
set_option maxRecDepth 100000
namespace Go.Proofs.YtgmonagekfjnmaaDoor
open Go.Vi
noncomputable def c5 : Code := bodyOf Tryd.f5
/-D 99 -/
/-D 83 -/
/-D 35 -/
/-D 37 -/
/-D 39 -/
/-D 5 -/
end Go.Proofs.YtgmonagekfjnmaaDoor
set_option linter.unusedVariables false
set_option linter.unusedSimpArgs false
namespace Go.Proofs.YtgmonagekfjnmaaDoor
open Go.Vi
/-! How many plans there are at most. -/
/-- What begins a plan. -/
structure Rs (sz : Int) (ps b L : List Int) : Prop where
  job : Job sz ps
  le : b.length ≤ ps.length
  nn : ∀ x ∈ b, 0 ≤ x
  my : mny b ≤ b.length
  left : L = lf sz (ps.take b.length) b
theorem Rs.len {sz : Int} {ps b L : List Int} (h : Rs sz ps b L) : (L.length : Int) = mny b := by rw [h.left]; exact lf_len _ _ _
theorem Rs.rm {sz : Int} {ps b L : List Int} (h : Rs sz ps b L) {s : Nat} (hs : s ≤ L.length) : rm sz L s = sz - usd (ps.take b.length) b s := by
  have hl := h.len
  by_cases e : s < L.length
  · rw [rm_get e]
    have := h.left
    subst this
    exact lf_get e
  · unfold Proofs.YtgmonagekfjnmaaDoor.rm
    rw [List.getD_eq_getElem?_getD, List.getElem?_eq_none (by omega), Option.getD_none, usd_none (fun hm => by have := mny_lt hm; omega)]
    omega
theorem Rs.nil {sz : Int} {ps : List Int} (h : Job sz ps) : Rs sz ps [] [] := ⟨h, by simp, by simp, by simp [mny], rfl⟩
/-! The reference's plans. -/
/-! Plans by their number of sheets. -/
/-- All plans with at most so many sheets. -/
def apl (sz : Int) (ps : List Int) (mo : Nat) : List (List Int) := pl sz mo ps [] []
def fwg (f : Nat → Bool) : Nat → Nat → Nat
  | 0, k => k
  | d + 1, k => if f k then k else fwg f d (k + 1)
/-- The fewest sheets. -/
def fw (sz : Int) (ps : List Int) : Nat := fwg (fun k => !(apl sz ps k).isEmpty) ps.length 0
/-- The first plan with the fewest sheets. -/
def fst (sz : Int) (ps : List Int) : List Int := (apl sz ps (fw sz ps)).headD []
/-- A piece's length. -/
def pc (l : List Int) (i : Int) : Int := l.getD i.toNat 0
theorem idx_pc {l : List Int} {i : Int} (h0 : 0 ≤ i) (h1 : i < l.length) : idx l i = some (pc l i) := by
  rw [idx_int (k := i.toNat) (by omega) (by omega)]
  simp [pc, show i.toNat < l.length by omega]
theorem pc_mem {l : List Int} {i : Int} (h0 : 0 ≤ i) (h1 : i < l.length) : pc l i ∈ l := by
  unfold pc
  rw [List.getD_eq_getElem?_getD, List.getElem?_eq_getElem (by omega), Option.getD_some]
  exact List.getElem_mem _
/-- Numbers are put into a list that falls, and numbers one after the other. -/
def insR (c : Int → Int → Bool) (x : Int) : List Int → List Int
  | [] => [x]
  | y :: Q => bif c x y then y :: insR c x Q else x :: y :: Q
def srt (c : Int → Int → Bool) : List Int → List Int → List Int
  | Q, [] => Q
  | Q, x :: r => srt c (insR c x Q) r
theorem insR_perm (c : Int → Int → Bool) (x : Int) : ∀ Q, (insR c x Q).Perm (x :: Q)
  | [] => List.Perm.refl _
  | y :: Q => by
    unfold insR
    cases c x y
    · exact List.Perm.refl _
    · exact (List.Perm.cons y (insR_perm c x Q)).trans (List.Perm.swap x y Q)
theorem insR_len (c : Int → Int → Bool) (x : Int) (Q : List Int) : (insR c x Q).length = Q.length + 1 := (insR_perm c x Q).length_eq
theorem srt_perm (c : Int → Int → Bool) : ∀ r Q, (srt c Q r).Perm (r ++ Q)
  | [], Q => List.Perm.refl _
  | x :: r, Q => by
    unfold srt
    refine (srt_perm c r _).trans (((insR_perm c x Q).append_left r).trans ?_)
    exact List.perm_middle
theorem insR_sort {c : Int → Int → Bool} {R : Int → Int → Prop} (ht : ∀ i j k, R i j → R j k → R i k) {x : Int} : ∀ {Q : List Int}, (∀ y ∈ Q, (c x y = true → R x y) ∧ (c x y = false → R y x)) → Q.Pairwise (fun a b => R b a) → (insR c x Q).Pairwise (fun a b => R b a)
  | [], _, _ => by simp [insR]
  | y :: Q, h, hp => by
    rw [List.pairwise_cons] at hp
    unfold insR
    cases e : c x y
    · rw [cond_false]
      have hy := (h y (by simp)).2 e
      refine List.pairwise_cons.2 ⟨fun z hz => ?_, List.pairwise_cons.2 hp⟩
      rcases List.mem_cons.1 hz with e' | hz
      · subst e'; exact hy
      · exact ht _ _ _ (hp.1 z hz) hy
    · rw [cond_true]
      refine List.pairwise_cons.2 ⟨fun z hz => ?_, insR_sort ht (fun y hy => h y (by simp [hy])) hp.2⟩
      rcases List.mem_cons.1 ((insR_perm c x Q).mem_iff.1 hz) with e' | hz
      · subst e'; exact (h y (by simp)).1 e
      · exact hp.1 z hz
theorem srt_sort {c : Int → Int → Bool} {R : Int → Int → Prop} (ht : ∀ i j k, R i j → R j k → R i k) {P : Int → Prop} (hc : ∀ x y, P x → P y → y < x → (c x y = true → R x y) ∧ (c x y = false → R y x)) : ∀ {r Q : List Int}, (∀ x ∈ r, P x) → (∀ x ∈ Q, P x) → (∀ x ∈ r, ∀ y ∈ Q, y < x) → r.Pairwise (· < ·) → Q.Pairwise (fun a b => R b a) → (srt c Q r).Pairwise (fun a b => R b a)
  | [], Q, _, _, _, _, hQ => hQ
  | x :: r, Q, pr, pQ, hlt, hr, hQ => by
    unfold srt
    rw [List.pairwise_cons] at hr
    refine srt_sort ht hc (fun y hy => pr y (by simp [hy])) (fun y hy => ?_) (fun y hy z hz => ?_) hr.2 (insR_sort ht (fun y hy => hc x y (pr x (by simp)) (pQ y hy) (hlt x (by simp) y hy)) hQ)
    · rcases List.mem_cons.1 ((insR_perm c x Q).mem_iff.1 hy) with e | hy
      · subst e; exact pr y (by simp)
      · exact pQ y hy
    · rcases List.mem_cons.1 ((insR_perm c x Q).mem_iff.1 hz) with e | hz
      · subst e; exact hr.1 y hy
      · exact hlt y (by simp [hy]) z hz
theorem idx_at {α : Type} {A r : List α} {y : α} {k : Nat} (h : A.length = k) : idx (A ++ y :: r) (k : Int) = some y := by
  rw [idx_nat (by simp; omega)]
  simp [← h]
theorem set_at {α : Type} {A r : List α} {y z : α} {k : Nat} (h : A.length = k) : (A ++ y :: r).set k z = A ++ z :: r := by
  subst h
  induction A with
  | nil => rfl
  | cons a A ih => simp only [List.cons_append, List.length_cons, List.set_cons_succ, ih]
def cmf (l : List Int) (x y : Int) : Bool := decide (pc l y < pc l x)
theorem cmpf (n : Nat × Nat) {l : List Int} (hb : ∀ s ∈ l, 1 ≤ s ∧ s ≤ 24) {i j : Int} (hi : 0 ≤ i ∧ i < l.length) (hj : 0 ≤ j ∧ j < l.length) : ∃ r : Int, D97 n i j l = some r ∧ decide (r < 0) = cmf l i j := by
  unfold D97 cmf
  rw [idx_pc hi.1 hi.2, idx_pc hj.1 hj.2]
  have o1 := hb _ (pc_mem hi.1 hi.2)
  have o2 := hb _ (pc_mem hj.1 hj.2)
  refine ⟨pc l j - pc l i, ?_, ?_⟩
  · simp only [Option.bind_some]
    rw [wr_ok (by omega) (by omega)]
  · exact decide_eq_decide.2 (by omega)
theorem inf_loop (n : Nat × Nat) (l : List Int) (hb : ∀ s ∈ l, 1 ≤ s ∧ s ≤ 24) (f : Int → Int → Int → List Int → List Int → Option R105c97io1001) (b i : Int) (x : Int) (hx : 0 ≤ x ∧ x < l.length) : ∀ (m : Nat) (Q T : List Int), Q.length < m → Q.length < 1000 → (∀ y ∈ Q, 0 ≤ y ∧ y < l.length) →
    DL105c97io1001_2 n f m 0 b i (Q.length : Int) (Q.reverse ++ x :: T) l = f 0 b (wr .i64 (i + 1)) ((insR (cmf l) x Q).reverse ++ T) l
  | 0, Q, T, h, _, _ => by omega
  | m + 1, [], T, h, _, hQ => by
    rw [DL105c97io1001_2_succ]
    unfold DF105c97io1001_2
    simp [insR]
  | m + 1, y :: Q, T, h, h8, hQ => by
    rw [DL105c97io1001_2_succ]
    unfold DF105c97io1001_2
    rw [List.length_cons] at h h8
    have hy := hQ y (by simp)
    obtain ⟨r, hr, hd⟩ := cmpf n hb hx hy
    have ih := inf_loop n l hb f b i x hx m Q (y :: T) (by omega) (by omega) (fun z hz => hQ z (by simp [hz]))
    have e : (y :: Q).reverse ++ x :: T = Q.reverse ++ y :: x :: T := by simp
    have w : wr .i64 (((y :: Q).length : Int) - 1) = (Q.length : Int) := by rw [List.length_cons, wr_ok (by omega) (by omega)]; omega
    have a1 : ∀ T' : List Int, idx (Q.reverse ++ y :: x :: T') ((y :: Q).length : Int) = some x := fun T' => by
      have := idx_at (A := Q.reverse ++ [y]) (r := T') (y := x) (k := (y :: Q).length) (by simp)
      simpa using this
    have a2 : ∀ T' : List Int, idx (Q.reverse ++ y :: T') (Q.length : Int) = some y := fun T' => idx_at (by simp)
    have a3 : (Q.reverse ++ y :: x :: T).set (y :: Q).length y = Q.reverse ++ y :: y :: T := by
      have := set_at (A := Q.reverse ++ [y]) (r := T) (y := x) (z := y) (k := (y :: Q).length) (by simp)
      rw [List.append_assoc, List.append_assoc] at this
      exact this
    have a4 : (Q.reverse ++ y :: y :: T).set Q.length x = Q.reverse ++ x :: y :: T := set_at (by simp)
    rw [e]
    rw [decide_eq_true (show (((y :: Q).length : Nat) : Int) > 0 by rw [List.length_cons]; omega), w]
    simp only [beq_self_eq_true, cond_true]
    rw [inB_nat (show (y :: Q).length < (Q.reverse ++ y :: x :: T).length by simp <;> omega), inB_nat (show Q.length < (Q.reverse ++ y :: x :: T).length by simp <;> omega)]
    simp only [cond_true, a1, a2, Option.bind_some, hr, hd]
    unfold insR
    cases cmf l x y
    · simp only [cond_false]
      congr 1
      simp
    · simp only [cond_true]
      rw [Int.toNat_natCast, Int.toNat_natCast, a3, a2, inB_nat (show Q.length < (Q.reverse ++ y :: y :: T).length by simp <;> omega)]
      simp only [cond_true, Option.bind_some, a4, ih]
      congr 1
      simp
theorem sof_loop (n : Nat × Nat) (hn : 1000 ≤ n.1) (l : List Int) (hb : ∀ s ∈ l, 1 ≤ s ∧ s ≤ 24) : ∀ (m : Nat) (r Q : List Int), r.length < m → Q.length + r.length < 900 → (∀ y ∈ Q, 0 ≤ y ∧ y < l.length) → (∀ y ∈ r, 0 ≤ y ∧ y < l.length) →
    DL105c97io1001_1 n m 0 ((Q.length + r.length : Nat) : Int) (Q.length : Int) (Q.reverse ++ r) l = some ((), (srt (cmf l) Q r).reverse, l, ())
  | 0, r, Q, h, _, _, _ => by omega
  | m + 1, [], Q, h, _, _, _ => by
    rw [DL105c97io1001_1_succ]
    unfold DF105c97io1001_1
    rw [dlt_f (by simp), cond_false]
    simp [srt]
  | m + 1, x :: r, Q, h, h8, hQ, hr => by
    rw [DL105c97io1001_1_succ]
    unfold DF105c97io1001_1
    rw [List.length_cons] at h h8
    have ih := sof_loop n hn l hb m r (insR (cmf l) x Q) (by omega) (by rw [insR_len]; omega) (fun y hy => by
      rcases List.mem_cons.1 ((insR_perm _ x Q).mem_iff.1 hy) with e | hy
      · subst e; exact hr y (by simp)
      · exact hQ y hy) (fun y hy => hr y (by simp [hy]))
    rw [dlt_t (by simp), cond_true, inf_loop n l hb _ _ _ x (hr x (by simp)) n.1 Q r (by omega) (by omega) hQ, wr_succ (by omega)]
    rw [insR_len] at ih
    rw [show Q.length + 1 + r.length = Q.length + (x :: r).length by rw [List.length_cons]; omega] at ih
    rw [ih]
    rfl
theorem sortf_eq {n : Nat × Nat} (hn : 1000 ≤ n.1) {l : List Int} (hb : ∀ s ∈ l, 1 ≤ s ∧ s ≤ 24) {r : List Int} (h7 : r.length ≤ 8) (hr : ∀ y ∈ r, 0 ≤ y ∧ y < l.length) : D96c97io11 n r l = some ((), (srt (cmf l) [] r).reverse, l, ()) := by
  have hs5 : D105c97io1001 n r 0 (r.length : Int) l = some ((), (srt (cmf l) [] r).reverse, l, ()) := by
    unfold D105c97io1001
    match r, h7, hr with
    | [], _, _ =>
      have : n.1 = (n.1 - 1) + 1 := by omega
      rw [this, DL105c97io1001_1_succ]
      unfold DF105c97io1001_1
      rw [show wr .i64 ((0 : Int) + 1) = 1 by rw [wr_ok (by omega) (by omega)]; omega]
      rfl
    | x :: r, h7, hr =>
      have := sof_loop n hn l hb n.1 r [x] (by simp at h7; omega) (by simp at h7 ⊢; omega) (fun y hy => by rw [List.mem_singleton] at hy; subst hy; exact hr y (by simp)) (fun y hy => hr y (by simp [hy]))
      rw [show wr .i64 ((0 : Int) + 1) = 1 by rw [wr_ok (by omega) (by omega)]; omega]
      simpa [srt, insR, Nat.add_comm] using this
  have hl : (srt (cmf l) [] r).reverse.length = r.length := by
    rw [List.length_reverse, (srt_perm (cmf l) r []).length_eq]
    simp
  have hs4 : D104c97io101 n r (r.length : Int) l = some ((), (srt (cmf l) [] r).reverse, l, ()) := by
    unfold D104c97io101
    obtain ⟨k, hk⟩ : ∃ k, n.1 = k + 1 := ⟨n.1 - 1, by omega⟩
    rw [hk, DL104c97io101_1_succ]
    unfold DF104c97io101_1
    rw [decide_eq_false (show ¬ (20 : Int) ≤ (r.length : Int) by omega), cond_false, hs5]
    simp only [Option.bind_some]
    rw [show Nat.beq (srt (cmf l) [] r).reverse.length r.length = true by rw [hl]; exact Nat.beq_refl _, cond_true, hk, DL104c97io101_2_succ]
    unfold DF104c97io101_2
    rw [decide_eq_false (show ¬ (20 : Int) < (r.length : Int) by omega), cond_false]
  unfold D96c97io11
  rw [hs4]
  simp only [Option.bind_some]
  rw [show Nat.beq (srt (cmf l) [] r).reverse.length r.length = true by rw [hl]; exact Nat.beq_refl _, cond_true]
/-- The falling order. -/
def fal (ps : List Int) : List Int := (srt (cmf ps) [] ((List.range ps.length).map fun i : Nat => (i : Int))).reverse
theorem fal_loop (n : Nat × Nat) (hn : 1000 ≤ n.1) {ps : List Int} (hb : ∀ s ∈ ps, 1 ≤ s ∧ s ≤ 24) (h8 : ps.length ≤ 8) : ∀ (m k : Nat), k ≤ ps.length → ps.length - k < m →
    DL77_1 n m (ps.length : Int) (k : Int) ps (((List.range k).map fun i : Nat => (i : Int)) ++ List.replicate (ps.length - k) 0) = some (fal ps)
  | 0, k, _, h => by omega
  | m + 1, k, hk, h => by
    rw [DL77_1_succ]
    unfold DF77_1
    by_cases hlt : k < ps.length
    · have hrep : List.replicate (ps.length - k) (0 : Int) = 0 :: List.replicate (ps.length - (k + 1)) 0 := by
        rw [← List.replicate_succ]; congr 1; omega
      have hk2 : ((List.range k).map fun i : Nat => (i : Int)).length = k := by simp
      have e2 : (List.range (k + 1)).map (fun i : Nat => (i : Int)) = ((List.range k).map fun i : Nat => (i : Int)) ++ [(k : Int)] := by
        rw [List.range_succ, List.map_append]; rfl
      rw [dlt_t hlt, cond_true, hrep, inB_nat (by simp), cond_true, idx_at hk2, Option.bind_some, Int.toNat_natCast, set_at hk2, wr_succ (by omega)]
      have ih := fal_loop n hn hb h8 m (k + 1) (by omega) (by omega)
      rw [e2, List.append_assoc, List.singleton_append] at ih
      exact ih
    · have e : k = ps.length := by omega
      subst e
      have hr : ∀ y ∈ (List.range ps.length).map (fun i : Nat => (i : Int)), 0 ≤ y ∧ y < ps.length := fun y hy => by
        obtain ⟨i, hi, rfl⟩ := List.mem_map.1 hy
        have := List.mem_range.1 hi
        omega
      rw [dlt_f hlt, cond_false, Nat.sub_self, List.replicate_zero, List.append_nil, sortf_eq hn hb (by simp; omega) hr, Option.bind_some]
      have hl : (srt (cmf ps) [] ((List.range ps.length).map fun i : Nat => (i : Int))).reverse.length = ((List.range ps.length).map fun i : Nat => (i : Int)).length := by
        rw [List.length_reverse, (srt_perm (cmf ps) _ []).length_eq]
        simp
      rw [show Nat.beq (srt (cmf ps) [] ((List.range ps.length).map fun i : Nat => (i : Int))).reverse.length ((List.range ps.length).map fun i : Nat => (i : Int)).length = true by rw [hl]; exact Nat.beq_refl _, cond_true]
      rfl
theorem fall_eq {n : Nat × Nat} (hn : 1000 ≤ n.1) {ps : List Int} (hb : ∀ s ∈ ps, 1 ≤ s ∧ s ≤ 24) (h8 : ps.length ≤ 8) : D77 n ps = some (fal ps) := by
  unfold D77
  rw [decide_eq_true (show (0 : Int) ≤ (ps.length : Int) by omega), decide_eq_true (show (ps.length : Int) ≤ (ps.length : Int) by omega), decide_eq_true (show (ps.length : Int) ≤ lim by unfold lim; omega), Int.toNat_natCast, List.length_replicate]
  have := fal_loop n hn hb h8 n.1 0 (by omega) (by omega)
  exact this
theorem Fall_eq {n : Nat × Nat} (hn : 1000 ≤ n.1) (sz : Int) (ps : List Int) : D30 n sz ps = some (if chk sz ps ≠ 0 then ([], chk sz ps) else (fal ps, 0)) := by
  unfold D30
  rw [Check_eq hn, Option.bind_some]
  by_cases h : chk sz ps = 0
  · have hj := chk_job.1 h
    rw [h, bne_self_eq_false, cond_false, if_neg (by simp), fall_eq hn (fun s hs => by have := hj.ok s hs; have := hj.hi; omega) hj.len, Option.bind_some]
  · rw [show (chk sz ps != 0) = true by simpa using h, cond_true, if_pos h]
theorem fal_perm (ps : List Int) : (fal ps).Perm ((List.range ps.length).map fun i : Nat => (i : Int)) := by
  unfold fal
  refine (List.reverse_perm _).trans ((srt_perm _ _ []).trans ?_)
  rw [List.append_nil]
/-- The order of the falling order. -/
def Fbf (ps : List Int) (i j : Int) : Prop := pc ps j < pc ps i ∨ pc ps i = pc ps j ∧ i < j
theorem fal_sort (ps : List Int) : (fal ps).Pairwise (Fbf ps) := by
  unfold fal
  rw [List.pairwise_reverse]
  refine srt_sort (R := Fbf ps) (fun i j k h1 h2 => by unfold Fbf at *; omega) (P := fun _ => True) (fun x y _ _ hlt => ?_) (fun _ _ => trivial) (fun _ _ => trivial) (fun _ _ y hy => by cases hy) ?_ List.Pairwise.nil
  · unfold cmf Fbf
    refine ⟨fun h => ?_, fun h => ?_⟩
    · have := of_decide_eq_true h; omega
    · have := of_decide_eq_false h; omega
  · rw [List.pairwise_map]
    exact (List.pairwise_lt_range).imp (fun h => by omega)
end Go.Proofs.YtgmonagekfjnmaaDoor
set_option linter.unusedVariables false
set_option linter.unusedSimpArgs false
set_option maxRecDepth 100000
namespace Go.Proofs.YtgmonagekfjnmaaDoor
open Go.Vi
/-D 41 -/
/-D 88 -/
/-D 43 -/
/-D 45 -/
/-D 47 -/
/-D 6 -/
end Go.Proofs.YtgmonagekfjnmaaDoor
set_option linter.unusedVariables false
set_option linter.unusedSimpArgs false
namespace Go.Proofs.YtgmonagekfjnmaaDoor
open Go.Vi
/-! Bounds. -/
/-- Each one divides the one before it. -/
def Chn : Int → List Int → Prop
  | _, [] => True
  | s, p :: r => s % p = 0 ∧ Chn p r
instance Chn.dec : ∀ (s : Int) (l : List Int), Decidable (Chn s l)
  | _, [] => .isTrue trivial
  | s, p :: r => by
    unfold Chn
    have := Chn.dec p r
    exact inferInstance
/-- Lengths are a chain. -/
def Cmp (x y : Int) : Prop := x % y = 0 ∨ y % x = 0
def IsC (sz : Int) (ps : List Int) : Prop := (∀ p ∈ ps, sz % p = 0) ∧ ps.Pairwise Cmp
instance (x y : Int) : Decidable (Cmp x y) := inferInstanceAs (Decidable (_ ∨ _))
instance (sz : Int) (ps : List Int) : Decidable (IsC sz ps) := inferInstanceAs (Decidable (_ ∧ _))
theorem fal_rng (ps : List Int) : ∀ i ∈ fal ps, 0 ≤ i ∧ i < ps.length := fun i hi => by
  obtain ⟨k, hk, rfl⟩ := List.mem_map.1 ((fal_perm ps).mem_iff.1 hi)
  have := List.mem_range.1 hk
  omega
theorem fal_len (ps : List Int) : (fal ps).length = ps.length := by
  rw [(fal_perm ps).length_eq]; simp
end Go.Proofs.YtgmonagekfjnmaaDoor
set_option linter.unusedVariables false
set_option linter.unusedSimpArgs false
set_option maxRecDepth 100000
namespace Go.Proofs.YtgmonagekfjnmaaDoor
open Go.Vi
/- (headword/headwordlaw09.Strip).made -/
/-D 100 -/
/-D 89 -/
/-D 48 -/
/-D 49 -/
/-D 50 -/
/-D 51 -/
/-D 91io00111 -/
/-D 101f91io001110 -/
/-D 90c91io001 -/
/-D 52 -/
/-D 7 -/
end Go.Proofs.YtgmonagekfjnmaaDoor
set_option linter.unusedVariables false
set_option linter.unusedSimpArgs false
namespace Go.Proofs.YtgmonagekfjnmaaDoor
open Go.Vi
/-! Numbers by their first places. -/
def dd : List Int → List Int → List Int
  | met, [] => met
  | met, x :: l => dd (if x ∈ met then met else met ++ [x]) l
theorem dd_snoc (x : Int) : ∀ (l met : List Int), dd met (l ++ [x]) = if x ∈ dd met l then dd met l else dd met l ++ [x]
  | [], met => rfl
  | y :: l, met => dd_snoc x l _
theorem dd_pre : ∀ (l met : List Int), ∃ s, dd met l = met ++ s
  | [], met => ⟨[], by simp [dd]⟩
  | y :: l, met => by
    unfold dd
    obtain ⟨s, hs⟩ := dd_pre l (if y ∈ met then met else met ++ [y])
    split at hs
    · rename_i h
      exact ⟨s, by rw [if_pos h]; exact hs⟩
    · rename_i h
      exact ⟨y :: s, by rw [if_neg h, hs]; simp⟩
theorem dd_mem (x : Int) : ∀ (l met : List Int), x ∈ dd met l ↔ x ∈ met ∨ x ∈ l
  | [], met => by simp [dd]
  | y :: l, met => by
    unfold dd
    rw [dd_mem x l]
    split
    · rename_i h
      constructor
      · rintro (h1 | h1)
        · exact .inl h1
        · exact .inr (by simp [h1])
      · rintro (h1 | h1)
        · exact .inl h1
        · rcases List.mem_cons.1 h1 with rfl | h1
          · exact .inl h
          · exact .inr h1
    · simp only [List.mem_append, List.mem_cons, List.not_mem_nil, or_false, or_assoc]
def ps0 (x : Int) (l : List Int) : Int := fnd (fun y => x == y) 0 l
theorem fnd_app {x : Int} : ∀ {a : List Int} (b : List Int) (k : Nat), x ∈ a → fnd (fun y => x == y) k (a ++ b) = fnd (fun y => x == y) k a
  | [], _, _, h => by simp at h
  | y :: a, b, k, h => by
    simp only [List.cons_append, fnd]
    by_cases e : x = y
    · simp [e]
    · rw [if_neg (by simpa using e), if_neg (by simpa using e), fnd_app b (k + 1) ((List.mem_cons.1 h).resolve_left e)]
theorem fnd_new {x : Int} : ∀ {a : List Int} (b : List Int) (k : Nat), x ∉ a → fnd (fun y => x == y) k (a ++ x :: b) = k + a.length
  | [], b, k, _ => by simp [fnd]
  | y :: a, b, k, h => by
    simp only [List.mem_cons, not_or] at h
    simp only [List.cons_append, fnd]
    rw [if_neg (by simpa using h.1), fnd_new b (k + 1) h.2]
    simp only [List.length_cons]
    omega
theorem fnd_lt {x : Int} {a : List Int} (h : x ∈ a) : 0 ≤ ps0 x a ∧ ps0 x a < a.length := by
  unfold ps0
  have h1 := (fnd_mem x a).2 h
  rcases fnd_bnd (fun y => x == y) a 0 with ⟨h2, _⟩ | ⟨h2, h3, _⟩
  · omega
  · omega
theorem tid_map : ∀ (l met : List Int), tid met l = l.map fun x => ps0 x (dd met l)
  | [], met => rfl
  | x :: l, met => by
    unfold tid dd
    split
    · rename_i h
      rw [tid_map l, List.map_cons]
      congr 1
      obtain ⟨s, hs⟩ := dd_pre l met
      unfold ps0
      rw [hs, fnd_app s 0 h]
    · rename_i h
      rw [tid_map l, List.map_cons]
      congr 1
      obtain ⟨s, hs⟩ := dd_pre l (met ++ [x])
      unfold ps0
      rw [hs, List.append_assoc, List.singleton_append, fnd_new s 0 h]
      simp
theorem dd_take (l : List Int) : ∀ k, ∃ s, dd [] l = dd [] (l.take k) ++ s := fun k => by
  have : ∀ (a b met : List Int), dd met (a ++ b) = dd (dd met a) b := by
    intro a
    induction a with
    | nil => intro b met; rfl
    | cons y a ih => intro b met; exact ih b _
  have e := this (l.take k) (l.drop k) []
  rw [List.take_append_drop] at e
  rw [e]
  exact dd_pre _ _
theorem tid_mny (l : List Int) : ∀ k ≤ l.length, mny ((tid [] l).take k) = (dd [] (l.take k)).length
  | 0, _ => by simp [mny, dd]
  | k + 1, hk => by
    have ih := tid_mny l k (by omega)
    have hlt : k < l.length := by omega
    have hlt2 : k < (tid [] l).length := by rw [tid_len]; exact hlt
    rw [take_snoc hlt2, mny_snoc, ih, take_snoc hlt, dd_snoc]
    have e : (tid [] l)[k] = ps0 l[k] (dd [] l) := by simp [tid_map]
    rw [e]
    obtain ⟨s, hs⟩ := dd_take l k
    by_cases h : l[k] ∈ dd [] (l.take k)
    · rw [if_pos h]
      unfold ps0
      rw [hs, fnd_app s 0 h]
      have := fnd_lt h
      unfold ps0 at this
      omega
    · rw [if_neg h]
      obtain ⟨s2, hs2⟩ := dd_take l (k + 1)
      rw [take_snoc hlt, dd_snoc, if_neg h] at hs2
      unfold ps0
      rw [hs2, List.append_assoc, List.singleton_append, fnd_new s2 0 h]
      simp only [List.length_append, List.length_cons, List.length_nil]
      omega
/-- The next number is that of the same one before, or a new one. -/
theorem tid_old {l : List Int} {i j : Nat} (hi : i < l.length) (hj : j < l.length) (h : l[j] = l[i]) : (tid [] l)[j]'(by rw [tid_len]; exact hj) = (tid [] l)[i]'(by rw [tid_len]; exact hi) := by
  simp [tid_map, h]
theorem tid_first {l : List Int} {i : Nat} (hi : i < l.length) (h : ∀ j (hj : j < i), l[j]'(by omega) ≠ l[i]) : (tid [] l)[i]'(by rw [tid_len]; exact hi) = mny ((tid [] l).take i) := by
  rw [tid_mny l i (by omega)]
  have hn : l[i] ∉ dd [] (l.take i) := fun hm => by
    rw [dd_mem] at hm
    rcases hm with hm | hm
    · simp at hm
    · obtain ⟨j, hj, e⟩ := List.getElem_of_mem hm
      rw [List.length_take] at hj
      rw [List.getElem_take] at e
      exact h j (by omega) e
  obtain ⟨s2, hs2⟩ := dd_take l (i + 1)
  rw [take_snoc hi, dd_snoc, if_neg hn] at hs2
  have e : (tid [] l)[i]'(by rw [tid_len]; exact hi) = ps0 l[i] (dd [] l) := by simp [tid_map]
  rw [e]
  unfold ps0
  rw [hs2, List.append_assoc, List.singleton_append, fnd_new s2 0 hn]
  omega
/-! The reference's reading of groups. -/
theorem has_loop (n : Nat × Nat) (l : List Int) (v : Int) (hs : l.length < 1000) : ∀ (m k : Nat), k ≤ l.length → l.length - k < m → DL73_1 n m l v (k : Int) = some (decide (v ∈ l.drop k))
  | 0, k, _, h => by omega
  | m + 1, k, hk, h => by
    rw [DL73_1_succ]
    unfold DF73_1
    by_cases hlt : k < l.length
    · have ih := has_loop n l v hs m (k + 1) (by omega) (by omega)
      rw [dlt_t hlt, cond_true, idx_nat hlt, Option.bind_some, wr_succ (by omega), ih, drop_cons hlt]
      generalize l.drop (k + 1) = t at *
      generalize l[k] = x at *
      by_cases e : x = v
      · rw [show (x == v) = true by simpa using e, cond_true]
        simp [e]
      · rw [show (x == v) = false from beq_false_of_ne e, cond_false]
        have : v ≠ x := fun h => e h.symm
        simp [this]
    · rw [dlt_f hlt, cond_false, List.drop_of_length_le (by omega)]
      simp
theorem has_eq {n : Nat × Nat} (hn : 1000 ≤ n.1) (l : List Int) (v : Int) (hs : l.length < 900) : D73 n l v = some (decide (v ∈ l)) := by
  unfold D73
  have := has_loop n l v (by omega) n.1 0 (by omega) (by omega)
  simpa using this
/-- The first sheet with room, or the next one. -/
def ffp (p : Int) : List Int → Nat
  | [] => 0
  | x :: L => if p ≤ x then 0 else ffp p L + 1
theorem ffp_le (p : Int) : ∀ L, ffp p L ≤ L.length
  | [] => Nat.le_refl _
  | x :: L => by
    have := ffp_le p L
    unfold ffp
    split
    · omega
    · simp; omega
theorem ffp_room {p : Int} : ∀ {L : List Int} (h : ffp p L < L.length), p ≤ L[ffp p L]
  | [], h => by simp at h
  | x :: L, h => by
    by_cases e : p ≤ x
    · have : ffp p (x :: L) = 0 := by unfold ffp; rw [if_pos e]
      simp only [this]
      exact e
    · have he : ffp p (x :: L) = ffp p L + 1 := by simp only [ffp]; rw [if_neg e]
      simp only [he, List.getElem_cons_succ]
      rw [he, List.length_cons] at h
      exact ffp_room (by omega)
theorem ffp_below {p : Int} : ∀ {L : List Int} {s : Nat} (hs : s < L.length), s < ffp p L → L[s] < p
  | [], s, hs, _ => by simp at hs
  | x :: L, s, hs, h => by
    by_cases e : p ≤ x
    · have : ffp p (x :: L) = 0 := by unfold ffp; rw [if_pos e]
      omega
    · have he : ffp p (x :: L) = ffp p L + 1 := by simp only [ffp]; rw [if_neg e]
      rw [he] at h
      cases s with
      | zero => simp only [List.getElem_cons_zero]; omega
      | succ s =>
        simp only [List.getElem_cons_succ]
        exact ffp_below _ (by omega)
theorem ffp_rm {p sz : Int} {L : List Int} (h : p ≤ sz) : p ≤ rm sz L (ffp p L) := by
  have := ffp_le p L
  by_cases e : ffp p L < L.length
  · rw [rm_get e]; exact ffp_room e
  · have : ffp p L = L.length := by omega
    rw [this]
    unfold rm
    rw [List.getD_eq_getElem?_getD, List.getElem?_eq_none (by omega), Option.getD_none]
    exact h
/-- One piece more. -/
def fst1 (sz : Int) (ps : List Int) (t : List Int × List Int) (i : Int) : List Int × List Int :=
  (t.1.set i.toNat (ffp (pc ps i) t.2), up sz t.2 (ffp (pc ps i) t.2) (pc ps i))
/-! The law's filling. -/
theorem up_rng2 {sz : Int} {ps : List Int} (hj : Job sz ps) {i : Int} (hi : 0 ≤ i ∧ i < ps.length) {L : List Int} (hr : ∀ x ∈ L, 0 ≤ x ∧ x < sz) : ∀ x ∈ up sz L (ffp (pc ps i) L) (pc ps i), 0 ≤ x ∧ x < sz := by
  have hp := hj.ok _ (pc_mem hi.1 hi.2)
  exact up_rng hr (by have := hj.lo; omega) (ffp_le _ _) hp.1 (ffp_rm hp.2)
/-! The program's. -/
theorem fnd_ffp (p : Int) : ∀ (L : List Int) (k : Nat), fnd (fun x => decide (p ≤ x)) k L = if ffp p L < L.length then ((k + ffp p L : Nat) : Int) else -1
  | [], k => rfl
  | x :: L, k => by
    have ih := fnd_ffp p L (k + 1)
    unfold fnd ffp
    by_cases e : p ≤ x
    · simp [e]
    · simp only [e, decide_false, Bool.false_eq_true, if_false, List.length_cons, ih]
      by_cases e2 : ffp p L < L.length
      · rw [if_pos e2, if_pos (by omega)]; omega
      · rw [if_neg e2, if_neg (by omega)]
theorem idxr_loop (n : Nat × Nat) {ps : List Int} {i : Int} (hi : 0 ≤ i ∧ i < ps.length) (l : List Int) (hs : l.length < 1000) : ∀ (m k : Nat), k ≤ l.length → l.length - k < m → DL79c80_1 n m l ps i (l.length : Int) (k : Int) = some (fnd (fun x => decide (pc ps i ≤ x)) k (l.drop k))
  | 0, k, _, h => by omega
  | m + 1, k, hk, h => by
    rw [DL79c80_1_succ]
    unfold DF79c80_1
    by_cases hlt : k < l.length
    · have ih := idxr_loop n hi l hs m (k + 1) (by omega) (by omega)
      have hd : D80 n l[k] ps i = some (decide (pc ps i ≤ l[k])) := by
        unfold D80
        rw [idx_pc hi.1 hi.2, Option.bind_some]
      rw [dlt_t hlt, cond_true, idx_nat hlt, Option.bind_some, hd, Option.bind_some, wr_succ (by omega), ih, drop_cons hlt]
      generalize l.drop (k + 1) = t at *
      generalize l[k] = x at *
      unfold fnd
      by_cases e : pc ps i ≤ x
      · simp [e]
      · simp only [e, decide_false, cond_false, Bool.false_eq_true, if_false]
        cases t <;> rfl
    · rw [dlt_f hlt, cond_false, List.drop_of_length_le (by omega)]
      rfl
theorem idxr_eq {n : Nat × Nat} (hn : 1000 ≤ n.1) {ps : List Int} {i : Int} (hi : 0 ≤ i ∧ i < ps.length) (l : List Int) (hs : l.length < 900) : D79c80 n l ps i = some (if ffp (pc ps i) l < l.length then ((ffp (pc ps i) l : Nat) : Int) else -1) := by
  unfold D79c80
  have := idxr_loop n hi l (by omega) n.1 0 (by omega) (by omega)
  rw [show ((0 : Nat) : Int) = 0 from rfl, List.drop_zero, fnd_ffp] at this
  rw [this]
  simp
/-- A whole order. -/
def Ord (ps o : List Int) : Prop := o.Perm ((List.range ps.length).map fun i : Nat => (i : Int))
theorem Ord.nd {ps o : List Int} (h : Ord ps o) : o.Nodup := by
  refine h.nodup_iff.2 ?_
  rw [List.Nodup, List.pairwise_map]
  exact (List.pairwise_lt_range).imp (fun h => by omega)
theorem Ord.rng {ps o : List Int} (h : Ord ps o) : ∀ i ∈ o, 0 ≤ i ∧ i < ps.length := fun i hi => by
  obtain ⟨k, hk, rfl⟩ := List.mem_map.1 (h.mem_iff.1 hi)
  have := List.mem_range.1 hk
  omega
theorem Ord.len {ps o : List Int} (h : Ord ps o) : o.length = ps.length := by
  rw [h.length_eq]; simp
theorem Ord.mem {ps o : List Int} (h : Ord ps o) : ∀ j : Nat, j < ps.length → (j : Int) ∈ o := fun j hj =>
  h.mem_iff.2 (List.mem_map.2 ⟨j, List.mem_range.2 hj, rfl⟩)
end Go.Proofs.YtgmonagekfjnmaaDoor
set_option linter.unusedVariables false
set_option linter.unusedSimpArgs false
set_option maxRecDepth 100000
namespace Go.Proofs.YtgmonagekfjnmaaDoor
open Go.Vi
/-D 55 -/
/-D 10 -/
end Go.Proofs.YtgmonagekfjnmaaDoor
set_option linter.unusedVariables false
set_option linter.unusedSimpArgs false
namespace Go.Proofs.YtgmonagekfjnmaaDoor
open Go.Vi
/-! Sums over sheets. -/
def tot : List Int → Int
  | [] => 0
  | p :: r => p + tot r
/-- What is added up of pieces. -/
structure Add (f : List Int → Int) : Prop where
  nil : f [] = 0
  cons : ∀ p r, f (p :: r) = f [p] + f r
/-! One sheet. -/
/-! The law's bound. -/
theorem tot_app : ∀ a b : List Int, tot (a ++ b) = tot a + tot b
  | [], b => by simp [tot]
  | x :: a, b => by
    simp only [List.cons_append, tot]
    rw [tot_app a b]
    omega
def gA (A : List Int) (i : Int) : Int := A.getD i.toNat 0
/-- What is used of a sheet by some pieces. -/
def udn (ps o A : List Int) (s : Int) : Int := tot (o.map fun i => if gA A i = s then pc ps i else 0)
theorem rm_end {sz : Int} (L : List Int) : rm sz L L.length = sz := by
  unfold rm
  rw [List.getD_eq_getElem?_getD, List.getElem?_eq_none (by omega), Option.getD_none]
structure FI (sz : Int) (ps dn A L : List Int) : Prop where
  len : A.length = ps.length
  rng : ∀ i ∈ dn, 0 ≤ gA A i ∧ gA A i < L.length
  all : ∀ s : Nat, s < L.length → ∃ i ∈ dn, gA A i = s
  left : ∀ (s : Nat) (h : s < L.length), L[s] = sz - udn ps dn A s
  lr : ∀ x ∈ L, 0 ≤ x ∧ x < sz
  two : ∀ (s t : Nat) (hs : s < L.length) (ht : t < L.length), s ≠ t → L[s] + L[t] < sz
theorem FI.none {sz : Int} {ps dn A L : List Int} (h : FI sz ps dn A L) {s : Nat} (hs : L.length ≤ s) : udn ps dn A s = 0 := by
  unfold udn
  have : ∀ i ∈ dn, (if gA A i = (s : Int) then pc ps i else 0) = 0 := fun i hi => by
    have := h.rng i hi
    rw [if_neg (by omega)]
  rw [List.map_congr_left this]
  clear this h
  induction dn with
  | nil => rfl
  | cons x r ih => simp only [List.map_cons, tot]; rw [ih]; rfl
theorem FI.rm {sz : Int} {ps dn A L : List Int} (h : FI sz ps dn A L) {s : Nat} (hs : s ≤ L.length) : rm sz L s = sz - udn ps dn A s := by
  by_cases e : s < L.length
  · rw [rm_get e]; exact h.left s e
  · have : s = L.length := by omega
    rw [h.none (by omega), this, rm_end]
    omega
theorem FI.step {sz : Int} {ps dn A L : List Int} (hj : Job sz ps) (h : FI sz ps dn A L) {i : Int} (hi : 0 ≤ i ∧ i < ps.length) (hdr : ∀ j ∈ dn, 0 ≤ j ∧ j < ps.length) (hn : i ∉ dn) :
    FI sz ps (dn ++ [i]) (fst1 sz ps (A, L) i).1 (fst1 sz ps (A, L) i).2 := by
  have hp := hj.ok _ (pc_mem hi.1 hi.2)
  have hfl := ffp_le (pc ps i) L
  have hul := up_len (sz := sz) (pc ps i) hfl
  have hlen := h.len
  have hrm := h.rm hfl
  have hroom := ffp_rm (L := L) hp.2
  have hbel : ∀ (s : Nat) (hs : s < L.length), s < ffp (pc ps i) L → L[s] < pc ps i := fun s hs hh => ffp_below hs hh
  simp only [fst1]
  generalize hS : ffp (pc ps i) L = S at *
  have g1 : ∀ j ∈ dn, gA (A.set i.toNat (S : Int)) j = gA A j := fun j hj2 => by
    have h1 := hdr j hj2
    have : i.toNat ≠ j.toNat := fun e => by
      have : j = i := by omega
      rw [this] at hj2; exact hn hj2
    unfold gA
    rw [List.getD_eq_getElem?_getD, List.getElem?_set, if_neg this, ← List.getD_eq_getElem?_getD]
  have g2 : gA (A.set i.toNat (S : Int)) i = S := by
    unfold gA
    rw [List.getD_eq_getElem?_getD, List.getElem?_set, if_pos rfl, if_pos (by omega), Option.getD_some]
  have hud : ∀ s : Int, udn ps (dn ++ [i]) (A.set i.toNat (S : Int)) s = udn ps dn A s + if (S : Int) = s then pc ps i else 0 := fun s => by
    unfold udn
    rw [List.map_append, tot_app, List.map_cons, List.map_nil, g2]
    simp only [tot]
    rw [List.map_congr_left (fun j hj2 => by rw [g1 j hj2])]
    omega
  have hget : ∀ (s : Nat) (hs : s < (up sz L S (pc ps i)).length), (up sz L S (pc ps i))[s] = if S = s then Proofs.YtgmonagekfjnmaaDoor.rm sz L S - pc ps i else Proofs.YtgmonagekfjnmaaDoor.rm sz L s := fun s hs => up_get _ hs
  refine ⟨by simp [hlen], fun j hj2 => ?_, fun s hs => ?_, fun s hs => ?_, ?_, fun s t hs ht hne => ?_⟩
  · rcases List.mem_append.1 hj2 with h1 | h1
    · rw [g1 j h1]
      have := h.rng j h1
      omega
    · rw [List.mem_singleton.1 h1, g2]
      omega
  · by_cases e : s = S
    · exact ⟨i, by simp, by rw [g2, e]⟩
    · obtain ⟨j, hj2, e2⟩ := h.all s (by omega)
      exact ⟨j, by simp [hj2], by rw [g1 j hj2]; exact e2⟩
  · rw [hget s hs, hud]
    by_cases e : S = s
    · rw [if_pos e, if_pos (by omega), hrm, ← e]
      omega
    · rw [if_neg e, if_neg (by omega), h.rm (by omega)]
      omega
  · refine up_rng h.lr (by have := hj.lo; omega) (by omega) hp.1 hroom
  · rw [hget s hs, hget t ht]
    have key : ∀ (u : Nat), u ≠ S → u < (up sz L S (pc ps i)).length → Proofs.YtgmonagekfjnmaaDoor.rm sz L S - pc ps i + Proofs.YtgmonagekfjnmaaDoor.rm sz L u < sz := fun u hu hul2 => by
      have hul3 : u < L.length := by omega
      rw [rm_get hul3]
      by_cases e : S < L.length
      · rw [rm_get e]
        have := h.two S u e hul3 (fun e => hu e.symm)
        omega
      · have e2 : S = L.length := by omega
        have := hbel u hul3 (by omega)
        rw [e2, rm_end]
        omega
    by_cases e1 : S = s
    · rw [if_pos e1]
      rw [if_neg (by omega)]
      exact key t (by omega) ht
    · rw [if_neg e1]
      by_cases e2 : S = t
      · rw [if_pos e2]
        have := key s (by omega) hs
        omega
      · rw [if_neg e2]
        have h1 : s < L.length := by omega
        have h2 : t < L.length := by omega
        rw [rm_get h1, rm_get h2]
        exact h.two s t h1 h2 hne
/-! The plan that is read off. -/
theorem FI.mem {sz : Int} {ps o A L : List Int} (h : FI sz ps o A L) (ho : Ord ps o) : (∀ x ∈ A, 0 ≤ x ∧ x < L.length) ∧ ∀ s : Nat, s < L.length → (s : Int) ∈ A := by
  have hl := h.len
  constructor
  · intro x hx
    obtain ⟨i, hi, e⟩ := List.getElem_of_mem hx
    have := h.rng i (ho.mem i (by omega))
    unfold gA at this
    rw [Int.toNat_natCast, List.getD_eq_getElem?_getD, List.getElem?_eq_getElem hi, Option.getD_some, e] at this
    exact this
  · intro s hs
    obtain ⟨i, hi, e⟩ := h.all s hs
    have hr := ho.rng i hi
    unfold gA at e
    rw [List.getD_eq_getElem?_getD, List.getElem?_eq_getElem (by omega), Option.getD_some] at e
    rw [← e]
    exact List.getElem_mem _
end Go.Proofs.YtgmonagekfjnmaaDoor
set_option linter.unusedVariables false
set_option linter.unusedSimpArgs false
set_option maxRecDepth 100000
namespace Go.Proofs.YtgmonagekfjnmaaDoor
open Go.Vi
/-D 53 -/
/-D 8 -/
end Go.Proofs.YtgmonagekfjnmaaDoor
set_option linter.unusedVariables false
set_option linter.unusedSimpArgs false
namespace Go.Proofs.YtgmonagekfjnmaaDoor
open Go.Vi
abbrev Stp := Int × Int × Int × Int × Int × Int × Int × Int × Int × Int × Int
def By (x : Int) : Prop := 0 ≤ x ∧ x ≤ 255
structure StpOk (s : Stp) : Prop where
  size : By s.1
  many : By s.2.1
  chain : By s.2.2.1
  cuts : ∀ x ∈ [s.2.2.2.1, s.2.2.2.2.1, s.2.2.2.2.2.1, s.2.2.2.2.2.2.1, s.2.2.2.2.2.2.2.1, s.2.2.2.2.2.2.2.2.1, s.2.2.2.2.2.2.2.2.2.1, s.2.2.2.2.2.2.2.2.2.2], By x
/-! The falling order, by lengths. -/
/-! Chains fill sheets. -/
end Go.Proofs.YtgmonagekfjnmaaDoor
