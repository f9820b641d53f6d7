/- Texts of this claim, joined: G95c37 to G6. -/
import Derived.KernelRfl
import Derived.Shelf.Strings.SlTrimAscii
import Derived.Test.YtkfkbebinhkdlaaDoorProg
import Derived.WalkKit
import Derived.Test.YtkfkbebinhkdlaaDoorQTopPiledCard5
set_option linter.unusedVariables false
set_option linter.unusedSimpArgs false
set_option maxRecDepth 100000
namespace Go.Proofs.YtkfkbebinhkdlaaDoor
open Go.Vi
/- slices.reverseRangeCmpFunc[[]int] -/
abbrev R95c37 := Unit
noncomputable def c95c37 : Code := bodyOf Tryd.f95
noncomputable def an95c37 : Ann := (.s .l (.s .l (.j [] (.j [0, 8, 9] (.s (.s .l (.j [0, 8, 9] .l .l)) (.j [0, 8, 9] .l .l)) .l) .l)))
def pk95c37 : List PK := [.c (.sl (.sl (.int .i64))), .c (.int .i64), .c (.int .i64), .f 37 []]
def rk95c37 : List RK := []
noncomputable def rt95c37 (st : St) : Option R95c37 := rtG rk95c37 st
noncomputable def E95c37 (n : Nat × Nat) : Env := { T := tab, phi := noPhi, eff := fun _ => false, fuel := n.1, hold := n.2 }
noncomputable def xb95c37_2 (n : Nat × Nat) : Nat → St → Option R95c37 := fun j s => bif Nat.beq j 0 then normC [] s rt95c37 else (fun _ _ => none) j s
noncomputable def F95c37_3 (n : Nat × Nat) : (St → Option R95c37) → St → Option R95c37 := fun K s => run (E95c37 n) (cA (cA (cB (cB c95c37)))) (Ann.fst (Ann.fst (Ann.snd (Ann.snd an95c37)))) (fun s => normC [0, 8, 9] s K) (xb95c37_2 n) rt95c37 s
noncomputable def L95c37_1 (n : Nat × Nat) (m : Nat) (data0 : List (List Int)) (i8 : Int) (j9 : Int) : Option R95c37 := loopN (F95c37_3 n) m { tm := [.c (.sl (.sl (.int .i64)) data0 false), uu, uu, uu, uu, uu, uu, uu, .c (.int .i64 i8), .c (.int .i64 j9), uu, uu, uu, uu, uu, uu, uu, uu, uu, uu, uu, uu, uu, uu, uu, uu, uu, uu, uu, uu, uu, uu, uu, uu], hp := emp }
theorem L95c37_1_eq (n : Nat × Nat) (m1 : Nat) (data0 : List (List Int)) (i8 : Int) (j9 : Int) : L95c37_1 n (m1 + 1) data0 i8 j9 =
 (bif decide (i8 < j9) then none
 else some ()) := by kernel_rfl
noncomputable def S95c37 (n : Nat × Nat) (data0 : List (List Int)) (a1 : Int) (b2 : Int) : Option R95c37 := run (E95c37 n) c95c37 an95c37 rt95c37 (fun _ _ => none) rt95c37 { tm := [.c (.sl (.sl (.int .i64)) data0 false), .c (.int .i64 a1), .c (.int .i64 b2), .fn 37 [], uu, uu, uu, uu, uu, uu, uu, uu, uu, uu, uu, uu, uu, uu, uu, uu, uu, uu, uu, uu, uu, uu, uu, uu, uu, uu, uu, uu, uu, uu], hp := emp }
theorem S95c37_eq (n : Nat × Nat) (data0 : List (List Int)) (a1 : Int) (b2 : Int) : S95c37 n data0 a1 b2 =
    L95c37_1 n n.1 data0 a1 (wr .i64 (b2 - 1)) := by kernel_rfl
theorem S95c37_run (n : Nat × Nat) (xs : pksDen pk95c37) : S95c37 n xs.1 xs.2.1 xs.2.2.1 = runG (E95c37 n) noScope c95c37 an95c37 (rtG rk95c37) (fun _ _ => none) (rtG rk95c37) (st0 pk95c37 xs Tryd.f95.ntmps) := by kernel_rfl
noncomputable def P95c37 (n : Nat × Nat) := phiOf pk95c37 rk95c37 (fun xs => S95c37 n xs.1 xs.2.1 xs.2.2.1)
theorem call95 : CallOK Tryd.prog 95 := callOK_of Tryd.func95 (by kernel_rfl) (by kernel_rfl)
theorem env95c37 (n : Nat × Nat) : EnvOK Tryd.prog (E95c37 n) := envOK0 noPhi_ok rfl rfl
theorem par95c37 (n : Nat × Nat) : EnvPar (E95c37 n) := envPar0 noPhi_par rfl
theorem FC95c37 (n : Nat × Nat) : FCs Tryd.prog 95 (P95c37 n) := phiOf_FCs fun xs r h vs hv => FC.of_runG tabOK eqsOK (env95c37 n) (par95c37 n) mixed (fun _ p _ => noScope_ok p.1 p.2) Tryd.func95 (c := c95c37) (an := an95c37) (pks := pk95c37) (rks := rk95c37) (by kernel_rfl) (by kernel_rfl) hv ((S95c37_run n xs).symm.trans h)
/- slices.partialInsertionSortCmpFunc[[]int] -/
abbrev R96c37 := Bool
noncomputable def c96c37 : Code := bodyOf Tryd.f96
noncomputable def an96c37 : Ann := (.s .l (.s .l (.s (.s .l (.j [] (.j [0, 1, 2, 3, 9, 10, 23, 24, 25, 26, 27, 28, 29, 30, 31, 32, 33, 34, 35] (.s (.s .l (.j [0, 1, 2, 3, 9, 10, 23, 24, 25, 26, 27, 28, 29, 30, 31, 32, 33, 34, 35] .l .l)) (.j [] (.j [0, 1, 2, 3, 9, 10, 23, 24, 25, 26, 27, 28, 29, 30, 31, 32, 33, 34, 35] (.s (.j [0, 1, 2, 3, 9, 10, 23, 24, 25, 26, 27, 28, 29, 30, 31, 32, 33, 34, 35] (.j [0, 1, 2, 3, 9, 10, 23, 24, 25, 26, 27, 28, 29, 30, 31, 32, 33, 34, 35] (.s (.s .l (.j [0, 1, 2, 3, 9, 10, 23, 24, 25, 26, 27, 28, 29, 30, 31, 32, 33, 34, 35] .l .l)) (.j [0, 1, 2, 3, 9, 10, 23, 24, 25, 26, 27, 28, 29, 30, 31, 32, 33, 34, 35] .l .l)) .l) .l) (.s (.s .l (.j [0, 1, 2, 3, 9, 10, 23, 24, 25, 26, 27, 28, 29, 30, 31, 32, 33, 34, 35] .l .l)) (.s (.s .l (.j [0, 1, 2, 3, 9, 10, 23, 24, 25, 26, 27, 28, 29, 30, 31, 32, 33, 34, 35] .l .l)) (.s .l (.s (.s .l (.j [0, 1, 2, 3, 9, 10, 23, 24, 25, 26, 27, 28, 29, 30, 31, 32, 33, 34, 35] (.s .l (.j [0, 1, 2, 3, 9, 10, 23, 24, 25, 26, 27, 28, 29, 30, 31, 32, 33, 34, 35] (.j [0, 1, 2, 3, 9, 10, 11, 23, 24, 25, 26, 27, 28, 29, 30, 31, 32, 33, 34, 35] (.s (.s .l (.j [0, 1, 2, 3, 9, 10, 11, 23, 24, 25, 26, 27, 28, 29, 30, 31, 32, 33, 34, 35] .l .l)) (.s (.j [0, 1, 2, 3, 9, 10, 11, 23, 24, 25, 26, 27, 28, 29, 30, 31, 32, 33, 34, 35] (.s (.s .l (.j [0, 1, 2, 3, 9, 10, 11, 23, 24, 25, 26, 27, 28, 29, 30, 31, 32, 33, 34, 35] .l .l)) .l) .l) .l)) .l) .l)) .l)) (.s .l (.j [0, 1, 2, 3, 9, 10, 23, 24, 25, 26, 27, 28, 29, 30, 31, 32, 33, 34, 35] (.s .l (.j [0, 1, 2, 3, 9, 10, 23, 24, 25, 26, 27, 28, 29, 30, 31, 32, 33, 34, 35] (.j [0, 1, 2, 3, 9, 10, 12, 23, 24, 25, 26, 27, 28, 29, 30, 31, 32, 33, 34, 35] (.s (.s .l (.j [0, 1, 2, 3, 9, 10, 12, 23, 24, 25, 26, 27, 28, 29, 30, 31, 32, 33, 34, 35] .l .l)) (.s (.j [0, 1, 2, 3, 9, 10, 12, 23, 24, 25, 26, 27, 28, 29, 30, 31, 32, 33, 34, 35] (.s (.s .l (.j [0, 1, 2, 3, 9, 10, 12, 23, 24, 25, 26, 27, 28, 29, 30, 31, 32, 33, 34, 35] .l .l)) .l) .l) .l)) .l) .l)) .l))))))) .l) .l)) .l) .l)) .l)))
def pk96c37 : List PK := [.c (.sl (.sl (.int .i64))), .c (.int .i64), .c (.int .i64), .f 37 []]
def rk96c37 : List RK := [.c .bool 8]
noncomputable def rt96c37 (st : St) : Option R96c37 := rtG rk96c37 st
noncomputable def E96c37 (n : Nat × Nat) : Env := { T := tab, phi := (consPhi 37 (fun _ => true) (P37 n) noPhi), eff := fun _ => false, fuel := n.1, hold := n.2, pcl := [23] }
noncomputable def kq96c37_1 (n : Nat × Nat) : St → Option R96c37 := run (E96c37 n) (cB (cB (cB c96c37))) (Ann.snd (Ann.snd (Ann.snd an96c37))) rt96c37 (fun _ _ => none) rt96c37
noncomputable def xb96c37_3 (n : Nat × Nat) : Nat → St → Option R96c37 := fun j s => bif Nat.beq j 0 then normC [] s (kq96c37_1 n) else (fun _ _ => none) j s
noncomputable def F96c37_4 (n : Nat × Nat) : (St → Option R96c37) → St → Option R96c37 := fun K s => run (E96c37 n) (cA (cA (cB (cA (cB (cB c96c37)))))) (Ann.fst (Ann.fst (Ann.snd (Ann.fst (Ann.snd (Ann.snd an96c37)))))) (fun s => normC [0, 1, 2, 3, 9, 10, 23, 24, 25, 26, 27, 28, 29, 30, 31, 32, 33, 34, 35] s K) (xb96c37_3 n) rt96c37 s
noncomputable def kq96c37_7 (n : Nat × Nat) (m1 : Nat) : St → Option R96c37 := run (E96c37 n) (cB (cB (cA (cA (cB (cA (cB (cB c96c37)))))))) (Ann.snd (Ann.snd (Ann.fst (Ann.fst (Ann.snd (Ann.fst (Ann.snd (Ann.snd an96c37)))))))) (fun s => normC [0, 1, 2, 3, 9, 10, 23, 24, 25, 26, 27, 28, 29, 30, 31, 32, 33, 34, 35] s (loopN (F96c37_4 n) m1)) (xb96c37_3 n) rt96c37
noncomputable def kc96c37_8 (n : Nat × Nat) (m1 : Nat) : St → Option R96c37 := fun s => normC [0, 1, 2, 3, 9, 10, 23, 24, 25, 26, 27, 28, 29, 30, 31, 32, 33, 34, 35] s (loopN (fun _ => (kq96c37_7 n m1)) n.2)
noncomputable def xb96c37_9 (n : Nat × Nat) (m1 : Nat) : Nat → St → Option R96c37 := fun j s => bif Nat.beq j 1 then normC [0, 1, 2, 3, 9, 10, 23, 24, 25, 26, 27, 28, 29, 30, 31, 32, 33, 34, 35] s (loopN (fun _ => (kq96c37_7 n m1)) n.2) else (xb96c37_3 n) j s
noncomputable def kq96c37_10 (n : Nat × Nat) (m1 : Nat) : St → Option R96c37 := run (E96c37 n) (cB (cA (cA (cB (cA (cA (cB (cA (cB (cB c96c37)))))))))) (Ann.snd (Ann.fst (Ann.fst (Ann.snd (Ann.fst (Ann.fst (Ann.snd (Ann.fst (Ann.snd (Ann.snd an96c37)))))))))) (kc96c37_8 n m1) (xb96c37_9 n m1) rt96c37
noncomputable def xb96c37_12 (n : Nat × Nat) (m1 : Nat) : Nat → St → Option R96c37 := fun j s => bif Nat.beq j 2 then normC [0, 1, 2, 3, 9, 10, 23, 24, 25, 26, 27, 28, 29, 30, 31, 32, 33, 34, 35] s (kq96c37_10 n m1) else (xb96c37_9 n m1) j s
noncomputable def F96c37_13 (n : Nat × Nat) (m1 : Nat) : (St → Option R96c37) → St → Option R96c37 := fun K s => run (E96c37 n) (cA (cA (cA (cA (cA (cB (cA (cA (cB (cA (cB (cB c96c37)))))))))))) (Ann.fst (Ann.fst (Ann.fst (Ann.fst (Ann.fst (Ann.snd (Ann.fst (Ann.fst (Ann.snd (Ann.fst (Ann.snd (Ann.snd an96c37)))))))))))) (fun s => normC [0, 1, 2, 3, 9, 10, 23, 24, 25, 26, 27, 28, 29, 30, 31, 32, 33, 34, 35] s K) (xb96c37_12 n m1) rt96c37 s
noncomputable def L96c37_1 (n : Nat × Nat) (m : Nat) (data0 : List (List Int)) (a1 : Int) (b2 : Int) (i9 : Int) (j10 : Int) : Option R96c37 := loopN (F96c37_4 n) m { tm := [.c (.sl (.sl (.int .i64)) data0 false), .c (.int .i64 a1), .c (.int .i64 b2), .fn 37 [], uu, uu, uu, uu, uu, .c (.int .i64 i9), .c (.int .i64 j10), uu, uu, uu, uu, uu, uu, uu, uu, uu, uu, uu, uu, uu, uu, uu, uu, uu, uu, uu, uu, uu, uu, uu, uu, uu, uu, uu, uu, uu, uu, uu, uu, uu, uu, uu, uu, uu, uu, uu, uu, uu, uu, uu, uu, uu, uu, uu, uu, uu, uu, uu, uu, uu, uu, uu, uu, uu, uu, uu, uu, uu, uu, uu, uu, uu, uu, uu, uu, uu, uu, uu, uu, uu, uu, uu, uu, uu, uu, uu, uu, uu, uu, uu, uu, uu, uu, uu, uu, uu, uu, uu, uu, uu, uu, uu, uu, uu, uu, uu, uu, uu, uu, uu, uu, uu, uu, uu, uu, uu, uu, uu, uu, uu, uu, uu, uu, uu, uu, uu, uu, uu, uu, uu, uu, uu, uu, uu, uu, uu, uu], hp := emp }
noncomputable def L96c37_2 (n : Nat × Nat) (m1 : Nat) (m : Nat) (data0 : List (List Int)) (a1 : Int) (b2 : Int) (i9 : Int) (j10 : Int) : Option R96c37 := loopN (F96c37_13 n m1) m { tm := [.c (.sl (.sl (.int .i64)) data0 false), .c (.int .i64 a1), .c (.int .i64 b2), .fn 37 [], uu, uu, uu, uu, uu, .c (.int .i64 i9), .c (.int .i64 j10), uu, uu, uu, uu, uu, uu, uu, uu, uu, uu, uu, uu, uu, uu, uu, uu, uu, uu, uu, uu, uu, uu, uu, uu, uu, uu, uu, uu, uu, uu, uu, uu, uu, uu, uu, uu, uu, uu, uu, uu, uu, uu, uu, uu, uu, uu, uu, uu, uu, uu, uu, uu, uu, uu, uu, uu, uu, uu, uu, uu, uu, uu, uu, uu, uu, uu, uu, uu, uu, uu, uu, uu, uu, uu, uu, uu, uu, uu, uu, uu, uu, uu, uu, uu, uu, uu, uu, uu, uu, uu, uu, uu, uu, uu, uu, uu, uu, uu, uu, uu, uu, uu, uu, uu, uu, uu, uu, uu, uu, uu, uu, uu, uu, uu, uu, uu, uu, uu, uu, uu, uu, uu, uu, uu, uu, uu, uu, uu, uu, uu], hp := emp }
theorem L96c37_1_eq (n : Nat × Nat) (m1 : Nat) (data0 : List (List Int)) (a1 : Int) (b2 : Int) (i9 : Int) (j10 : Int) : L96c37_1 n (m1 + 1) data0 a1 b2 i9 j10 =
 (bif decide (j10 < 5) then L96c37_2 n m1 n.1 data0 a1 b2 i9 j10
 else some false) := by kernel_rfl
theorem L96c37_2_eq (n : Nat × Nat) (m1 m2 : Nat) (data0 : List (List Int)) (a1 : Int) (b2 : Int) (i9 : Int) (j10 : Int) : L96c37_2 n m1 (m2 + 1) data0 a1 b2 i9 j10 =
 ((bif (decide (i9 < b2) == true) then (idx data0 i9).bind fun x1' =>
 (idx data0 (wr .i64 (i9 - 1))).bind fun x2' =>
 (S37 n x1' x2').bind fun r3' =>
 some (!(decide (r3' < 0)))
 else some false)).bind fun b4' =>
 (bif b4' then L96c37_2 n m1 m2 data0 a1 b2 (wr .i64 (i9 + 1)) j10
 else (bif (i9 == b2) then some true
 else (bif decide (wr .i64 (b2 - a1) < 50) then some false
 else none))) := by kernel_rfl
noncomputable def S96c37 (n : Nat × Nat) (data0 : List (List Int)) (a1 : Int) (b2 : Int) : Option R96c37 := run (E96c37 n) c96c37 an96c37 rt96c37 (fun _ _ => none) rt96c37 { tm := [.c (.sl (.sl (.int .i64)) data0 false), .c (.int .i64 a1), .c (.int .i64 b2), .fn 37 [], uu, uu, uu, uu, uu, uu, uu, uu, uu, uu, uu, uu, uu, uu, uu, uu, uu, uu, uu, uu, uu, uu, uu, uu, uu, uu, uu, uu, uu, uu, uu, uu, uu, uu, uu, uu, uu, uu, uu, uu, uu, uu, uu, uu, uu, uu, uu, uu, uu, uu, uu, uu, uu, uu, uu, uu, uu, uu, uu, uu, uu, uu, uu, uu, uu, uu, uu, uu, uu, uu, uu, uu, uu, uu, uu, uu, uu, uu, uu, uu, uu, uu, uu, uu, uu, uu, uu, uu, uu, uu, uu, uu, uu, uu, uu, uu, uu, uu, uu, uu, uu, uu, uu, uu, uu, uu, uu, uu, uu, uu, uu, uu, uu, uu, uu, uu, uu, uu, uu, uu, uu, uu, uu, uu, uu, uu, uu, uu, uu, uu, uu, uu, uu, uu, uu, uu, uu], hp := emp }
theorem S96c37_eq (n : Nat × Nat) (data0 : List (List Int)) (a1 : Int) (b2 : Int) : S96c37 n data0 a1 b2 =
    L96c37_1 n n.1 data0 a1 b2 (wr .i64 (a1 + 1)) 0 := by kernel_rfl
theorem S96c37_run (n : Nat × Nat) (xs : pksDen pk96c37) : S96c37 n xs.1 xs.2.1 xs.2.2.1 = runG (E96c37 n) noScope c96c37 an96c37 (rtG rk96c37) (fun _ _ => none) (rtG rk96c37) (st0 pk96c37 xs Tryd.f96.ntmps) := by kernel_rfl
noncomputable def P96c37 (n : Nat × Nat) := phiOf pk96c37 rk96c37 (fun xs => S96c37 n xs.1 xs.2.1 xs.2.2.1)
theorem call96 : CallOK Tryd.prog 96 := callOK_of Tryd.func96 (by kernel_rfl) (by kernel_rfl)
theorem env96c37 (n : Nat × Nat) : EnvOK Tryd.prog (E96c37 n) := envOK0 (consPhi_ok (FC37 n) call37 noPhi_ok) rfl rfl
theorem par96c37 (n : Nat × Nat) : EnvPar (E96c37 n) := envPar0 (consPhi_par phiOf_Par1 noPhi_par) rfl
theorem FC96c37 (n : Nat × Nat) : FCs Tryd.prog 96 (P96c37 n) := phiOf_FCs fun xs r h vs hv => FC.of_runG tabOK eqsOK (env96c37 n) (par96c37 n) mixed (fun _ p _ => noScope_ok p.1 p.2) Tryd.func96 (c := c96c37) (an := an96c37) (pks := pk96c37) (rks := rk96c37) (by kernel_rfl) (by kernel_rfl) hv ((S96c37_run n xs).symm.trans h)
/- slices.partitionEqualCmpFunc[[]int] -/
abbrev R97c37 := Int
noncomputable def c97c37 : Code := bodyOf Tryd.f97
noncomputable def an97c37 : Ann := (.s .l (.s .l (.s .l (.s (.j [11] (.j [0, 1, 4, 11, 12, 35, 36, 37, 38, 39, 40, 41, 42, 43, 44, 45, 46, 54, 55, 56, 57, 58, 59, 60, 61, 62, 63, 64] (.j [0, 1, 4, 11, 12, 35, 36, 37, 38, 39, 40, 41, 42, 43, 44, 45, 46, 54, 55, 56, 57, 58, 59, 60, 61, 62, 63, 64] (.s (.j [0, 1, 4, 11, 12, 35, 36, 37, 38, 39, 40, 41, 42, 43, 44, 45, 46, 54, 55, 56, 57, 58, 59, 60, 61, 62, 63, 64] (.j [0, 1, 4, 11, 12, 35, 36, 37, 38, 39, 40, 41, 42, 43, 44, 45, 46, 54, 55, 56, 57, 58, 59, 60, 61, 62, 63, 64] (.s (.s .l (.j [0, 1, 4, 11, 12, 35, 36, 37, 38, 39, 40, 41, 42, 43, 44, 45, 46, 54, 55, 56, 57, 58, 59, 60, 61, 62, 63, 64] .l .l)) (.j [0, 1, 4, 11, 12, 35, 36, 37, 38, 39, 40, 41, 42, 43, 44, 45, 46, 54, 55, 56, 57, 58, 59, 60, 61, 62, 63, 64] .l .l)) .l) .l) (.s (.j [0, 1, 4, 11, 12, 35, 36, 37, 38, 39, 40, 41, 42, 43, 44, 45, 46, 54, 55, 56, 57, 58, 59, 60, 61, 62, 63, 64] (.j [0, 1, 4, 11, 12, 35, 36, 37, 38, 39, 40, 41, 42, 43, 44, 45, 46, 54, 55, 56, 57, 58, 59, 60, 61, 62, 63, 64] (.s (.s .l (.j [0, 1, 4, 11, 12, 35, 36, 37, 38, 39, 40, 41, 42, 43, 44, 45, 46, 54, 55, 56, 57, 58, 59, 60, 61, 62, 63, 64] .l .l)) (.j [0, 1, 4, 11, 12, 35, 36, 37, 38, 39, 40, 41, 42, 43, 44, 45, 46, 54, 55, 56, 57, 58, 59, 60, 61, 62, 63, 64] .l .l)) .l) .l) (.s (.s .l (.j [0, 1, 4, 11, 12, 35, 36, 37, 38, 39, 40, 41, 42, 43, 44, 45, 46, 54, 55, 56, 57, 58, 59, 60, 61, 62, 63, 64] .l .l)) .l))) .l) .l) .l) .l))))
def pk97c37 : List PK := [.c (.sl (.sl (.int .i64))), .c (.int .i64), .c (.int .i64), .c (.int .i64), .f 37 []]
def rk97c37 : List RK := [.c (.int .i64) 10]
noncomputable def rt97c37 (st : St) : Option R97c37 := rtG rk97c37 st
noncomputable def E97c37 (n : Nat × Nat) : Env := { T := tab, phi := noPhi, eff := fun _ => false, fuel := n.1, hold := n.2 }
noncomputable def S97c37 (n : Nat × Nat) (data0 : List (List Int)) (a1 : Int) (b2 : Int) (pivot3 : Int) : Option R97c37 := run (E97c37 n) c97c37 an97c37 rt97c37 (fun _ _ => none) rt97c37 { tm := [.c (.sl (.sl (.int .i64)) data0 false), .c (.int .i64 a1), .c (.int .i64 b2), .c (.int .i64 pivot3), .fn 37 [], uu, uu, uu, uu, uu, uu, uu, uu, uu, uu, uu, uu, uu, uu, uu, uu, uu, uu, uu, uu, uu, uu, uu, uu, uu, uu, uu, uu, uu, uu, uu, uu, uu, uu, uu, uu, uu, uu, uu, uu, uu, uu, uu, uu, uu, uu, uu, uu, uu, uu, uu, uu, uu, uu, uu, uu, uu, uu, uu, uu, uu, uu, uu, uu, uu, uu, uu, uu, uu, uu, uu, uu, uu, uu, uu, uu, uu, uu, uu, uu, uu, uu, uu, uu, uu], hp := emp }
theorem S97c37_eq (n : Nat × Nat) (data0 : List (List Int)) (a1 : Int) (b2 : Int) (pivot3 : Int) : S97c37 n data0 a1 b2 pivot3 =
 none := by kernel_rfl
theorem S97c37_run (n : Nat × Nat) (xs : pksDen pk97c37) : S97c37 n xs.1 xs.2.1 xs.2.2.1 xs.2.2.2.1 = runG (E97c37 n) noScope c97c37 an97c37 (rtG rk97c37) (fun _ _ => none) (rtG rk97c37) (st0 pk97c37 xs Tryd.f97.ntmps) := by kernel_rfl
noncomputable def P97c37 (n : Nat × Nat) := phiOf pk97c37 rk97c37 (fun xs => S97c37 n xs.1 xs.2.1 xs.2.2.1 xs.2.2.2.1)
theorem call97 : CallOK Tryd.prog 97 := callOK_of Tryd.func97 (by kernel_rfl) (by kernel_rfl)
theorem env97c37 (n : Nat × Nat) : EnvOK Tryd.prog (E97c37 n) := envOK0 noPhi_ok rfl rfl
theorem par97c37 (n : Nat × Nat) : EnvPar (E97c37 n) := envPar0 noPhi_par rfl
theorem FC97c37 (n : Nat × Nat) : FCs Tryd.prog 97 (P97c37 n) := phiOf_FCs fun xs r h vs hv => FC.of_runG tabOK eqsOK (env97c37 n) (par97c37 n) mixed (fun _ p _ => noScope_ok p.1 p.2) Tryd.func97 (c := c97c37) (an := an97c37) (pks := pk97c37) (rks := rk97c37) (by kernel_rfl) (by kernel_rfl) hv ((S97c37_run n xs).symm.trans h)
/- slices.partitionCmpFunc[[]int] -/
abbrev R98c37 := Int × Bool
noncomputable def c98c37 : Code := bodyOf Tryd.f98
noncomputable def an98c37 : Ann := (.s .l (.s .l (.s .l (.s (.j [0, 1, 4, 12, 13, 54, 55, 56, 57, 58, 59, 60, 61, 62, 63, 64, 65, 109, 110, 111, 112, 113, 114, 115, 116, 117, 118, 119, 127, 128, 129, 130, 131, 132, 133, 134, 135, 136, 137, 138] (.j [0, 1, 4, 12, 13, 36, 37, 38, 39, 40, 41, 42, 43, 44, 45, 46, 54, 55, 56, 57, 58, 59, 60, 61, 62, 63, 64, 65, 109, 110, 111, 112, 113, 114, 115, 116, 117, 118, 119, 127, 128, 129, 130, 131, 132, 133, 134, 135, 136, 137, 138] (.s (.s .l (.j [0, 1, 4, 12, 13, 36, 37, 38, 39, 40, 41, 42, 43, 44, 45, 46, 54, 55, 56, 57, 58, 59, 60, 61, 62, 63, 64, 65, 109, 110, 111, 112, 113, 114, 115, 116, 117, 118, 119, 127, 128, 129, 130, 131, 132, 133, 134, 135, 136, 137, 138] .l .l)) (.j [0, 1, 4, 12, 13, 36, 37, 38, 39, 40, 41, 42, 43, 44, 45, 46, 54, 55, 56, 57, 58, 59, 60, 61, 62, 63, 64, 65, 109, 110, 111, 112, 113, 114, 115, 116, 117, 118, 119, 127, 128, 129, 130, 131, 132, 133, 134, 135, 136, 137, 138] .l .l)) .l) .l) (.s (.j [0, 1, 4, 12, 13, 109, 110, 111, 112, 113, 114, 115, 116, 117, 118, 119, 127, 128, 129, 130, 131, 132, 133, 134, 135, 136, 137, 138] (.j [0, 1, 4, 12, 13, 54, 55, 56, 57, 58, 59, 60, 61, 62, 63, 64, 65, 109, 110, 111, 112, 113, 114, 115, 116, 117, 118, 119, 127, 128, 129, 130, 131, 132, 133, 134, 135, 136, 137, 138] (.s (.s .l (.j [0, 1, 4, 12, 13, 54, 55, 56, 57, 58, 59, 60, 61, 62, 63, 64, 65, 109, 110, 111, 112, 113, 114, 115, 116, 117, 118, 119, 127, 128, 129, 130, 131, 132, 133, 134, 135, 136, 137, 138] .l .l)) (.j [0, 1, 4, 12, 13, 54, 55, 56, 57, 58, 59, 60, 61, 62, 63, 64, 65, 109, 110, 111, 112, 113, 114, 115, 116, 117, 118, 119, 127, 128, 129, 130, 131, 132, 133, 134, 135, 136, 137, 138] .l .l)) .l) .l) (.s (.s .l (.j [0, 1, 4, 12, 13, 109, 110, 111, 112, 113, 114, 115, 116, 117, 118, 119, 127, 128, 129, 130, 131, 132, 133, 134, 135, 136, 137, 138] .l .l)) (.s .l (.s .l (.s .l (.s (.j [0, 1, 13] (.j [0, 1, 4, 12, 13, 109, 110, 111, 112, 113, 114, 115, 116, 117, 118, 119, 127, 128, 129, 130, 131, 132, 133, 134, 135, 136, 137, 138] (.j [0, 1, 4, 12, 13, 109, 110, 111, 112, 113, 114, 115, 116, 117, 118, 119, 127, 128, 129, 130, 131, 132, 133, 134, 135, 136, 137, 138] (.s (.j [0, 1, 4, 12, 13, 109, 110, 111, 112, 113, 114, 115, 116, 117, 118, 119, 127, 128, 129, 130, 131, 132, 133, 134, 135, 136, 137, 138] (.j [0, 1, 4, 12, 13, 109, 110, 111, 112, 113, 114, 115, 116, 117, 118, 119, 127, 128, 129, 130, 131, 132, 133, 134, 135, 136, 137, 138] (.s (.s .l (.j [0, 1, 4, 12, 13, 109, 110, 111, 112, 113, 114, 115, 116, 117, 118, 119, 127, 128, 129, 130, 131, 132, 133, 134, 135, 136, 137, 138] .l .l)) (.j [0, 1, 4, 12, 13, 109, 110, 111, 112, 113, 114, 115, 116, 117, 118, 119, 127, 128, 129, 130, 131, 132, 133, 134, 135, 136, 137, 138] .l .l)) .l) .l) (.s (.j [0, 1, 4, 12, 13, 109, 110, 111, 112, 113, 114, 115, 116, 117, 118, 119, 127, 128, 129, 130, 131, 132, 133, 134, 135, 136, 137, 138] (.j [0, 1, 4, 12, 13, 109, 110, 111, 112, 113, 114, 115, 116, 117, 118, 119, 127, 128, 129, 130, 131, 132, 133, 134, 135, 136, 137, 138] (.s (.s .l (.j [0, 1, 4, 12, 13, 109, 110, 111, 112, 113, 114, 115, 116, 117, 118, 119, 127, 128, 129, 130, 131, 132, 133, 134, 135, 136, 137, 138] .l .l)) (.j [0, 1, 4, 12, 13, 109, 110, 111, 112, 113, 114, 115, 116, 117, 118, 119, 127, 128, 129, 130, 131, 132, 133, 134, 135, 136, 137, 138] .l .l)) .l) .l) (.s (.s .l (.j [0, 1, 4, 12, 13, 109, 110, 111, 112, 113, 114, 115, 116, 117, 118, 119, 127, 128, 129, 130, 131, 132, 133, 134, 135, 136, 137, 138] .l .l)) .l))) .l) .l) .l) .l))))))))))
def pk98c37 : List PK := [.c (.sl (.sl (.int .i64))), .c (.int .i64), .c (.int .i64), .c (.int .i64), .f 37 []]
def rk98c37 : List RK := [.c (.int .i64) 10, .c .bool 11]
noncomputable def rt98c37 (st : St) : Option R98c37 := rtG rk98c37 st
noncomputable def E98c37 (n : Nat × Nat) : Env := { T := tab, phi := noPhi, eff := fun _ => false, fuel := n.1, hold := n.2 }
noncomputable def S98c37 (n : Nat × Nat) (data0 : List (List Int)) (a1 : Int) (b2 : Int) (pivot3 : Int) : Option R98c37 := run (E98c37 n) c98c37 an98c37 rt98c37 (fun _ _ => none) rt98c37 { tm := [.c (.sl (.sl (.int .i64)) data0 false), .c (.int .i64 a1), .c (.int .i64 b2), .c (.int .i64 pivot3), .fn 37 [], uu, uu, uu, uu, uu, uu, uu, uu, uu, uu, uu, uu, uu, uu, uu, uu, uu, uu, uu, uu, uu, uu, uu, uu, uu, uu, uu, uu, uu, uu, uu, uu, uu, uu, uu, uu, uu, uu, uu, uu, uu, uu, uu, uu, uu, uu, uu, uu, uu, uu, uu, uu, uu, uu, uu, uu, uu, uu, uu, uu, uu, uu, uu, uu, uu, uu, uu, uu, uu, uu, uu, uu, uu, uu, uu, uu, uu, uu, uu, uu, uu, uu, uu, uu, uu, uu, uu, uu, uu, uu, uu, uu, uu, uu, uu, uu, uu, uu, uu, uu, uu, uu, uu, uu, uu, uu, uu, uu, uu, uu, uu, uu, uu, uu, uu, uu, uu, uu, uu, uu, uu, uu, uu, uu, uu, uu, uu, uu, uu, uu, uu, uu, uu, uu, uu, uu, uu, uu, uu, uu, uu, uu, uu, uu, uu, uu, uu, uu, uu, uu, uu, uu, uu, uu, uu, uu, uu, uu, uu, uu, uu, uu, uu, uu, uu, uu, uu, uu, uu, uu, uu, uu, uu], hp := emp }
theorem S98c37_eq (n : Nat × Nat) (data0 : List (List Int)) (a1 : Int) (b2 : Int) (pivot3 : Int) : S98c37 n data0 a1 b2 pivot3 =
 none := by kernel_rfl
theorem S98c37_run (n : Nat × Nat) (xs : pksDen pk98c37) : S98c37 n xs.1 xs.2.1 xs.2.2.1 xs.2.2.2.1 = runG (E98c37 n) noScope c98c37 an98c37 (rtG rk98c37) (fun _ _ => none) (rtG rk98c37) (st0 pk98c37 xs Tryd.f98.ntmps) := by kernel_rfl
noncomputable def P98c37 (n : Nat × Nat) := phiOf pk98c37 rk98c37 (fun xs => S98c37 n xs.1 xs.2.1 xs.2.2.1 xs.2.2.2.1)
theorem call98 : CallOK Tryd.prog 98 := callOK_of Tryd.func98 (by kernel_rfl) (by kernel_rfl)
theorem env98c37 (n : Nat × Nat) : EnvOK Tryd.prog (E98c37 n) := envOK0 noPhi_ok rfl rfl
theorem par98c37 (n : Nat × Nat) : EnvPar (E98c37 n) := envPar0 noPhi_par rfl
theorem FC98c37 (n : Nat × Nat) : FCs Tryd.prog 98 (P98c37 n) := phiOf_FCs fun xs r h vs hv => FC.of_runG tabOK eqsOK (env98c37 n) (par98c37 n) mixed (fun _ p _ => noScope_ok p.1 p.2) Tryd.func98 (c := c98c37) (an := an98c37) (pks := pk98c37) (rks := rk98c37) (by kernel_rfl) (by kernel_rfl) hv ((S98c37_run n xs).symm.trans h)
/- slices.pdqsortCmpFunc[[]int] -/
abbrev R67c37 := Unit
noncomputable def c67c37 : Code := bodyOf Tryd.f67
noncomputable def an67c37 : Ann := (.s .l (.s .l (.j [] (.j [0, 1, 2, 3, 4, 10, 11, 70, 73, 74, 84, 85, 86, 87, 88, 89, 90, 91, 92, 93, 94, 95, 96] (.j [0, 1, 2, 3, 4, 10, 11, 70, 73, 74, 84, 85, 86, 87, 88, 89, 90, 91, 92, 93, 94, 95, 96] (.s .l (.s (.s .l (.j [0, 1, 2, 3, 4, 10, 11, 12, 70, 73, 74, 84, 85, 86, 87, 88, 89, 90, 91, 92, 93, 94, 95, 96] .l .l)) (.s (.s .l (.j [0, 1, 2, 3, 4, 10, 11, 12, 70, 73, 74, 84, 85, 86, 87, 88, 89, 90, 91, 92, 93, 94, 95, 96] .l .l)) (.s (.s .l (.j [0, 1, 2, 3, 4, 10, 11, 12, 70, 73, 74, 84, 85, 86, 87, 88, 89, 90, 91, 92, 93, 94, 95, 96] .l .l)) (.s .l (.s (.s .l (.j [0, 1, 2, 3, 4, 10, 11, 12, 13, 14, 70, 73, 74, 84, 85, 86, 87, 88, 89, 90, 91, 92, 93, 94, 95, 96] .l .l)) (.s (.s .l (.j [0, 1, 2, 3, 4, 10, 11, 12, 13, 70, 73, 74, 84, 85, 86, 87, 88, 89, 90, 91, 92, 93, 94, 95, 96] (.s .l (.j [0, 1, 2, 3, 4, 10, 11, 12, 13, 70, 73, 74, 84, 85, 86, 87, 88, 89, 90, 91, 92, 93, 94, 95, 96] .l .l)) .l)) (.s (.s .l (.j [0, 1, 2, 3, 4, 12, 13, 70, 73, 74, 84, 85, 86, 87, 88, 89, 90, 91, 92, 93, 94, 95, 96] .l .l)) (.s .l (.s .l (.s .l (.s .l (.s .l (.j [0, 1, 2, 3, 4, 10, 11, 70, 73, 74, 84, 85, 86, 87, 88, 89, 90, 91, 92, 93, 94, 95, 96] .l .l)))))))))))))) .l) .l) .l)))
def pk67c37 : List PK := [.c (.sl (.sl (.int .i64))), .c (.int .i64), .c (.int .i64), .c (.int .i64), .f 37 []]
def rk67c37 : List RK := []
noncomputable def rt67c37 (st : St) : Option R67c37 := rtG rk67c37 st
noncomputable def E67c37 (n : Nat × Nat) (SS : List (List Int) → Int → Int → Int → Option R67c37) : Env := { T := tab, phi := (consPhi 67 (fun _ => true) (phiOf pk67c37 rk67c37 (fun xs => SS xs.1 xs.2.1 xs.2.2.1 xs.2.2.2.1)) (consPhi 37 (fun _ => true) (P37 n) (consPhi 91 (isFns [none, none, none, some 37]) (P91c37 n) (consPhi 92 (isFns [none, none, none, some 37]) (P92c37 n) (consPhi 93 (isFns [none, none, none, some 37]) (P93c37 n) (consPhi 94 (isFns [none, none, none, some 37]) (P94c37 n) (consPhi 95 (isFns [none, none, none, some 37]) (P95c37 n) (consPhi 96 (isFns [none, none, none, some 37]) (P96c37 n) (consPhi 97 (isFns [none, none, none, none, some 37]) (P97c37 n) (consPhi 98 (isFns [none, none, none, none, some 37]) (P98c37 n) noPhi)))))))))), eff := fun _ => false, fuel := n.1, hold := n.2, pcl := [84] }
noncomputable def xb67c37_2 (n : Nat × Nat) (SS : List (List Int) → Int → Int → Int → Option R67c37) : Nat → St → Option R67c37 := fun j s => bif Nat.beq j 0 then normC [] s rt67c37 else (fun _ _ => none) j s
noncomputable def F67c37_3 (n : Nat × Nat) (SS : List (List Int) → Int → Int → Int → Option R67c37) : (St → Option R67c37) → St → Option R67c37 := fun K s => run (E67c37 n SS) (cA (cA (cB (cB c67c37)))) (Ann.fst (Ann.fst (Ann.snd (Ann.snd an67c37)))) (fun s => normC [0, 1, 2, 3, 4, 10, 11, 70, 73, 74, 84, 85, 86, 87, 88, 89, 90, 91, 92, 93, 94, 95, 96] s K) (xb67c37_2 n SS) rt67c37 s
noncomputable def L67c37_1 (n : Nat × Nat) (SS : List (List Int) → Int → Int → Int → Option R67c37) (m : Nat) (data0 : List (List Int)) (a1 : Int) (b2 : Int) (limit3 : Int) (wasBalanced10 : Bool) (wasPartitioned11 : Bool) : Option R67c37 := loopN (F67c37_3 n SS) m { tm := [.c (.sl (.sl (.int .i64)) data0 false), .c (.int .i64 a1), .c (.int .i64 b2), .c (.int .i64 limit3), .fn 37 [], uu, uu, uu, uu, uu, .c (.bool wasBalanced10), .c (.bool wasPartitioned11), uu, uu, uu, uu, uu, uu, uu, uu, uu, uu, uu, uu, uu, uu, uu, uu, uu, uu, uu, uu, uu, uu, uu, uu, uu, uu, uu, uu, uu, uu, uu, uu, uu, uu, uu, uu, uu, uu, uu, uu, uu, uu, uu, uu, uu, uu, uu, uu, uu, uu, uu, uu, uu, uu, uu, uu, uu, uu, uu, uu, uu, uu, uu, uu, uu, uu, uu, uu, uu, uu, uu, uu, uu, uu, uu, uu, uu, uu, uu, uu, uu, uu, uu, uu, uu, uu, uu, uu, uu, uu, uu, uu, uu, uu, uu, uu, uu, uu, uu, uu, uu, uu, uu, uu, uu, uu, uu, uu, uu, uu, uu, uu, uu, uu, uu, uu, uu, uu, uu, uu, uu, uu, uu, uu, uu, uu, uu, uu, uu, uu, uu, uu, uu, uu, uu, uu], hp := emp }
theorem L67c37_1_eq (n : Nat × Nat) (SS : List (List Int) → Int → Int → Int → Option R67c37) (m1 : Nat) (data0 : List (List Int)) (a1 : Int) (b2 : Int) (limit3 : Int) (wasBalanced10 : Bool) (wasPartitioned11 : Bool) : L67c37_1 n SS (m1 + 1) data0 a1 b2 limit3 wasBalanced10 wasPartitioned11 =
 (bif decide (wr .i64 (b2 - a1) ≤ 12) then (S91c37 n data0 a1 b2).bind fun r1' =>
 some ()
 else (bif (limit3 == 0) then (S92c37 n data0 a1 b2).bind fun r2' =>
 some ()
 else (bif (!wasBalanced10) then (S93c37 n data0 a1 b2).bind fun r3' =>
 (S94c37 n data0 a1 b2).bind fun r4' =>
 (bif (r4'.2 == 2) then (S95c37 n data0 a1 b2).bind fun r5' =>
 ((bif (wasBalanced10 == true) then some wasPartitioned11
 else some false)).bind fun b6' =>
 ((bif (b6' == true) then some (1 == 1)
 else some false)).bind fun b7' =>
 (bif b7' then (S96c37 n data0 a1 b2).bind fun r8' =>
 (bif r8' then some ()
 else ((bif (decide (a1 > 0) == true) then (idx data0 (wr .i64 (a1 - 1))).bind fun x9' =>
 (idx data0 (wr .i64 ((wr .i64 (b2 - 1)) - (wr .i64 (r4'.1 - a1))))).bind fun x10' =>
 (S37 n x9' x10').bind fun r11' =>
 some (!(decide (r11' < 0)))
 else some false)).bind fun b12' =>
 (bif b12' then (S97c37 n data0 a1 b2 (wr .i64 ((wr .i64 (b2 - 1)) - (wr .i64 (r4'.1 - a1))))).bind fun r13' =>
                  L67c37_1 n SS m1 data0 r13' b2 (wr .i64 (limit3 - 1)) wasBalanced10 wasPartitioned11
 else (S98c37 n data0 a1 b2 (wr .i64 ((wr .i64 (b2 - 1)) - (wr .i64 (r4'.1 - a1))))).bind fun r14' =>
 (bif 8 == 0 then none
 else (bif decide (wr .i64 (r14'.1 - a1) < wr .i64 (b2 - r14'.1)) then (SS data0 a1 r14'.1 (wr .i64 (limit3 - 1))).bind fun r15' =>
                      L67c37_1 n SS m1 data0 (wr .i64 (r14'.1 + 1)) b2 (wr .i64 (limit3 - 1)) (decide (wr .i64 (r14'.1 - a1) ≥ wr .i64 (Int.tdiv (wr .i64 (b2 - a1)) 8))) r14'.2
 else (SS data0 (wr .i64 (r14'.1 + 1)) b2 (wr .i64 (limit3 - 1))).bind fun r16' =>
                      L67c37_1 n SS m1 data0 a1 r14'.1 (wr .i64 (limit3 - 1)) (decide (wr .i64 (b2 - r14'.1) ≥ wr .i64 (Int.tdiv (wr .i64 (b2 - a1)) 8))) r14'.2))))
 else ((bif (decide (a1 > 0) == true) then (idx data0 (wr .i64 (a1 - 1))).bind fun x17' =>
 (idx data0 (wr .i64 ((wr .i64 (b2 - 1)) - (wr .i64 (r4'.1 - a1))))).bind fun x18' =>
 (S37 n x17' x18').bind fun r19' =>
 some (!(decide (r19' < 0)))
 else some false)).bind fun b20' =>
 (bif b20' then (S97c37 n data0 a1 b2 (wr .i64 ((wr .i64 (b2 - 1)) - (wr .i64 (r4'.1 - a1))))).bind fun r21' =>
                L67c37_1 n SS m1 data0 r21' b2 (wr .i64 (limit3 - 1)) wasBalanced10 wasPartitioned11
 else (S98c37 n data0 a1 b2 (wr .i64 ((wr .i64 (b2 - 1)) - (wr .i64 (r4'.1 - a1))))).bind fun r22' =>
 (bif 8 == 0 then none
 else (bif decide (wr .i64 (r22'.1 - a1) < wr .i64 (b2 - r22'.1)) then (SS data0 a1 r22'.1 (wr .i64 (limit3 - 1))).bind fun r23' =>
                    L67c37_1 n SS m1 data0 (wr .i64 (r22'.1 + 1)) b2 (wr .i64 (limit3 - 1)) (decide (wr .i64 (r22'.1 - a1) ≥ wr .i64 (Int.tdiv (wr .i64 (b2 - a1)) 8))) r22'.2
 else (SS data0 (wr .i64 (r22'.1 + 1)) b2 (wr .i64 (limit3 - 1))).bind fun r24' =>
                    L67c37_1 n SS m1 data0 a1 r22'.1 (wr .i64 (limit3 - 1)) (decide (wr .i64 (b2 - r22'.1) ≥ wr .i64 (Int.tdiv (wr .i64 (b2 - a1)) 8))) r22'.2))))
 else ((bif (wasBalanced10 == true) then some wasPartitioned11
 else some false)).bind fun b25' =>
 ((bif (b25' == true) then some (r4'.2 == 1)
 else some false)).bind fun b26' =>
 (bif b26' then (S96c37 n data0 a1 b2).bind fun r27' =>
 (bif r27' then some ()
 else ((bif (decide (a1 > 0) == true) then (idx data0 (wr .i64 (a1 - 1))).bind fun x28' =>
 (idx data0 r4'.1).bind fun x29' =>
 (S37 n x28' x29').bind fun r30' =>
 some (!(decide (r30' < 0)))
 else some false)).bind fun b31' =>
 (bif b31' then (S97c37 n data0 a1 b2 r4'.1).bind fun r32' =>
                  L67c37_1 n SS m1 data0 r32' b2 (wr .i64 (limit3 - 1)) wasBalanced10 wasPartitioned11
 else (S98c37 n data0 a1 b2 r4'.1).bind fun r33' =>
 (bif 8 == 0 then none
 else (bif decide (wr .i64 (r33'.1 - a1) < wr .i64 (b2 - r33'.1)) then (SS data0 a1 r33'.1 (wr .i64 (limit3 - 1))).bind fun r34' =>
                      L67c37_1 n SS m1 data0 (wr .i64 (r33'.1 + 1)) b2 (wr .i64 (limit3 - 1)) (decide (wr .i64 (r33'.1 - a1) ≥ wr .i64 (Int.tdiv (wr .i64 (b2 - a1)) 8))) r33'.2
 else (SS data0 (wr .i64 (r33'.1 + 1)) b2 (wr .i64 (limit3 - 1))).bind fun r35' =>
                      L67c37_1 n SS m1 data0 a1 r33'.1 (wr .i64 (limit3 - 1)) (decide (wr .i64 (b2 - r33'.1) ≥ wr .i64 (Int.tdiv (wr .i64 (b2 - a1)) 8))) r33'.2))))
 else ((bif (decide (a1 > 0) == true) then (idx data0 (wr .i64 (a1 - 1))).bind fun x36' =>
 (idx data0 r4'.1).bind fun x37' =>
 (S37 n x36' x37').bind fun r38' =>
 some (!(decide (r38' < 0)))
 else some false)).bind fun b39' =>
 (bif b39' then (S97c37 n data0 a1 b2 r4'.1).bind fun r40' =>
                L67c37_1 n SS m1 data0 r40' b2 (wr .i64 (limit3 - 1)) wasBalanced10 wasPartitioned11
 else (S98c37 n data0 a1 b2 r4'.1).bind fun r41' =>
 (bif 8 == 0 then none
 else (bif decide (wr .i64 (r41'.1 - a1) < wr .i64 (b2 - r41'.1)) then (SS data0 a1 r41'.1 (wr .i64 (limit3 - 1))).bind fun r42' =>
                    L67c37_1 n SS m1 data0 (wr .i64 (r41'.1 + 1)) b2 (wr .i64 (limit3 - 1)) (decide (wr .i64 (r41'.1 - a1) ≥ wr .i64 (Int.tdiv (wr .i64 (b2 - a1)) 8))) r41'.2
 else (SS data0 (wr .i64 (r41'.1 + 1)) b2 (wr .i64 (limit3 - 1))).bind fun r43' =>
                    L67c37_1 n SS m1 data0 a1 r41'.1 (wr .i64 (limit3 - 1)) (decide (wr .i64 (b2 - r41'.1) ≥ wr .i64 (Int.tdiv (wr .i64 (b2 - a1)) 8))) r41'.2)))))
 else (S94c37 n data0 a1 b2).bind fun r44' =>
 (bif (r44'.2 == 2) then (S95c37 n data0 a1 b2).bind fun r45' =>
 ((bif (wasBalanced10 == true) then some wasPartitioned11
 else some false)).bind fun b46' =>
 ((bif (b46' == true) then some (1 == 1)
 else some false)).bind fun b47' =>
 (bif b47' then (S96c37 n data0 a1 b2).bind fun r48' =>
 (bif r48' then some ()
 else ((bif (decide (a1 > 0) == true) then (idx data0 (wr .i64 (a1 - 1))).bind fun x49' =>
 (idx data0 (wr .i64 ((wr .i64 (b2 - 1)) - (wr .i64 (r44'.1 - a1))))).bind fun x50' =>
 (S37 n x49' x50').bind fun r51' =>
 some (!(decide (r51' < 0)))
 else some false)).bind fun b52' =>
 (bif b52' then (S97c37 n data0 a1 b2 (wr .i64 ((wr .i64 (b2 - 1)) - (wr .i64 (r44'.1 - a1))))).bind fun r53' =>
                  L67c37_1 n SS m1 data0 r53' b2 limit3 wasBalanced10 wasPartitioned11
 else (S98c37 n data0 a1 b2 (wr .i64 ((wr .i64 (b2 - 1)) - (wr .i64 (r44'.1 - a1))))).bind fun r54' =>
 (bif 8 == 0 then none
 else (bif decide (wr .i64 (r54'.1 - a1) < wr .i64 (b2 - r54'.1)) then (SS data0 a1 r54'.1 limit3).bind fun r55' =>
                      L67c37_1 n SS m1 data0 (wr .i64 (r54'.1 + 1)) b2 limit3 (decide (wr .i64 (r54'.1 - a1) ≥ wr .i64 (Int.tdiv (wr .i64 (b2 - a1)) 8))) r54'.2
 else (SS data0 (wr .i64 (r54'.1 + 1)) b2 limit3).bind fun r56' =>
                      L67c37_1 n SS m1 data0 a1 r54'.1 limit3 (decide (wr .i64 (b2 - r54'.1) ≥ wr .i64 (Int.tdiv (wr .i64 (b2 - a1)) 8))) r54'.2))))
 else ((bif (decide (a1 > 0) == true) then (idx data0 (wr .i64 (a1 - 1))).bind fun x57' =>
 (idx data0 (wr .i64 ((wr .i64 (b2 - 1)) - (wr .i64 (r44'.1 - a1))))).bind fun x58' =>
 (S37 n x57' x58').bind fun r59' =>
 some (!(decide (r59' < 0)))
 else some false)).bind fun b60' =>
 (bif b60' then (S97c37 n data0 a1 b2 (wr .i64 ((wr .i64 (b2 - 1)) - (wr .i64 (r44'.1 - a1))))).bind fun r61' =>
                L67c37_1 n SS m1 data0 r61' b2 limit3 wasBalanced10 wasPartitioned11
 else (S98c37 n data0 a1 b2 (wr .i64 ((wr .i64 (b2 - 1)) - (wr .i64 (r44'.1 - a1))))).bind fun r62' =>
 (bif 8 == 0 then none
 else (bif decide (wr .i64 (r62'.1 - a1) < wr .i64 (b2 - r62'.1)) then (SS data0 a1 r62'.1 limit3).bind fun r63' =>
                    L67c37_1 n SS m1 data0 (wr .i64 (r62'.1 + 1)) b2 limit3 (decide (wr .i64 (r62'.1 - a1) ≥ wr .i64 (Int.tdiv (wr .i64 (b2 - a1)) 8))) r62'.2
 else (SS data0 (wr .i64 (r62'.1 + 1)) b2 limit3).bind fun r64' =>
                    L67c37_1 n SS m1 data0 a1 r62'.1 limit3 (decide (wr .i64 (b2 - r62'.1) ≥ wr .i64 (Int.tdiv (wr .i64 (b2 - a1)) 8))) r62'.2))))
 else ((bif (wasBalanced10 == true) then some wasPartitioned11
 else some false)).bind fun b65' =>
 ((bif (b65' == true) then some (r44'.2 == 1)
 else some false)).bind fun b66' =>
 (bif b66' then (S96c37 n data0 a1 b2).bind fun r67' =>
 (bif r67' then some ()
 else ((bif (decide (a1 > 0) == true) then (idx data0 (wr .i64 (a1 - 1))).bind fun x68' =>
 (idx data0 r44'.1).bind fun x69' =>
 (S37 n x68' x69').bind fun r70' =>
 some (!(decide (r70' < 0)))
 else some false)).bind fun b71' =>
 (bif b71' then (S97c37 n data0 a1 b2 r44'.1).bind fun r72' =>
                  L67c37_1 n SS m1 data0 r72' b2 limit3 wasBalanced10 wasPartitioned11
 else (S98c37 n data0 a1 b2 r44'.1).bind fun r73' =>
 (bif 8 == 0 then none
 else (bif decide (wr .i64 (r73'.1 - a1) < wr .i64 (b2 - r73'.1)) then (SS data0 a1 r73'.1 limit3).bind fun r74' =>
                      L67c37_1 n SS m1 data0 (wr .i64 (r73'.1 + 1)) b2 limit3 (decide (wr .i64 (r73'.1 - a1) ≥ wr .i64 (Int.tdiv (wr .i64 (b2 - a1)) 8))) r73'.2
 else (SS data0 (wr .i64 (r73'.1 + 1)) b2 limit3).bind fun r75' =>
                      L67c37_1 n SS m1 data0 a1 r73'.1 limit3 (decide (wr .i64 (b2 - r73'.1) ≥ wr .i64 (Int.tdiv (wr .i64 (b2 - a1)) 8))) r73'.2))))
 else ((bif (decide (a1 > 0) == true) then (idx data0 (wr .i64 (a1 - 1))).bind fun x76' =>
 (idx data0 r44'.1).bind fun x77' =>
 (S37 n x76' x77').bind fun r78' =>
 some (!(decide (r78' < 0)))
 else some false)).bind fun b79' =>
 (bif b79' then (S97c37 n data0 a1 b2 r44'.1).bind fun r80' =>
                L67c37_1 n SS m1 data0 r80' b2 limit3 wasBalanced10 wasPartitioned11
 else (S98c37 n data0 a1 b2 r44'.1).bind fun r81' =>
 (bif 8 == 0 then none
 else (bif decide (wr .i64 (r81'.1 - a1) < wr .i64 (b2 - r81'.1)) then (SS data0 a1 r81'.1 limit3).bind fun r82' =>
                    L67c37_1 n SS m1 data0 (wr .i64 (r81'.1 + 1)) b2 limit3 (decide (wr .i64 (r81'.1 - a1) ≥ wr .i64 (Int.tdiv (wr .i64 (b2 - a1)) 8))) r81'.2
 else (SS data0 (wr .i64 (r81'.1 + 1)) b2 limit3).bind fun r83' =>
                    L67c37_1 n SS m1 data0 a1 r81'.1 limit3 (decide (wr .i64 (b2 - r81'.1) ≥ wr .i64 (Int.tdiv (wr .i64 (b2 - a1)) 8))) r81'.2)))))))) := by kernel_rfl
noncomputable def B67c37 (n : Nat × Nat) (SS : List (List Int) → Int → Int → Int → Option R67c37) (data0 : List (List Int)) (a1 : Int) (b2 : Int) (limit3 : Int) : Option R67c37 := run (E67c37 n SS) c67c37 an67c37 rt67c37 (fun _ _ => none) rt67c37 { tm := [.c (.sl (.sl (.int .i64)) data0 false), .c (.int .i64 a1), .c (.int .i64 b2), .c (.int .i64 limit3), .fn 37 [], uu, uu, uu, uu, uu, uu, uu, uu, uu, uu, uu, uu, uu, uu, uu, uu, uu, uu, uu, uu, uu, uu, uu, uu, uu, uu, uu, uu, uu, uu, uu, uu, uu, uu, uu, uu, uu, uu, uu, uu, uu, uu, uu, uu, uu, uu, uu, uu, uu, uu, uu, uu, uu, uu, uu, uu, uu, uu, uu, uu, uu, uu, uu, uu, uu, uu, uu, uu, uu, uu, uu, uu, uu, uu, uu, uu, uu, uu, uu, uu, uu, uu, uu, uu, uu, uu, uu, uu, uu, uu, uu, uu, uu, uu, uu, uu, uu, uu, uu, uu, uu, uu, uu, uu, uu, uu, uu, uu, uu, uu, uu, uu, uu, uu, uu, uu, uu, uu, uu, uu, uu, uu, uu, uu, uu, uu, uu, uu, uu, uu, uu, uu, uu, uu, uu, uu, uu, uu, uu, uu, uu, uu, uu], hp := emp }
theorem B67c37_eq (n : Nat × Nat) (SS : List (List Int) → Int → Int → Int → Option R67c37) (data0 : List (List Int)) (a1 : Int) (b2 : Int) (limit3 : Int) : B67c37 n SS data0 a1 b2 limit3 =
    L67c37_1 n SS n.1 data0 a1 b2 limit3 true true := by kernel_rfl
noncomputable def T67c37 (n : Nat × Nat) : Nat → List (List Int) → Int → Int → Int → Option R67c37
  | 0 => fun _ _ _ _ => none
  | d + 1 => B67c37 n (T67c37 n d)
theorem T67c37_eq (n : Nat × Nat) (d : Nat) (data0 : List (List Int)) (a1 : Int) (b2 : Int) (limit3 : Int) : T67c37 n (d + 1) data0 a1 b2 limit3 = B67c37 n (T67c37 n d) data0 a1 b2 limit3 := rfl
noncomputable def S67c37 (n : Nat × Nat) (data0 : List (List Int)) (a1 : Int) (b2 : Int) (limit3 : Int) : Option R67c37 := T67c37 n n.1 data0 a1 b2 limit3
theorem B67c37_run (n : Nat × Nat) (SS : List (List Int) → Int → Int → Int → Option R67c37) (xs : pksDen pk67c37) : B67c37 n SS xs.1 xs.2.1 xs.2.2.1 xs.2.2.2.1 = runG (E67c37 n SS) noScope c67c37 an67c37 (rtG rk67c37) (fun _ _ => none) (rtG rk67c37) (st0 pk67c37 xs Tryd.f67.ntmps) := by kernel_rfl
noncomputable def P67c37 (n : Nat × Nat) := phiOf pk67c37 rk67c37 (fun xs => S67c37 n xs.1 xs.2.1 xs.2.2.1 xs.2.2.2.1)
theorem call67 : CallOK Tryd.prog 67 := callOK_of Tryd.func67 (by kernel_rfl) (by kernel_rfl)
theorem env67c37 (n : Nat × Nat) (SS : List (List Int) → Int → Int → Int → Option R67c37) (hSS : FCs Tryd.prog 67 (phiOf pk67c37 rk67c37 (fun xs => SS xs.1 xs.2.1 xs.2.2.1 xs.2.2.2.1))) : EnvOK Tryd.prog (E67c37 n SS) := envOK0 (consPhi_ok hSS call67 (consPhi_ok (FC37 n) call37 (consPhi_ok (FC91c37 n) call91 (consPhi_ok (FC92c37 n) call92 (consPhi_ok (FC93c37 n) call93 (consPhi_ok (FC94c37 n) call94 (consPhi_ok (FC95c37 n) call95 (consPhi_ok (FC96c37 n) call96 (consPhi_ok (FC97c37 n) call97 (consPhi_ok (FC98c37 n) call98 noPhi_ok)))))))))) rfl rfl
theorem par67c37 (n : Nat × Nat) (SS : List (List Int) → Int → Int → Int → Option R67c37) : EnvPar (E67c37 n SS) := envPar0 (consPhi_par phiOf_Par1 (consPhi_par phiOf_Par1 (consPhi_par phiOf_Par1 (consPhi_par phiOf_Par1 (consPhi_par phiOf_Par1 (consPhi_par phiOf_Par1 (consPhi_par phiOf_Par1 (consPhi_par phiOf_Par1 (consPhi_par phiOf_Par1 (consPhi_par phiOf_Par1 noPhi_par)))))))))) rfl
theorem FCT67c37 (n : Nat × Nat) : ∀ d : Nat, FCs Tryd.prog 67 (phiOf pk67c37 rk67c37 (fun xs => T67c37 n d xs.1 xs.2.1 xs.2.2.1 xs.2.2.2.1))
  | 0 => phiOf_FCs fun xs r h => by cases h
  | d + 1 => phiOf_FCs fun xs r h vs hv => FC.of_runG tabOK eqsOK (env67c37 n (T67c37 n d) (FCT67c37 n d)) (par67c37 n (T67c37 n d)) mixed (fun _ p _ => noScope_ok p.1 p.2) Tryd.func67 (c := c67c37) (an := an67c37) (pks := pk67c37) (rks := rk67c37) (by kernel_rfl) (by kernel_rfl) hv ((B67c37_run n (T67c37 n d) xs).symm.trans h)
theorem FC67c37 (n : Nat × Nat) : FCs Tryd.prog 67 (P67c37 n) := FCT67c37 n n.1
/- slices.SortFunc[[][]int,[]int] -/
abbrev R36c37 := Unit
noncomputable def c36c37 : Code := bodyOf Tryd.f36
noncomputable def an36c37 : Ann := .l
def pk36c37 : List PK := [.c (.sl (.sl (.int .i64))), .f 37 []]
def rk36c37 : List RK := []
noncomputable def rt36c37 (st : St) : Option R36c37 := rtG rk36c37 st
noncomputable def E36c37 (n : Nat × Nat) : Env := { T := tab, phi := (consPhi 67 (isFns [none, none, none, none, some 37]) (P67c37 n) (consPhi 68 (fun _ => true) (P68 n) noPhi)), eff := fun _ => false, fuel := n.1, hold := n.2 }
noncomputable def S36c37 (n : Nat × Nat) (x0 : List (List Int)) : Option R36c37 := run (E36c37 n) c36c37 an36c37 rt36c37 (fun _ _ => none) rt36c37 { tm := [.c (.sl (.sl (.int .i64)) x0 false), .fn 37 [], uu, uu, uu, uu, uu, uu, uu, uu, uu, uu, uu, uu], hp := emp }
theorem S36c37_eq (n : Nat × Nat) (x0 : List (List Int)) : S36c37 n x0 =
 (S68 n (wr .u64 (x0.length : Int))).bind fun r1' =>
 (S67c37 n x0 0 (x0.length : Int) r1').bind fun r2' =>
 some () := by kernel_rfl
theorem S36c37_run (n : Nat × Nat) (xs : pksDen pk36c37) : S36c37 n xs.1 = runG (E36c37 n) noScope c36c37 an36c37 (rtG rk36c37) (fun _ _ => none) (rtG rk36c37) (st0 pk36c37 xs Tryd.f36.ntmps) := by kernel_rfl
noncomputable def P36c37 (n : Nat × Nat) := phiOf pk36c37 rk36c37 (fun xs => S36c37 n xs.1)
theorem call36 : CallOK Tryd.prog 36 := callOK_of Tryd.func36 (by kernel_rfl) (by kernel_rfl)
theorem env36c37 (n : Nat × Nat) : EnvOK Tryd.prog (E36c37 n) := envOK0 (consPhi_ok (FC67c37 n) call67 (consPhi_ok (FC68 n) call68 noPhi_ok)) rfl rfl
theorem par36c37 (n : Nat × Nat) : EnvPar (E36c37 n) := envPar0 (consPhi_par phiOf_Par1 (consPhi_par phiOf_Par1 noPhi_par)) rfl
theorem FC36c37 (n : Nat × Nat) : FCs Tryd.prog 36 (P36c37 n) := phiOf_FCs fun xs r h vs hv => FC.of_runG tabOK eqsOK (env36c37 n) (par36c37 n) mixed (fun _ p _ => noScope_ok p.1 p.2) Tryd.func36 (c := c36c37) (an := an36c37) (pks := pk36c37) (rks := rk36c37) (by kernel_rfl) (by kernel_rfl) hv ((S36c37_run n xs).symm.trans h)
abbrev R11 := List (List Int) × Int
noncomputable def c11 : Code := bodyOf Tryd.f11
noncomputable def an11 : Ann := (.s .l (.s .l (.s (.s .l (.j [4] .l .l)) (.s .l (.s (.s .l (.j [6] (.j [4, 6, 18, 19] (.s .l (.s (.j [4, 6, 18, 19] .l .l) (.j [] (.j [4, 6, 18, 19] (.s .l (.s .l (.j [4, 6, 18, 19] .l .l))) .l) .l))) .l) .l)) .l)))))
def pk11 : List PK := [.c (.pair (.int .i64) (.sl (.pair (.int .i64) (.int .i64))))]
def rk11 : List RK := [.own (.sl (.int .i64)) 2, .c (.int .i64) 3]
noncomputable def rt11 (st : St) : Option R11 := rtG rk11 st
noncomputable def E11 (n : Nat × Nat) : Env := { T := tab, phi := (consPhi 33 (fun _ => true) (P33 n) (consPhi 34 (fun _ => true) (P34 n) (consPhi 35 (fun _ => true) (P35 n) (consPhi 36 (isFns [none, some 37]) (P36c37 n) noPhi)))), eff := fun _ => false, fuel := n.1, hold := n.2 }
noncomputable def kq11_3 (n : Nat × Nat) : St → Option R11 := run (E11 n) (cB (cB (cB (cB (cB c11))))) (Ann.snd (Ann.snd (Ann.snd (Ann.snd (Ann.snd an11))))) rt11 (fun _ _ => none) rt11
noncomputable def xb11_5 (n : Nat × Nat) : Nat → St → Option R11 := fun j s => bif Nat.beq j 0 then normC [6] s (kq11_3 n) else (fun _ _ => none) j s
noncomputable def F11_6 (n : Nat × Nat) : (St → Option R11) → St → Option R11 := fun K s => run (E11 n) (cA (cA (cB (cA (cB (cB (cB (cB c11)))))))) (Ann.fst (Ann.fst (Ann.snd (Ann.fst (Ann.snd (Ann.snd (Ann.snd (Ann.snd an11)))))))) (fun s => normC [4, 6, 18, 19] s K) (xb11_5 n) rt11 s
noncomputable def kq11_9 (n : Nat × Nat) (m1 : Nat) : St → Option R11 := run (E11 n) (cB (cB (cB (cA (cA (cB (cA (cB (cB (cB (cB c11))))))))))) (Ann.snd (Ann.snd (Ann.snd (Ann.fst (Ann.fst (Ann.snd (Ann.fst (Ann.snd (Ann.snd (Ann.snd (Ann.snd an11))))))))))) (fun s => normC [4, 6, 18, 19] s (loopN (F11_6 n) m1)) (xb11_5 n) rt11
noncomputable def L11_1 (n : Nat × Nat) (m : Nat) (v18 : Int) (v19 : Int) (w4_0 : Int) (w4_1 : Int) (w4_2 : Int) (w4_3 : Int) (w4_4 : Int) (w4_5 : Int) (w4_6 : Int) (w4_7 : Int) (out6 : List (List Int)) : Option R11 := loopN (F11_6 n) m { tm := [uu, uu, uu, uu, .ptr 4 0, uu, .own 6 none false, uu, uu, uu, uu, uu, uu, uu, uu, uu, uu, uu, .c (.int .u64 v18), .c (.int .u64 v19), uu, uu, uu, uu, uu, uu, uu, uu, uu, uu, uu, uu, uu, uu, uu], hp := (upd (upd emp 6 (.arr (.sl (.int .i64)) out6 false)) 4 (.box [.int .i64 w4_0, .int .u64 w4_1, .int .u64 w4_2, .int .u64 w4_3, .int .u64 w4_4, .int .u64 w4_5, .int .u64 w4_6, .int .u64 w4_7])) }
noncomputable def L11_2 (n : Nat × Nat) (m1 : Nat) (v18 : Int) (v19 : Int) (w4_0 : Int) (w4_1 : Int) (w4_2 : Int) (w4_3 : Int) (w4_4 : Int) (w4_5 : Int) (w4_6 : Int) (w4_7 : Int) (out6 : List (List Int)) : Option R11 := loopN (fun _ => (kq11_9 n m1)) n.2 { tm := [uu, uu, uu, uu, .ptr 4 0, uu, .own 6 none false, uu, uu, uu, uu, uu, uu, uu, uu, uu, uu, uu, .c (.int .u64 v18), .c (.int .u64 v19), uu, uu, uu, uu, uu, uu, uu, uu, uu, uu, uu, uu, uu, uu, uu], hp := (upd (upd emp 6 (.arr (.sl (.int .i64)) out6 false)) 4 (.box [.int .i64 w4_0, .int .u64 w4_1, .int .u64 w4_2, .int .u64 w4_3, .int .u64 w4_4, .int .u64 w4_5, .int .u64 w4_6, .int .u64 w4_7])) }
theorem L11_1_eq (n : Nat × Nat) (m1 : Nat) (v18 : Int) (v19 : Int) (w4_0 : Int) (w4_1 : Int) (w4_2 : Int) (w4_3 : Int) (w4_4 : Int) (w4_5 : Int) (w4_6 : Int) (w4_7 : Int) (out6 : List (List Int)) : L11_1 n (m1 + 1) v18 v19 w4_0 w4_1 w4_2 w4_3 w4_4 w4_5 w4_6 w4_7 out6 =
 (bif decide (v19 < v18) then (S34 n (w4_0, w4_1, w4_2, w4_3, w4_4, w4_5, w4_6, w4_7) v19).bind fun r2' =>
 (bif (r2' == 0) then (S35 n v19).bind fun r3' =>
 (bif decide (out6.length + [r3'].length ≤ lim) then L11_2 n m1 v18 v19 w4_0 w4_1 w4_2 w4_3 w4_4 w4_5 w4_6 w4_7 (out6 ++ [r3'])
 else none)
 else L11_2 n m1 v18 v19 w4_0 w4_1 w4_2 w4_3 w4_4 w4_5 w4_6 w4_7 out6)
 else (S36c37 n out6).bind fun r4' =>
 some (out6, 0)) := by kernel_rfl
theorem L11_2_raw (n : Nat × Nat) (m1 : Nat) (v18 : Int) (v19 : Int) (w4_0 : Int) (w4_1 : Int) (w4_2 : Int) (w4_3 : Int) (w4_4 : Int) (w4_5 : Int) (w4_6 : Int) (w4_7 : Int) (out6 : List (List Int)) : (kq11_9 n m1) { tm := [uu, uu, uu, uu, .ptr 4 0, uu, .own 6 none false, uu, uu, uu, uu, uu, uu, uu, uu, uu, uu, uu, .c (.int .u64 v18), .c (.int .u64 v19), uu, uu, uu, uu, uu, uu, uu, uu, uu, uu, uu, uu, uu, uu, uu], hp := (upd (upd emp 6 (.arr (.sl (.int .i64)) out6 false)) 4 (.box [.int .i64 w4_0, .int .u64 w4_1, .int .u64 w4_2, .int .u64 w4_3, .int .u64 w4_4, .int .u64 w4_5, .int .u64 w4_6, .int .u64 w4_7])) } =
    L11_1 n m1 v18 (wr .u64 (v19 + 1)) w4_0 w4_1 w4_2 w4_3 w4_4 w4_5 w4_6 w4_7 out6 := by kernel_rfl
noncomputable def S11 (n : Nat × Nat) (b0 : Int × List (Int × Int)) : Option R11 := run (E11 n) c11 an11 rt11 (fun _ _ => none) rt11 { tm := [.agg [.int .i64 b0.1, .sl (.pair (.int .i64) (.int .i64)) b0.2 false], uu, uu, uu, uu, uu, uu, uu, uu, uu, uu, uu, uu, uu, uu, uu, uu, uu, uu, uu, uu, uu, uu, uu, uu, uu, uu, uu, uu, uu, uu, uu, uu, uu, uu], hp := emp }
theorem S11_eq (n : Nat × Nat) (b0 : Int × List (Int × Int)) : S11 n b0 =
 (S33 n b0).bind fun r1' =>
 (bif (r1'.2 != 0) then some ([], r1'.2)
 else (bif decide (r1'.1.1 < 0) then none
 else L11_1 n n.1 (wr .u64 (1 * 2 ^ (min (Int.toNat r1'.1.1) (IntKind.bits .u64)))) 0 r1'.1.1 r1'.1.2.1 r1'.1.2.2.1 r1'.1.2.2.2.1 r1'.1.2.2.2.2.1 r1'.1.2.2.2.2.2.1 r1'.1.2.2.2.2.2.2.1 r1'.1.2.2.2.2.2.2.2 [])) := by kernel_rfl
theorem S11_run (n : Nat × Nat) (xs : pksDen pk11) : S11 n xs.1 = runG (E11 n) noScope c11 an11 (rtG rk11) (fun _ _ => none) (rtG rk11) (st0 pk11 xs Tryd.f11.ntmps) := by kernel_rfl
noncomputable def P11 (n : Nat × Nat) := phiOf pk11 rk11 (fun xs => S11 n xs.1)
theorem call11 : CallOK Tryd.prog 11 := callOK_of Tryd.func11 (by kernel_rfl) (by kernel_rfl)
theorem env11 (n : Nat × Nat) : EnvOK Tryd.prog (E11 n) := envOK0 (consPhi_ok (FC33 n) call33 (consPhi_ok (FC34 n) call34 (consPhi_ok (FC35 n) call35 (consPhi_ok (FC36c37 n) call36 noPhi_ok)))) rfl rfl
theorem par11 (n : Nat × Nat) : EnvPar (E11 n) := envPar0 (consPhi_par phiOf_Par1 (consPhi_par phiOf_Par1 (consPhi_par phiOf_Par1 (consPhi_par phiOf_Par1 noPhi_par)))) rfl
theorem FC11 (n : Nat × Nat) : FCs Tryd.prog 11 (P11 n) := phiOf_FCs fun xs r h vs hv => FC.of_runG tabOK eqsOK (env11 n) (par11 n) mixed (fun _ p _ => noScope_ok p.1 p.2) Tryd.func11 (c := c11) (an := an11) (pks := pk11) (rks := rk11) (by kernel_rfl) (by kernel_rfl) hv ((S11_run n xs).symm.trans h)
abbrev R26 := ByteArray
noncomputable def c26 : Code := bodyOf Tryd.f26
noncomputable def an26 : Ann := (.s .l (.s .l (.s (.s .l (.j [7] (.j [1, 7, 13, 14] (.s .l (.s (.j [1, 7, 13, 14] .l .l) (.s (.j [1, 7, 13, 14] .l .l) .l))) .l) .l)) .l)))
def pk26 : List PK := [.c (.int .u8), .c (.int .u8), .c (.int .i64)]
def rk26 : List RK := [.c .str 6]
noncomputable def rt26 (st : St) : Option R26 := rtG rk26 st
noncomputable def E26 (n : Nat × Nat) : Env := { T := tab, phi := noPhi, eff := fun _ => false, fuel := n.1, hold := n.2 }
noncomputable def kq26_1 (n : Nat × Nat) : St → Option R26 := run (E26 n) (cB (cB (cB c26))) (Ann.snd (Ann.snd (Ann.snd an26))) rt26 (fun _ _ => none) rt26
noncomputable def xb26_3 (n : Nat × Nat) : Nat → St → Option R26 := fun j s => bif Nat.beq j 0 then normC [7] s (kq26_1 n) else (fun _ _ => none) j s
noncomputable def F26_4 (n : Nat × Nat) : (St → Option R26) → St → Option R26 := fun K s => run (E26 n) (cA (cA (cB (cA (cB (cB c26)))))) (Ann.fst (Ann.fst (Ann.snd (Ann.fst (Ann.snd (Ann.snd an26)))))) (fun s => normC [1, 7, 13, 14] s K) (xb26_3 n) rt26 s
noncomputable def L26_1 (n : Nat × Nat) (m : Nat) (v1 : Int) (out7 : ByteArray) (v13 : Int) (v14 : Int) : Option R26 := loopN (F26_4 n) m { tm := [uu, .c (.int .u8 v1), uu, uu, uu, uu, uu, .c (.str out7), uu, uu, uu, uu, uu, .c (.int .i64 v13), .c (.int .i64 v14), uu, uu, uu, uu, uu, uu, uu, uu, uu, uu, uu, uu, uu, uu, uu, uu], hp := emp }
theorem L26_1_eq (n : Nat × Nat) (m1 : Nat) (v1 : Int) (out7 : ByteArray) (v13 : Int) (v14 : Int) : L26_1 n (m1 + 1) v1 out7 v13 v14 =
 (bif decide (v14 < v13) then (bif decide (v14 < 0) then none
 else (bif decide (v14 < 0) then none
 else (bif bounds (some (wr .u8 (BitVec.ofInt (IntKind.bits .u8) (Int.fdiv v1 (2 ^ (min (Int.toNat v14) (IntKind.bits .u8)))) &&& BitVec.ofInt (IntKind.bits .u8) 1).toNat)) (some (wr .u8 ((wr .u8 (BitVec.ofInt (IntKind.bits .u8) (Int.fdiv v1 (2 ^ (min (Int.toNat v14) (IntKind.bits .u8)))) &&& BitVec.ofInt (IntKind.bits .u8) 1).toNat) + 1))) none (⟨#[111, 117]⟩ : ByteArray).size then (bif decide (out7.size + (strCut (some (wr .u8 (BitVec.ofInt (IntKind.bits .u8) (Int.fdiv v1 (2 ^ (min (Int.toNat v14) (IntKind.bits .u8)))) &&& BitVec.ofInt (IntKind.bits .u8) 1).toNat)) (some (wr .u8 ((wr .u8 (BitVec.ofInt (IntKind.bits .u8) (Int.fdiv v1 (2 ^ (min (Int.toNat v14) (IntKind.bits .u8)))) &&& BitVec.ofInt (IntKind.bits .u8) 1).toNat) + 1))) (⟨#[111, 117]⟩ : ByteArray)).size ≤ lim) then L26_1 n m1 v1 (strApp out7 (strCut (some (wr .u8 (BitVec.ofInt (IntKind.bits .u8) (Int.fdiv v1 (2 ^ (min (Int.toNat v14) (IntKind.bits .u8)))) &&& BitVec.ofInt (IntKind.bits .u8) 1).toNat)) (some (wr .u8 ((wr .u8 (BitVec.ofInt (IntKind.bits .u8) (Int.fdiv v1 (2 ^ (min (Int.toNat v14) (IntKind.bits .u8)))) &&& BitVec.ofInt (IntKind.bits .u8) 1).toNat) + 1))) (⟨#[111, 117]⟩ : ByteArray))) v13 (wr .i64 (v14 + 1))
 else none)
 else none)))
 else some out7) := by kernel_rfl
noncomputable def S26 (n : Nat × Nat) (many0 : Int) (v1 : Int) (most2 : Int) : Option R26 := run (E26 n) c26 an26 rt26 (fun _ _ => none) rt26 { tm := [.c (.int .u8 many0), .c (.int .u8 v1), .c (.int .i64 most2), uu, uu, uu, uu, uu, uu, uu, uu, uu, uu, uu, uu, uu, uu, uu, uu, uu, uu, uu, uu, uu, uu, uu, uu, uu, uu, uu, uu], hp := emp }
theorem S26_eq (n : Nat × Nat) (many0 : Int) (v1 : Int) (most2 : Int) : S26 n many0 v1 most2 =
 (bif (wr .i64 (most2 + 1)) == 0 then none
 else L26_1 n n.1 v1 (⟨#[]⟩ : ByteArray) (Int.tmod (wr .i64 many0) (wr .i64 (most2 + 1))) 0) := by kernel_rfl
theorem S26_run (n : Nat × Nat) (xs : pksDen pk26) : S26 n xs.1 xs.2.1 xs.2.2.1 = runG (E26 n) noScope c26 an26 (rtG rk26) (fun _ _ => none) (rtG rk26) (st0 pk26 xs Tryd.f26.ntmps) := by kernel_rfl
noncomputable def P26 (n : Nat × Nat) := phiOf pk26 rk26 (fun xs => S26 n xs.1 xs.2.1 xs.2.2.1)
theorem call26 : CallOK Tryd.prog 26 := callOK_of Tryd.func26 (by kernel_rfl) (by kernel_rfl)
theorem env26 (n : Nat × Nat) : EnvOK Tryd.prog (E26 n) := envOK0 noPhi_ok rfl rfl
theorem par26 (n : Nat × Nat) : EnvPar (E26 n) := envPar0 noPhi_par rfl
theorem FC26 (n : Nat × Nat) : FCs Tryd.prog 26 (P26 n) := phiOf_FCs fun xs r h vs hv => FC.of_runG tabOK eqsOK (env26 n) (par26 n) mixed (fun _ p _ => noScope_ok p.1 p.2) Tryd.func26 (c := c26) (an := an26) (pks := pk26) (rks := rk26) (by kernel_rfl) (by kernel_rfl) hv ((S26_run n xs).symm.trans h)
end Go.Proofs.YtkfkbebinhkdlaaDoor
/-
  strings.Trim at a cutset of ASCII bytes: by the library's contract.
-/
set_option linter.unusedVariables false
set_option linter.unusedSimpArgs false
namespace Go.Proofs
open Go.Shelf
def Tryd.lays160_ren : Go.Shelf.Ren := ⟨fun | 160 => 115 | 232 => 129 | 231 => 128 | 227 => 130 | 234 => 132 | 233 => 131 | 236 => 134 | 235 => 133 | 228 => 139 | 271 => 142 | 151 => 141 | 197 => 140 | 120 => 147 | 152 => 146 | 260 => 145 | 137 => 149 | 119 => 150 | 224 => 151 | 225 => 152 | 217 => 153 | 266 => 154 | n => n, fun | 9 => 9 | 4 => 4 | 3 => 3 | 5 => 5 | 117 => 209 | 116 => 208 | 0 => 0 | 124 => 212 | 21 => 21 | 105 => 218 | 46 => 79 | 119 => 225 | 139 => 228 | 138 => 227 | n => n, fun | 3 => 2 | 4 => 3 | n => n⟩
theorem Tryd.lays160 : Go.Proofs.Lays.n160 Tryd.prog Tryd.lays160_ren where
  mixed := by kernel_rfl
  f119 := Tryd.func150.trans (congrArg some (by kernel_rfl))
  f120 := Tryd.func147.trans (congrArg some (by kernel_rfl))
  f137 := Tryd.func149.trans (congrArg some (by kernel_rfl))
  f151 := Tryd.func141.trans (congrArg some (by kernel_rfl))
  f152 := Tryd.func146.trans (congrArg some (by kernel_rfl))
  f160 := Tryd.func115.trans (congrArg some (by kernel_rfl))
  f197 := Tryd.func140.trans (congrArg some (by kernel_rfl))
  f217 := Tryd.func153.trans (congrArg some (by kernel_rfl))
  f224 := Tryd.func151.trans (congrArg some (by kernel_rfl))
  f225 := Tryd.func152.trans (congrArg some (by kernel_rfl))
  f227 := Tryd.func130.trans (congrArg some (by kernel_rfl))
  f228 := Tryd.func139.trans (congrArg some (by kernel_rfl))
  f231 := Tryd.func128.trans (congrArg some (by kernel_rfl))
  f232 := Tryd.func129.trans (congrArg some (by kernel_rfl))
  f233 := Tryd.func131.trans (congrArg some (by kernel_rfl))
  f234 := Tryd.func132.trans (congrArg some (by kernel_rfl))
  f235 := Tryd.func133.trans (congrArg some (by kernel_rfl))
  f236 := Tryd.func134.trans (congrArg some (by kernel_rfl))
  f260 := Tryd.func145.trans (congrArg some (by kernel_rfl))
  f266 := Tryd.func154.trans (congrArg some (by kernel_rfl))
  f271 := Tryd.func142.trans (congrArg some (by kernel_rfl))
  t0 := Tryd.underlying0
  a0 := Tryd.isAgg0
  z0 := Tryd.sizeOf0
  v0 := Tryd.zeroValue0
  t3 := Tryd.underlying3
  a3 := Tryd.isAgg3
  z3 := Tryd.sizeOf3
  v3 := Tryd.zeroValue3
  t4 := Tryd.underlying4
  a4 := Tryd.isAgg4
  z4 := Tryd.sizeOf4
  v4 := Tryd.zeroValue4
  t5 := Tryd.underlying5
  a5 := Tryd.isAgg5
  z5 := Tryd.sizeOf5
  v5 := Tryd.zeroValue5
  t9 := Tryd.underlying9
  a9 := Tryd.isAgg9
  z9 := Tryd.sizeOf9
  v9 := Tryd.zeroValue9
  t21 := Tryd.underlying21
  a21 := Tryd.isAgg21
  z21 := Tryd.sizeOf21
  v21 := Tryd.zeroValue21
  t46 := Tryd.underlying79
  a46 := Tryd.isAgg79
  z46 := Tryd.sizeOf79
  v46 := Tryd.zeroValue79
  t105 := Tryd.underlying218
  a105 := Tryd.isAgg218
  z105 := Tryd.sizeOf218
  v105 := Tryd.zeroValue218
  t116 := Tryd.underlying208
  a116 := Tryd.isAgg208
  z116 := Tryd.sizeOf208
  t117 := Tryd.underlying209
  a117 := Tryd.isAgg209
  z117 := Tryd.sizeOf209
  v117 := Tryd.zeroValue209
  t119 := Tryd.underlying225
  a119 := Tryd.isAgg225
  z119 := Tryd.sizeOf225
  t124 := Tryd.underlying212
  a124 := Tryd.isAgg212
  z124 := Tryd.sizeOf212
  v124 := Tryd.zeroValue212
  t138 := Tryd.underlying227
  a138 := Tryd.isAgg227
  z138 := Tryd.sizeOf227
  v138 := Tryd.zeroValue227
  t139 := Tryd.underlying228
  a139 := Tryd.isAgg228
  z139 := Tryd.sizeOf228
  v139 := Tryd.zeroValue228
  g3 := by kernel_rfl
  g4 := by kernel_rfl
end Go.Proofs
namespace Go.Proofs.YtkfkbebinhkdlaaDoor
open Go.RowKit Go.Shelf Go.Vi
def HF115 (s c : ByteArray) : Option ByteArray :=
  bif decide (s.size ≤ lim) && decide (c.size ≤ lim) && c.data.toList.all (fun b => decide (b.toNat < 128)) then some ⟨(Lib.trimS s.data.toList c.data.toList).toArray⟩ else none
theorem HC115 (n : Nat × Nat) (xs : pksDen [.c .str, .c .str]) (r : rksDen [.c .str 0]) (h : HF115 xs.1 xs.2.1 = some r) (vs : List V) (hv : pksArg [.c .str, .c .str] vs = some xs) :
    FC Tryd.prog 115 vs (rets [.c .str 0] r) := by
  obtain ⟨s, c, ⟨⟩⟩ := xs
  unfold HF115 at h
  obtain ⟨hl, h⟩ := cond_some h rfl
  cases h
  simp only [Bool.and_eq_true, decide_eq_true_eq] at hl
  intro w A0 args hA hargs hgl
  have hv2 := pksArg_VR _ _ _ _ hv hargs
  match args, hv2 with
  | [u1, u2], hv2 =>
    have e1 : u1 = .string s := hv2.1
    have e2 : u2 = .string c := hv2.2.1
    subst e1 e2
    have hcon := Any.strings_Trim_laid Tryd.lays160 (by kernel_rfl) s c w (by have := hl.1.1; unfold lim at this; omega) (by have := hl.1.2; unfold lim at this; omega) (ascii_of_all hl.2)
    refine Calls.mono (show Calls Tryd.prog 115 #[.string s, .string c] w _ from hcon) ?_
    intro x w2 hx
    cases x with
    | returned u =>
      obtain ⟨hu, hB⟩ := hx
      cases hu
      exact ⟨⟨hB.size, hB.os, hB.tape, hB.output, hB.block⟩, [.emp], [_], rfl, rfl, fun b c h => (by cases h), trivial⟩
    | _ => exact absurd hx.1 (by simp)
end Go.Proofs.YtkfkbebinhkdlaaDoor
set_option linter.unusedVariables false
set_option linter.unusedSimpArgs false
set_option maxRecDepth 100000
namespace Go.Proofs.YtkfkbebinhkdlaaDoor
open Go.Vi
/- strings.Trim -/
abbrev R115 := ByteArray
def pk115 : List PK := [.c .str, .c .str]
def rk115 : List RK := [.c .str 0]
noncomputable def S115 (n : Nat × Nat) (s0 : ByteArray) (cutset1 : ByteArray) : Option R115 := HF115 s0 cutset1
noncomputable def P115 (n : Nat × Nat) := phiOf pk115 rk115 (fun xs => S115 n xs.1 xs.2.1)
theorem call115 : CallOK Tryd.prog 115 := callOK_of Tryd.func115 (by kernel_rfl) (by kernel_rfl)
theorem FC115 (n : Nat × Nat) : FCs Tryd.prog 115 (P115 n) := phiOf_FCs fun xs r h vs hv => HC115 n xs r h vs hv
abbrev R88 := Int
noncomputable def c88 : Code := bodyOf Tryd.f88
noncomputable def an88 : Ann := (.s .l (.s (.j [] (.s .l (.j [] .l (.s .l (.j [] .l .l)))) .l) .l))
def pk88 : List PK := [.c .str, .c (.int .i64), .c .str]
def rk88 : List RK := [.c (.int .i64) 6]
noncomputable def rt88 (st : St) : Option R88 := rtG rk88 st
noncomputable def E88 (n : Nat × Nat) : Env := { T := tab, phi := (consPhi 115 (fun _ => true) (P115 n) noPhi), eff := fun _ => false, fuel := n.1, hold := n.2 }
noncomputable def S88 (n : Nat × Nat) (s0 : ByteArray) (most1 : Int) (letters2 : ByteArray) : Option R88 := run (E88 n) c88 an88 rt88 (fun _ _ => none) rt88 { tm := [.c (.str s0), .c (.int .i64 most1), .c (.str letters2), uu, uu, uu, uu, uu, uu, uu, uu, uu, uu, uu, uu, uu, uu], hp := emp }
theorem S88_eq (n : Nat × Nat) (s0 : ByteArray) (most1 : Int) (letters2 : ByteArray) : S88 n s0 most1 letters2 =
 (bif decide ((s0.size : Int) > most1) then some 19
 else (S115 n s0 letters2).bind fun r1' =>
 (bif (!strEq r1' (⟨#[]⟩ : ByteArray)) then some 10
 else some 0)) := by kernel_rfl
theorem S88_run (n : Nat × Nat) (xs : pksDen pk88) : S88 n xs.1 xs.2.1 xs.2.2.1 = runG (E88 n) noScope c88 an88 (rtG rk88) (fun _ _ => none) (rtG rk88) (st0 pk88 xs Tryd.f88.ntmps) := by kernel_rfl
noncomputable def P88 (n : Nat × Nat) := phiOf pk88 rk88 (fun xs => S88 n xs.1 xs.2.1 xs.2.2.1)
theorem call88 : CallOK Tryd.prog 88 := callOK_of Tryd.func88 (by kernel_rfl) (by kernel_rfl)
theorem env88 (n : Nat × Nat) : EnvOK Tryd.prog (E88 n) := envOK0 (consPhi_ok (FC115 n) call115 noPhi_ok) rfl rfl
theorem par88 (n : Nat × Nat) : EnvPar (E88 n) := envPar0 (consPhi_par phiOf_Par1 noPhi_par) rfl
theorem FC88 (n : Nat × Nat) : FCs Tryd.prog 88 (P88 n) := phiOf_FCs fun xs r h vs hv => FC.of_runG tabOK eqsOK (env88 n) (par88 n) mixed (fun _ p _ => noScope_ok p.1 p.2) Tryd.func88 (c := c88) (an := an88) (pks := pk88) (rks := rk88) (by kernel_rfl) (by kernel_rfl) hv ((S88_run n xs).symm.trans h)
abbrev R60 := Int
noncomputable def c60 : Code := bodyOf Tryd.f60
noncomputable def an60 : Ann := .l
def pk60 : List PK := [.c .str]
def rk60 : List RK := [.c (.int .i64) 2]
noncomputable def rt60 (st : St) : Option R60 := rtG rk60 st
noncomputable def E60 (n : Nat × Nat) : Env := { T := tab, phi := (consPhi 88 (fun _ => true) (P88 n) noPhi), eff := fun _ => false, fuel := n.1, hold := n.2 }
noncomputable def S60 (n : Nat × Nat) (folds0 : ByteArray) : Option R60 := run (E60 n) c60 an60 rt60 (fun _ _ => none) rt60 { tm := [.c (.str folds0), uu, uu, uu, uu], hp := emp }
theorem S60_eq (n : Nat × Nat) (folds0 : ByteArray) : S60 n folds0 =
 (S88 n folds0 6 (⟨#[111, 117]⟩ : ByteArray)).bind fun r1' =>
 some r1' := by kernel_rfl
theorem S60_run (n : Nat × Nat) (xs : pksDen pk60) : S60 n xs.1 = runG (E60 n) noScope c60 an60 (rtG rk60) (fun _ _ => none) (rtG rk60) (st0 pk60 xs Tryd.f60.ntmps) := by kernel_rfl
noncomputable def P60 (n : Nat × Nat) := phiOf pk60 rk60 (fun xs => S60 n xs.1)
theorem call60 : CallOK Tryd.prog 60 := callOK_of Tryd.func60 (by kernel_rfl) (by kernel_rfl)
theorem env60 (n : Nat × Nat) : EnvOK Tryd.prog (E60 n) := envOK0 (consPhi_ok (FC88 n) call88 noPhi_ok) rfl rfl
theorem par60 (n : Nat × Nat) : EnvPar (E60 n) := envPar0 (consPhi_par phiOf_Par1 noPhi_par) rfl
theorem FC60 (n : Nat × Nat) : FCs Tryd.prog 60 (P60 n) := phiOf_FCs fun xs r h vs hv => FC.of_runG tabOK eqsOK (env60 n) (par60 n) mixed (fun _ p _ => noScope_ok p.1 p.2) Tryd.func60 (c := c60) (an := an60) (pks := pk60) (rks := rk60) (by kernel_rfl) (by kernel_rfl) hv ((S60_run n xs).symm.trans h)
abbrev R61 := List Int
noncomputable def c61 : Code := bodyOf Tryd.f61
noncomputable def an61 : Ann := (.s .l (.s .l (.s (.s .l (.j [0] .l .l)) (.s .l (.s .l (.s .l (.s (.s .l (.j [5] (.j [0, 5, 6, 26, 27, 28] (.s .l (.s (.j [0, 5, 6, 26, 27, 28] .l .l) (.s (.j [0, 5, 6, 26, 27, 28] (.s .l (.s .l (.s (.s .l (.j [0, 5, 6, 9, 26, 27, 28] .l .l)) .l))) .l) .l))) .l) .l)) .l)))))))
def pk61 : List PK := [.c .str]
def rk61 : List RK := [.own (.int .i64) 2]
noncomputable def rt61 (st : St) : Option R61 := rtG rk61 st
noncomputable def E61 (n : Nat × Nat) (SS : ByteArray → Option R61) : Env := { T := tab, phi := (consPhi 61 (fun _ => true) (phiOf pk61 rk61 (fun xs => SS xs.1)) noPhi), eff := fun _ => false, fuel := n.1, hold := n.2 }
noncomputable def kq61_3 (n : Nat × Nat) (SS : ByteArray → Option R61) : St → Option R61 := run (E61 n SS) (cB (cB (cB (cB (cB (cB (cB c61))))))) (Ann.snd (Ann.snd (Ann.snd (Ann.snd (Ann.snd (Ann.snd (Ann.snd an61))))))) rt61 (fun _ _ => none) rt61
noncomputable def xb61_5 (n : Nat × Nat) (SS : ByteArray → Option R61) : Nat → St → Option R61 := fun j s => bif Nat.beq j 0 then normC [5] s (kq61_3 n SS) else (fun _ _ => none) j s
noncomputable def F61_6 (n : Nat × Nat) (SS : ByteArray → Option R61) : (St → Option R61) → St → Option R61 := fun K s => run (E61 n SS) (cA (cA (cB (cA (cB (cB (cB (cB (cB (cB c61)))))))))) (Ann.fst (Ann.fst (Ann.snd (Ann.fst (Ann.snd (Ann.snd (Ann.snd (Ann.snd (Ann.snd (Ann.snd an61)))))))))) (fun s => normC [0, 5, 6, 26, 27, 28] s K) (xb61_5 n SS) rt61 s
noncomputable def L61_1 (n : Nat × Nat) (SS : ByteArray → Option R61) (m : Nat) (folds0 : ByteArray) (v6 : Int) (v27 : Int) (v28 : Int) (out5 : List Int) (v26 : List Int) : Option R61 := loopN (F61_6 n SS) m { tm := [.c (.str folds0), uu, uu, uu, uu, .own 5 none false, .c (.int .i64 v6), uu, uu, uu, uu, uu, uu, uu, uu, uu, uu, uu, uu, uu, uu, uu, uu, uu, uu, uu, .own 26 none false, .c (.int .i64 v27), .c (.int .i64 v28), uu, uu, uu, uu, uu, uu, uu, uu, uu, uu, uu, uu, uu, uu, uu, uu, uu, uu, uu, uu, uu, uu, uu, uu, uu], hp := (upd (upd emp 26 (.arr (.int .i64) v26 false)) 5 (.arr (.int .i64) out5 false)) }
theorem L61_1_eq (n : Nat × Nat) (SS : ByteArray → Option R61) (m1 : Nat) (folds0 : ByteArray) (v6 : Int) (v27 : Int) (v28 : Int) (out5 : List Int) (v26 : List Int) : L61_1 n SS (m1 + 1) folds0 v6 v27 v28 out5 v26 =
 (bif decide (v28 < v27) then (bif inB v28 v26.length then (idx v26 v28).bind fun x2' =>
 (idx (strBytes folds0) 0).bind fun x3' =>
 (bif 2 == 0 then none
 else (bif ((x3' == 111) != ((Int.tmod x2' 2) == 0)) then (bif bounds none none none 2 then (bif decide (out5.length + [x2', wr .i64 (v6 - x2')].length ≤ lim) then L61_1 n SS m1 folds0 v6 v27 (wr .i64 (v28 + 1)) (out5 ++ [x2', wr .i64 (v6 - x2')]) v26
 else none)
 else none)
 else (bif bounds none none none 2 then (bif decide (out5.length + [wr .i64 (v6 - x2'), x2'].length ≤ lim) then L61_1 n SS m1 folds0 v6 v27 (wr .i64 (v28 + 1)) (out5 ++ [wr .i64 (v6 - x2'), x2']) v26
 else none)
 else none)))
 else none)
 else some out5) := by kernel_rfl
noncomputable def B61 (n : Nat × Nat) (SS : ByteArray → Option R61) (folds0 : ByteArray) : Option R61 := run (E61 n SS) c61 an61 rt61 (fun _ _ => none) rt61 { tm := [.c (.str folds0), uu, uu, uu, uu, uu, uu, uu, uu, uu, uu, uu, uu, uu, uu, uu, uu, uu, uu, uu, uu, uu, uu, uu, uu, uu, uu, uu, uu, uu, uu, uu, uu, uu, uu, uu, uu, uu, uu, uu, uu, uu, uu, uu, uu, uu, uu, uu, uu, uu, uu, uu, uu, uu], hp := emp }
theorem B61_eq (n : Nat × Nat) (SS : ByteArray → Option R61) (folds0 : ByteArray) : B61 n SS folds0 =
 (bif ((folds0.size : Int) == 0) then some [0]
 else (bif bounds (some 1) none none folds0.size then (SS (strCut (some 1) none folds0)).bind fun r1' =>
 (bif decide (0 ≤ 0) && decide (0 ≤ wr .i64 (2 * (r1'.length : Int))) && decide (wr .i64 (2 * (r1'.length : Int)) ≤ lim) then L61_1 n SS n.1 folds0 (wr .i64 ((wr .i64 (2 * (r1'.length : Int))) - 1)) (r1'.length : Int) 0 (List.replicate (Int.toNat 0) (0 : Int)) r1'
 else none)
 else none)) := by kernel_rfl
noncomputable def T61 (n : Nat × Nat) : Nat → ByteArray → Option R61
  | 0 => fun _ => none
  | d + 1 => B61 n (T61 n d)
theorem T61_eq (n : Nat × Nat) (d : Nat) (folds0 : ByteArray) : T61 n (d + 1) folds0 = B61 n (T61 n d) folds0 := rfl
noncomputable def S61 (n : Nat × Nat) (folds0 : ByteArray) : Option R61 := T61 n n.1 folds0
theorem B61_run (n : Nat × Nat) (SS : ByteArray → Option R61) (xs : pksDen pk61) : B61 n SS xs.1 = runG (E61 n SS) noScope c61 an61 (rtG rk61) (fun _ _ => none) (rtG rk61) (st0 pk61 xs Tryd.f61.ntmps) := by kernel_rfl
noncomputable def P61 (n : Nat × Nat) := phiOf pk61 rk61 (fun xs => S61 n xs.1)
theorem call61 : CallOK Tryd.prog 61 := callOK_of Tryd.func61 (by kernel_rfl) (by kernel_rfl)
theorem env61 (n : Nat × Nat) (SS : ByteArray → Option R61) (hSS : FCs Tryd.prog 61 (phiOf pk61 rk61 (fun xs => SS xs.1))) : EnvOK Tryd.prog (E61 n SS) := envOK0 (consPhi_ok hSS call61 noPhi_ok) rfl rfl
theorem par61 (n : Nat × Nat) (SS : ByteArray → Option R61) : EnvPar (E61 n SS) := envPar0 (consPhi_par phiOf_Par1 noPhi_par) rfl
theorem FCT61 (n : Nat × Nat) : ∀ d : Nat, FCs Tryd.prog 61 (phiOf pk61 rk61 (fun xs => T61 n d xs.1))
  | 0 => phiOf_FCs fun xs r h => by cases h
  | d + 1 => phiOf_FCs fun xs r h vs hv => FC.of_runG tabOK eqsOK (env61 n (T61 n d) (FCT61 n d)) (par61 n (T61 n d)) mixed (fun _ p _ => noScope_ok p.1 p.2) Tryd.func61 (c := c61) (an := an61) (pks := pk61) (rks := rk61) (by kernel_rfl) (by kernel_rfl) hv ((B61_run n (T61 n d) xs).symm.trans h)
theorem FC61 (n : Nat × Nat) : FCs Tryd.prog 61 (P61 n) := FCT61 n n.1
abbrev R27 := List Int × Int
noncomputable def c27 : Code := bodyOf Tryd.f27
noncomputable def an27 : Ann := (.s .l (.s (.s .l (.s .l (.j [0] .l .l))) .l))
def pk27 : List PK := [.c .str]
def rk27 : List RK := [.own (.int .i64) 2, .c (.int .i64) 3]
noncomputable def rt27 (st : St) : Option R27 := rtG rk27 st
noncomputable def E27 (n : Nat × Nat) : Env := { T := tab, phi := (consPhi 60 (fun _ => true) (P60 n) (consPhi 61 (fun _ => true) (P61 n) noPhi)), eff := fun _ => false, fuel := n.1, hold := n.2 }
noncomputable def S27 (n : Nat × Nat) (folds0 : ByteArray) : Option R27 := run (E27 n) c27 an27 rt27 (fun _ _ => none) rt27 { tm := [.c (.str folds0), uu, uu, uu, uu, uu, uu, uu, uu, uu, uu, uu], hp := emp }
theorem S27_eq (n : Nat × Nat) (folds0 : ByteArray) : S27 n folds0 =
 (S60 n folds0).bind fun r1' =>
 (bif (r1' != 0) then some ([], r1')
 else (S61 n folds0).bind fun r2' =>
 some (r2', 0)) := by kernel_rfl
theorem S27_run (n : Nat × Nat) (xs : pksDen pk27) : S27 n xs.1 = runG (E27 n) noScope c27 an27 (rtG rk27) (fun _ _ => none) (rtG rk27) (st0 pk27 xs Tryd.f27.ntmps) := by kernel_rfl
noncomputable def P27 (n : Nat × Nat) := phiOf pk27 rk27 (fun xs => S27 n xs.1)
theorem call27 : CallOK Tryd.prog 27 := callOK_of Tryd.func27 (by kernel_rfl) (by kernel_rfl)
theorem env27 (n : Nat × Nat) : EnvOK Tryd.prog (E27 n) := envOK0 (consPhi_ok (FC60 n) call60 (consPhi_ok (FC61 n) call61 noPhi_ok)) rfl rfl
theorem par27 (n : Nat × Nat) : EnvPar (E27 n) := envPar0 (consPhi_par phiOf_Par1 (consPhi_par phiOf_Par1 noPhi_par)) rfl
theorem FC27 (n : Nat × Nat) : FCs Tryd.prog 27 (P27 n) := phiOf_FCs fun xs r h vs hv => FC.of_runG tabOK eqsOK (env27 n) (par27 n) mixed (fun _ p _ => noScope_ok p.1 p.2) Tryd.func27 (c := c27) (an := an27) (pks := pk27) (rks := rk27) (by kernel_rfl) (by kernel_rfl) hv ((S27_run n xs).symm.trans h)
/- (headword/see.web).set -/
abbrev R43 := Int × Int
noncomputable def c43 : Code := bodyOf Tryd.f43
noncomputable def an43 : Ann := (.s .l (.s .l (.s (.s .l (.j [6] (.j [2, 6, 7, 10, 11, 12, 20, 21, 22, 23] (.s .l (.s (.j [2, 6, 7, 10, 11, 12, 20, 21, 22, 23] .l .l) (.s (.j [2, 6, 7, 10, 11, 12, 20, 21, 22, 23] (.s .l (.s (.j [2, 6, 9, 10, 11, 12, 20, 21, 22, 23] (.s .l (.j [2, 6, 9, 10, 11, 12, 20, 21, 22, 23] .l (.s .l (.j [2, 6, 9, 10, 11, 12, 20, 21, 22, 23] .l .l)))) .l) .l)) .l) .l))) .l) .l)) .l)))
def pk43 : List PK := [.c (.pair (.int .i64) (.pair (.int .u64) (.pair (.int .u64) (.pair (.int .u64) (.pair (.int .u64) (.pair (.int .u64) (.pair (.int .u64) (.int .u64)))))))), .c (.sl (.int .i64))]
def rk43 : List RK := [.c (.int .u64) 4, .c (.int .i64) 5]
noncomputable def rt43 (st : St) : Option R43 := rtG rk43 st
noncomputable def E43 (n : Nat × Nat) : Env := { T := tab, phi := noPhi, eff := fun _ => false, fuel := n.1, hold := n.2 }
noncomputable def kq43_1 (n : Nat × Nat) : St → Option R43 := run (E43 n) (cB (cB (cB c43))) (Ann.snd (Ann.snd (Ann.snd an43))) rt43 (fun _ _ => none) rt43
noncomputable def xb43_3 (n : Nat × Nat) : Nat → St → Option R43 := fun j s => bif Nat.beq j 0 then normC [6] s (kq43_1 n) else (fun _ _ => none) j s
noncomputable def F43_4 (n : Nat × Nat) : (St → Option R43) → St → Option R43 := fun K s => run (E43 n) (cA (cA (cB (cA (cB (cB c43)))))) (Ann.fst (Ann.fst (Ann.snd (Ann.fst (Ann.snd (Ann.snd an43)))))) (fun s => normC [2, 6, 7, 10, 11, 12, 20, 21, 22, 23] s K) (xb43_3 n) rt43 s
noncomputable def L43_1 (n : Nat × Nat) (m : Nat) (out6 : Int) (v7 : Int) (v10 : List Int) (v11 : Int) (v12 : Int) (w2_0 : Int) (w2_1 : Int) (w2_2 : Int) (w2_3 : Int) (w2_4 : Int) (w2_5 : Int) (w2_6 : Int) (w2_7 : Int) : Option R43 := loopN (F43_4 n) m { tm := [uu, uu, .ptr 2 0, uu, uu, uu, .c (.int .u64 out6), .c (.int .i64 v7), uu, uu, .c (.sl (.int .i64) v10 false), .c (.int .i64 v11), .c (.int .i64 v12), uu, uu, uu, uu, uu, uu, uu, uu, uu, uu, uu, uu, uu, uu, uu, uu, uu, uu, uu, uu, uu, uu, uu], hp := (upd emp 2 (.box [.int .i64 w2_0, .int .u64 w2_1, .int .u64 w2_2, .int .u64 w2_3, .int .u64 w2_4, .int .u64 w2_5, .int .u64 w2_6, .int .u64 w2_7])) }
theorem L43_1_eq (n : Nat × Nat) (m1 : Nat) (out6 : Int) (v7 : Int) (v10 : List Int) (v11 : Int) (v12 : Int) (w2_0 : Int) (w2_1 : Int) (w2_2 : Int) (w2_3 : Int) (w2_4 : Int) (w2_5 : Int) (w2_6 : Int) (w2_7 : Int) : L43_1 n (m1 + 1) out6 v7 v10 v11 v12 w2_0 w2_1 w2_2 w2_3 w2_4 w2_5 w2_6 w2_7 =
 (bif decide (v12 < v11) then (idx v10 v12).bind fun x1' =>
 ((bif (decide (x1' < 0) == false) then some (decide (x1' ≥ w2_0))
 else some true)).bind fun b2' =>
 (bif b2' then some (0, 2)
 else (bif decide (x1' ≤ v7) then some (0, 7)
 else (bif decide (x1' < 0) then none
 else L43_1 n m1 (wr .u64 (BitVec.ofInt (IntKind.bits .u64) out6 ||| BitVec.ofInt (IntKind.bits .u64) (wr .u64 (1 * 2 ^ (min (Int.toNat x1') (IntKind.bits .u64))))).toNat) x1' v10 v11 (wr .i64 (v12 + 1)) w2_0 w2_1 w2_2 w2_3 w2_4 w2_5 w2_6 w2_7)))
 else some (out6, 0)) := by kernel_rfl
noncomputable def S43 (n : Nat × Nat) (w0 : Int × Int × Int × Int × Int × Int × Int × Int) (l1 : List Int) : Option R43 := run (E43 n) c43 an43 rt43 (fun _ _ => none) rt43 { tm := [.agg [.int .i64 w0.1, .int .u64 w0.2.1, .int .u64 w0.2.2.1, .int .u64 w0.2.2.2.1, .int .u64 w0.2.2.2.2.1, .int .u64 w0.2.2.2.2.2.1, .int .u64 w0.2.2.2.2.2.2.1, .int .u64 w0.2.2.2.2.2.2.2], .c (.sl (.int .i64) l1 false), uu, uu, uu, uu, uu, uu, uu, uu, uu, uu, uu, uu, uu, uu, uu, uu, uu, uu, uu, uu, uu, uu, uu, uu, uu, uu, uu, uu, uu, uu, uu, uu, uu, uu], hp := emp }
theorem S43_eq (n : Nat × Nat) (w0 : Int × Int × Int × Int × Int × Int × Int × Int) (l1 : List Int) : S43 n w0 l1 =
    L43_1 n n.1 0 (-1) l1 (l1.length : Int) 0 w0.1 w0.2.1 w0.2.2.1 w0.2.2.2.1 w0.2.2.2.2.1 w0.2.2.2.2.2.1 w0.2.2.2.2.2.2.1 w0.2.2.2.2.2.2.2 := by kernel_rfl
theorem S43_run (n : Nat × Nat) (xs : pksDen pk43) : S43 n xs.1 xs.2.1 = runG (E43 n) noScope c43 an43 (rtG rk43) (fun _ _ => none) (rtG rk43) (st0 pk43 xs Tryd.f43.ntmps) := by kernel_rfl
noncomputable def P43 (n : Nat × Nat) := phiOf pk43 rk43 (fun xs => S43 n xs.1 xs.2.1)
theorem call43 : CallOK Tryd.prog 43 := callOK_of Tryd.func43 (by kernel_rfl) (by kernel_rfl)
theorem env43 (n : Nat × Nat) : EnvOK Tryd.prog (E43 n) := envOK0 noPhi_ok rfl rfl
theorem par43 (n : Nat × Nat) : EnvPar (E43 n) := envPar0 noPhi_par rfl
theorem FC43 (n : Nat × Nat) : FCs Tryd.prog 43 (P43 n) := phiOf_FCs fun xs r h vs hv => FC.of_runG tabOK eqsOK (env43 n) (par43 n) mixed (fun _ p _ => noScope_ok p.1 p.2) Tryd.func43 (c := c43) (an := an43) (pks := pk43) (rks := rk43) (by kernel_rfl) (by kernel_rfl) hv ((S43_run n xs).symm.trans h)
abbrev R15 := List Int × Int
noncomputable def c15 : Code := bodyOf Tryd.f15
noncomputable def an15 : Ann := (.s .l (.s .l (.q [(8, 0, 2)] (.s (.j [1, 2, 8, 45, 46, 47, 48] (.s .l (.j [1, 2, 8, 45, 46, 47, 48] .l (.s .l (.j [1, 2, 8, 45, 46, 47, 48] .l .l)))) .l) (.s .l (.s (.j [2, 8, 10] (.s .l (.j [2, 8, 10] .l (.s .l (.j [2, 8, 10] .l .l)))) .l) (.s .l (.s (.j [2, 8, 11] (.j [2, 8, 11] (.s (.s .l (.j [2, 8, 11] .l .l)) (.j [2, 8, 11] (.s .l (.s .l (.s (.s .l (.j [2, 8, 11, 12, 13] (.j [2, 8, 11, 12, 13, 72, 73, 74] (.s .l (.s (.j [2, 8, 11, 12, 13, 72, 73, 74] .l .l) (.j [] (.j [2, 8, 11, 12, 13, 72, 73, 74] (.s .l (.s .l (.j [2, 8, 11, 12, 13, 72, 73, 74] .l .l))) .l) .l))) .l) .l)) (.s (.s .l (.j [2, 8, 11, 13] .l .l)) .l)))) .l)) .l) .l) (.s .l (.s (.s .l (.j [16] (.j [2, 8, 11, 16, 17] (.s (.s .l (.j [2, 8, 11, 16, 17] .l .l)) (.s (.j [2, 8, 11, 16, 17] .l .l) .l)) .l) .l)) .l))))))))))
def pk15 : List PK := [.c (.pair (.int .i64) (.sl (.pair (.int .i64) (.int .i64)))), .c (.sl (.int .i64)), .c (.int .i64)]
def rk15 : List RK := [.own (.int .i64) 6, .c (.int .i64) 7]
noncomputable def rt15 (st : St) : Option R15 := rtG rk15 st
noncomputable def E15 (n : Nat × Nat) : Env := { T := tab, phi := (consPhi 33 (fun _ => true) (P33 n) (consPhi 41 (fun _ => true) (P41 n) (consPhi 43 (fun _ => true) (P43 n) noPhi))), eff := fun _ => false, fuel := n.1, hold := n.2 }
noncomputable def kq15_11 (n : Nat × Nat) : St → Option R15 := run (E15 n) (cB (cB (cB (cB (cB (cB (cB c15))))))) (Ann.snd (Ann.snd (Ann.snd (Ann.snd (Ann.snd (Ann.unq (Ann.snd (Ann.snd an15)))))))) rt15 (fun _ _ => none) rt15
noncomputable def xb15_13 (n : Nat × Nat) : Nat → St → Option R15 := fun j s => bif Nat.beq j 2 then normC [2, 8, 11] s (kq15_11 n) else (fun _ _ => none) j s
noncomputable def F15_14 (n : Nat × Nat) : (St → Option R15) → St → Option R15 := fun K s => run (E15 n) (cA (cA (cA (cB (cB (cB (cB (cB (cB c15))))))))) (Ann.fst (Ann.fst (Ann.fst (Ann.snd (Ann.snd (Ann.snd (Ann.snd (Ann.unq (Ann.snd (Ann.snd an15)))))))))) (fun s => normC [2, 8, 11] s K) (xb15_13 n) rt15 s
noncomputable def kc15_17 (n : Nat × Nat) (m1 : Nat) : St → Option R15 := fun s => normC [2, 8, 11] s (fun s => normC [2, 8, 11] s (loopN (F15_14 n) m1))
noncomputable def xb15_18 (n : Nat × Nat) (m1 : Nat) : Nat → St → Option R15 := fun j s => bif Nat.beq j 3 then normC [2, 8, 11] s (fun s => normC [2, 8, 11] s (loopN (F15_14 n) m1)) else (xb15_13 n) j s
noncomputable def kq15_19 (n : Nat × Nat) (m1 : Nat) : St → Option R15 := run (E15 n) (cB (cB (cB (cA (cB (cA (cA (cA (cB (cB (cB (cB (cB (cB c15)))))))))))))) (Ann.snd (Ann.snd (Ann.snd (Ann.fst (Ann.snd (Ann.fst (Ann.fst (Ann.fst (Ann.snd (Ann.snd (Ann.snd (Ann.snd (Ann.unq (Ann.snd (Ann.snd an15))))))))))))))) (kc15_17 n m1) (xb15_18 n m1) rt15
noncomputable def xb15_21 (n : Nat × Nat) (m1 : Nat) : Nat → St → Option R15 := fun j s => bif Nat.beq j 4 then normC [2, 8, 11, 12, 13] s (kq15_19 n m1) else (xb15_18 n m1) j s
noncomputable def F15_22 (n : Nat × Nat) (m1 : Nat) : (St → Option R15) → St → Option R15 := fun K s => run (E15 n) (cA (cA (cB (cA (cB (cB (cA (cB (cA (cA (cA (cB (cB (cB (cB (cB (cB c15))))))))))))))))) (Ann.fst (Ann.fst (Ann.snd (Ann.fst (Ann.snd (Ann.snd (Ann.fst (Ann.snd (Ann.fst (Ann.fst (Ann.fst (Ann.snd (Ann.snd (Ann.snd (Ann.snd (Ann.unq (Ann.snd (Ann.snd an15)))))))))))))))))) (fun s => normC [2, 8, 11, 12, 13, 72, 73, 74] s K) (xb15_21 n m1) rt15 s
noncomputable def kq15_23 (n : Nat × Nat) : St → Option R15 := run (E15 n) (cB (cB (cB (cB (cB (cB (cB (cB (cB c15))))))))) (Ann.snd (Ann.snd (Ann.snd (Ann.snd (Ann.snd (Ann.snd (Ann.snd (Ann.unq (Ann.snd (Ann.snd an15)))))))))) rt15 (fun _ _ => none) rt15
noncomputable def xb15_25 (n : Nat × Nat) : Nat → St → Option R15 := fun j s => bif Nat.beq j 6 then normC [16] s (kq15_23 n) else (fun _ _ => none) j s
noncomputable def F15_26 (n : Nat × Nat) : (St → Option R15) → St → Option R15 := fun K s => run (E15 n) (cA (cA (cB (cA (cB (cB (cB (cB (cB (cB (cB (cB c15)))))))))))) (Ann.fst (Ann.fst (Ann.snd (Ann.fst (Ann.snd (Ann.snd (Ann.snd (Ann.snd (Ann.snd (Ann.snd (Ann.unq (Ann.snd (Ann.snd an15))))))))))))) (fun s => normC [2, 8, 11, 16, 17] s K) (xb15_25 n) rt15 s
noncomputable def kq15_29 (n : Nat × Nat) (m1 m2 : Nat) : St → Option R15 := run (E15 n) (cB (cB (cB (cA (cA (cB (cA (cB (cB (cA (cB (cA (cA (cA (cB (cB (cB (cB (cB (cB c15)))))))))))))))))))) (Ann.snd (Ann.snd (Ann.snd (Ann.fst (Ann.fst (Ann.snd (Ann.fst (Ann.snd (Ann.snd (Ann.fst (Ann.snd (Ann.fst (Ann.fst (Ann.fst (Ann.snd (Ann.snd (Ann.snd (Ann.snd (Ann.unq (Ann.snd (Ann.snd an15))))))))))))))))))))) (fun s => normC [2, 8, 11, 12, 13, 72, 73, 74] s (loopN (F15_22 n m1) m2)) (xb15_21 n m1) rt15
noncomputable def L15_1 (n : Nat × Nat) (m : Nat) (word2 : Int) (w8_0 : Int) (w8_1 : Int) (w8_2 : Int) (w8_3 : Int) (w8_4 : Int) (w8_5 : Int) (w8_6 : Int) (w8_7 : Int) (near11 : List Int) : Option R15 := loopN (F15_14 n) m { tm := [uu, uu, .c (.int .i64 word2), uu, uu, uu, uu, uu, .iptr [.int .i64 w8_0, .int .u64 w8_1, .int .u64 w8_2, .int .u64 w8_3, .int .u64 w8_4, .int .u64 w8_5, .int .u64 w8_6, .int .u64 w8_7], uu, uu, .own 11 none false, uu, uu, uu, uu, uu, uu, uu, uu, uu, uu, uu, uu, uu, uu, uu, uu, uu, uu, uu, uu, uu, uu, uu, uu, uu, uu, uu, uu, uu, uu, uu, uu, uu, uu, uu, uu, uu, uu, uu, uu, uu, uu, uu, uu, uu, uu, uu, uu, uu, uu, uu, uu, uu, uu, uu, uu, uu, uu, uu, uu, uu, uu, uu, uu, uu, uu, uu, uu, uu, uu, uu, uu, uu, uu, uu, uu, uu, uu, uu, uu, uu, uu, uu, uu, uu, uu, uu, uu, uu, uu, uu, uu, uu, uu, uu, uu, uu, uu, uu, uu, uu, uu, uu, uu, uu, uu, uu], hp := (upd emp 11 (.arr (.int .u64) near11 false)) }
noncomputable def L15_2 (n : Nat × Nat) (m1 : Nat) (m : Nat) (word2 : Int) (w8_0 : Int) (w8_1 : Int) (w8_2 : Int) (w8_3 : Int) (w8_4 : Int) (w8_5 : Int) (w8_6 : Int) (w8_7 : Int) (now12 : Int) (wide13 : Int) (v72 : List Int) (v73 : Int) (v74 : Int) (near11 : List Int) : Option R15 := loopN (F15_22 n m1) m { tm := [uu, uu, .c (.int .i64 word2), uu, uu, uu, uu, uu, .iptr [.int .i64 w8_0, .int .u64 w8_1, .int .u64 w8_2, .int .u64 w8_3, .int .u64 w8_4, .int .u64 w8_5, .int .u64 w8_6, .int .u64 w8_7], uu, uu, .own 11 none false, .c (.int .u64 now12), .c (.int .u64 wide13), uu, uu, uu, uu, uu, uu, uu, uu, uu, uu, uu, uu, uu, uu, uu, uu, uu, uu, uu, uu, uu, uu, uu, uu, uu, uu, uu, uu, uu, uu, uu, uu, uu, uu, uu, uu, uu, uu, uu, uu, uu, uu, uu, uu, uu, uu, uu, uu, uu, uu, uu, uu, uu, uu, uu, uu, uu, uu, .c (.sl (.int .u64) v72 false), .c (.int .i64 v73), .c (.int .i64 v74), uu, uu, uu, uu, uu, uu, uu, uu, uu, uu, uu, uu, uu, uu, uu, uu, uu, uu, uu, uu, uu, uu, uu, uu, uu, uu, uu, uu, uu, uu, uu, uu, uu, uu, uu, uu, uu, uu, uu, uu, uu, uu, uu, uu], hp := (upd emp 11 (.arr (.int .u64) near11 false)) }
noncomputable def L15_3 (n : Nat × Nat) (m : Nat) (word2 : Int) (w8_0 : Int) (w8_1 : Int) (w8_2 : Int) (w8_3 : Int) (w8_4 : Int) (w8_5 : Int) (w8_6 : Int) (w8_7 : Int) (i17 : Int) (near11 : List Int) (out16 : List Int) : Option R15 := loopN (F15_26 n) m { tm := [uu, uu, .c (.int .i64 word2), uu, uu, uu, uu, uu, .iptr [.int .i64 w8_0, .int .u64 w8_1, .int .u64 w8_2, .int .u64 w8_3, .int .u64 w8_4, .int .u64 w8_5, .int .u64 w8_6, .int .u64 w8_7], uu, uu, .own 11 none false, uu, uu, uu, uu, .own 16 none false, .c (.int .i64 i17), uu, uu, uu, uu, uu, uu, uu, uu, uu, uu, uu, uu, uu, uu, uu, uu, uu, uu, uu, uu, uu, uu, uu, uu, uu, uu, uu, uu, uu, uu, uu, uu, uu, uu, uu, uu, uu, uu, uu, uu, uu, uu, uu, uu, uu, uu, uu, uu, uu, uu, uu, uu, uu, uu, uu, uu, uu, uu, uu, uu, uu, uu, uu, uu, uu, uu, uu, uu, uu, uu, uu, uu, uu, uu, uu, uu, uu, uu, uu, uu, uu, uu, uu, uu, uu, uu, uu, uu, uu, uu, uu, uu, uu, uu, uu, uu, uu, uu, uu, uu, uu], hp := (upd (upd emp 16 (.arr (.int .i64) out16 false)) 11 (.arr (.int .u64) near11 false)) }
noncomputable def L15_4 (n : Nat × Nat) (m1 m2 : Nat) (word2 : Int) (w8_0 : Int) (w8_1 : Int) (w8_2 : Int) (w8_3 : Int) (w8_4 : Int) (w8_5 : Int) (w8_6 : Int) (w8_7 : Int) (now12 : Int) (wide13 : Int) (v72 : List Int) (v73 : Int) (v74 : Int) (near11 : List Int) : Option R15 := loopN (fun _ => (kq15_29 n m1 m2)) n.2 { tm := [uu, uu, .c (.int .i64 word2), uu, uu, uu, uu, uu, .iptr [.int .i64 w8_0, .int .u64 w8_1, .int .u64 w8_2, .int .u64 w8_3, .int .u64 w8_4, .int .u64 w8_5, .int .u64 w8_6, .int .u64 w8_7], uu, uu, .own 11 none false, .c (.int .u64 now12), .c (.int .u64 wide13), uu, uu, uu, uu, uu, uu, uu, uu, uu, uu, uu, uu, uu, uu, uu, uu, uu, uu, uu, uu, uu, uu, uu, uu, uu, uu, uu, uu, uu, uu, uu, uu, uu, uu, uu, uu, uu, uu, uu, uu, uu, uu, uu, uu, uu, uu, uu, uu, uu, uu, uu, uu, uu, uu, uu, uu, uu, uu, .c (.sl (.int .u64) v72 false), .c (.int .i64 v73), .c (.int .i64 v74), uu, uu, uu, uu, uu, uu, uu, uu, uu, uu, uu, uu, uu, uu, uu, uu, uu, uu, uu, uu, uu, uu, uu, uu, uu, uu, uu, uu, uu, uu, uu, uu, uu, uu, uu, uu, uu, uu, uu, uu, uu, uu, uu, uu], hp := (upd emp 11 (.arr (.int .u64) near11 false)) }
theorem L15_1_eq (n : Nat × Nat) (m1 : Nat) (word2 : Int) (w8_0 : Int) (w8_1 : Int) (w8_2 : Int) (w8_3 : Int) (w8_4 : Int) (w8_5 : Int) (w8_6 : Int) (w8_7 : Int) (near11 : List Int) : L15_1 n (m1 + 1) word2 w8_0 w8_1 w8_2 w8_3 w8_4 w8_5 w8_6 w8_7 near11 =
 (bif inB (wr .i64 ((near11.length : Int) - 1)) near11.length then (idx near11 (wr .i64 ((near11.length : Int) - 1))).bind fun x4' =>
 (bif decide (word2 < 0) then none
 else (bif ((wr .u64 (BitVec.ofInt (IntKind.bits .u64) (Int.fdiv x4' (2 ^ (min (Int.toNat word2) (IntKind.bits .u64)))) &&& BitVec.ofInt (IntKind.bits .u64) 1).toNat) == 0) then (bif inB (wr .i64 ((near11.length : Int) - 1)) near11.length then (idx near11 (wr .i64 ((near11.length : Int) - 1))).bind fun x5' =>
 (bif bounds none (some w8_0) none 7 then L15_2 n m1 n.1 word2 w8_0 w8_1 w8_2 w8_3 w8_4 w8_5 w8_6 w8_7 x5' x5' ([w8_1, w8_2, w8_3, w8_4, w8_5, w8_6, w8_7].take (Int.toNat w8_0)) (([w8_1, w8_2, w8_3, w8_4, w8_5, w8_6, w8_7].take (Int.toNat w8_0)).length : Int) 0 near11
 else none)
 else none)
 else L15_3 n n.1 word2 w8_0 w8_1 w8_2 w8_3 w8_4 w8_5 w8_6 w8_7 (wr .i64 ((near11.length : Int) - 2)) near11 [word2]))
 else none) := by kernel_rfl
theorem L15_2_eq (n : Nat × Nat) (m1 m2 : Nat) (word2 : Int) (w8_0 : Int) (w8_1 : Int) (w8_2 : Int) (w8_3 : Int) (w8_4 : Int) (w8_5 : Int) (w8_6 : Int) (w8_7 : Int) (now12 : Int) (wide13 : Int) (v72 : List Int) (v73 : Int) (v74 : Int) (near11 : List Int) : L15_2 n m1 (m2 + 1) word2 w8_0 w8_1 w8_2 w8_3 w8_4 w8_5 w8_6 w8_7 now12 wide13 v72 v73 v74 near11 =
 (bif decide (v74 < v73) then (idx v72 v74).bind fun x6' =>
 (bif ((wr .u64 (BitVec.ofInt (IntKind.bits .u64) x6' &&& BitVec.ofInt (IntKind.bits .u64) now12).toNat) != 0) then (bif decide (v74 < 0) then none
 else L15_4 n m1 m2 word2 w8_0 w8_1 w8_2 w8_3 w8_4 w8_5 w8_6 w8_7 now12 (wr .u64 (BitVec.ofInt (IntKind.bits .u64) wide13 ||| BitVec.ofInt (IntKind.bits .u64) (wr .u64 (1 * 2 ^ (min (Int.toNat v74) (IntKind.bits .u64))))).toNat) v72 v73 v74 near11)
 else L15_4 n m1 m2 word2 w8_0 w8_1 w8_2 w8_3 w8_4 w8_5 w8_6 w8_7 now12 wide13 v72 v73 v74 near11)
 else (bif (wide13 == now12) then some ([], 12)
 else (bif decide (near11.length + [wide13].length ≤ lim) then L15_1 n m1 word2 w8_0 w8_1 w8_2 w8_3 w8_4 w8_5 w8_6 w8_7 (near11 ++ [wide13])
 else none))) := by kernel_rfl
theorem L15_3_eq (n : Nat × Nat) (m1 : Nat) (word2 : Int) (w8_0 : Int) (w8_1 : Int) (w8_2 : Int) (w8_3 : Int) (w8_4 : Int) (w8_5 : Int) (w8_6 : Int) (w8_7 : Int) (i17 : Int) (near11 : List Int) (out16 : List Int) : L15_3 n (m1 + 1) word2 w8_0 w8_1 w8_2 w8_3 w8_4 w8_5 w8_6 w8_7 i17 near11 out16 =
 (bif decide (i17 ≥ 0) then (idx ([w8_1, w8_2, w8_3, w8_4, w8_5, w8_6, w8_7] : List Int) word2).bind fun x7' =>
 (bif inB i17 near11.length then (idx near11 i17).bind fun x8' =>
 (S41 n (wr .u64 (BitVec.ofInt (IntKind.bits .u64) x7' &&& BitVec.ofInt (IntKind.bits .u64) x8').toNat)).bind fun r9' =>
 (bif decide (out16.length + [r9'].length ≤ lim) then L15_3 n m1 r9' w8_0 w8_1 w8_2 w8_3 w8_4 w8_5 w8_6 w8_7 (wr .i64 (i17 - 1)) near11 (out16 ++ [r9'])
 else none)
 else none)
 else some (out16, 0)) := by kernel_rfl
theorem L15_4_raw (n : Nat × Nat) (m1 m2 : Nat) (word2 : Int) (w8_0 : Int) (w8_1 : Int) (w8_2 : Int) (w8_3 : Int) (w8_4 : Int) (w8_5 : Int) (w8_6 : Int) (w8_7 : Int) (now12 : Int) (wide13 : Int) (v72 : List Int) (v73 : Int) (v74 : Int) (near11 : List Int) : (kq15_29 n m1 m2) { tm := [uu, uu, .c (.int .i64 word2), uu, uu, uu, uu, uu, .iptr [.int .i64 w8_0, .int .u64 w8_1, .int .u64 w8_2, .int .u64 w8_3, .int .u64 w8_4, .int .u64 w8_5, .int .u64 w8_6, .int .u64 w8_7], uu, uu, .own 11 none false, .c (.int .u64 now12), .c (.int .u64 wide13), uu, uu, uu, uu, uu, uu, uu, uu, uu, uu, uu, uu, uu, uu, uu, uu, uu, uu, uu, uu, uu, uu, uu, uu, uu, uu, uu, uu, uu, uu, uu, uu, uu, uu, uu, uu, uu, uu, uu, uu, uu, uu, uu, uu, uu, uu, uu, uu, uu, uu, uu, uu, uu, uu, uu, uu, uu, uu, .c (.sl (.int .u64) v72 false), .c (.int .i64 v73), .c (.int .i64 v74), uu, uu, uu, uu, uu, uu, uu, uu, uu, uu, uu, uu, uu, uu, uu, uu, uu, uu, uu, uu, uu, uu, uu, uu, uu, uu, uu, uu, uu, uu, uu, uu, uu, uu, uu, uu, uu, uu, uu, uu, uu, uu, uu, uu], hp := (upd emp 11 (.arr (.int .u64) near11 false)) } =
    L15_2 n m1 m2 word2 w8_0 w8_1 w8_2 w8_3 w8_4 w8_5 w8_6 w8_7 now12 wide13 v72 v73 (wr .i64 (v74 + 1)) near11 := by kernel_rfl
noncomputable def S15 (n : Nat × Nat) (b0 : Int × List (Int × Int)) (articles1 : List Int) (word2 : Int) : Option R15 := run (E15 n) c15 an15 rt15 (fun _ _ => none) rt15 { tm := [.agg [.int .i64 b0.1, .sl (.pair (.int .i64) (.int .i64)) b0.2 false], .c (.sl (.int .i64) articles1 false), .c (.int .i64 word2), uu, uu, uu, uu, uu, uu, uu, uu, uu, uu, uu, uu, uu, uu, uu, uu, uu, uu, uu, uu, uu, uu, uu, uu, uu, uu, uu, uu, uu, uu, uu, uu, uu, uu, uu, uu, uu, uu, uu, uu, uu, uu, uu, uu, uu, uu, uu, uu, uu, uu, uu, uu, uu, uu, uu, uu, uu, uu, uu, uu, uu, uu, uu, uu, uu, uu, uu, uu, uu, uu, uu, uu, uu, uu, uu, uu, uu, uu, uu, uu, uu, uu, uu, uu, uu, uu, uu, uu, uu, uu, uu, uu, uu, uu, uu, uu, uu, uu, uu, uu, uu, uu, uu, uu, uu, uu, uu, uu, uu, uu, uu, uu, uu, uu, uu, uu], hp := emp }
theorem S15_eq (n : Nat × Nat) (b0 : Int × List (Int × Int)) (articles1 : List Int) (word2 : Int) : S15 n b0 articles1 word2 =
 (S33 n b0).bind fun r1' =>
 (bif (r1'.2 != 0) then some ([], r1'.2)
 else (bif ((articles1.length : Int) == 0) then some ([], 4)
 else (S43 n r1'.1 articles1).bind fun r2' =>
 (bif (r2'.2 != 0) then some ([], r2'.2)
 else ((bif (decide (word2 < 0) == false) then some (decide (word2 ≥ r1'.1.1))
 else some true)).bind fun b3' =>
 (bif b3' then some ([], 2)
 else L15_1 n n.1 word2 r1'.1.1 r1'.1.2.1 r1'.1.2.2.1 r1'.1.2.2.2.1 r1'.1.2.2.2.2.1 r1'.1.2.2.2.2.2.1 r1'.1.2.2.2.2.2.2.1 r1'.1.2.2.2.2.2.2.2 [r2'.1])))) := by kernel_rfl
theorem S15_run (n : Nat × Nat) (xs : pksDen pk15) : S15 n xs.1 xs.2.1 xs.2.2.1 = runG (E15 n) noScope c15 an15 (rtG rk15) (fun _ _ => none) (rtG rk15) (st0 pk15 xs Tryd.f15.ntmps) := by kernel_rfl
noncomputable def P15 (n : Nat × Nat) := phiOf pk15 rk15 (fun xs => S15 n xs.1 xs.2.1 xs.2.2.1)
theorem call15 : CallOK Tryd.prog 15 := callOK_of Tryd.func15 (by kernel_rfl) (by kernel_rfl)
theorem env15 (n : Nat × Nat) : EnvOK Tryd.prog (E15 n) := envOK0 (consPhi_ok (FC33 n) call33 (consPhi_ok (FC41 n) call41 (consPhi_ok (FC43 n) call43 noPhi_ok))) rfl rfl
theorem par15 (n : Nat × Nat) : EnvPar (E15 n) := envPar0 (consPhi_par phiOf_Par1 (consPhi_par phiOf_Par1 (consPhi_par phiOf_Par1 noPhi_par))) rfl
theorem FC15 (n : Nat × Nat) : FCs Tryd.prog 15 (P15 n) := phiOf_FCs fun xs r h vs hv => FC.of_runG tabOK eqsOK (env15 n) (par15 n) mixed (fun _ p _ => noScope_ok p.1 p.2) Tryd.func15 (c := c15) (an := an15) (pks := pk15) (rks := rk15) (by kernel_rfl) (by kernel_rfl) hv ((S15_run n xs).symm.trans h)
/- math/bits.Mul64 -/
abbrev R104 := Int × Int
noncomputable def c104 : Code := bodyOf Tryd.f104
noncomputable def an104 : Ann := .l
def pk104 : List PK := [.c (.int .u64), .c (.int .u64)]
def rk104 : List RK := [.c (.int .u64) 4, .c (.int .u64) 5]
noncomputable def rt104 (st : St) : Option R104 := rtG rk104 st
noncomputable def E104 (n : Nat × Nat) : Env := { T := tab, phi := noPhi, eff := fun _ => false, fuel := n.1, hold := n.2 }
noncomputable def S104 (n : Nat × Nat) (x0 : Int) (y1 : Int) : Option R104 := run (E104 n) c104 an104 rt104 (fun _ _ => none) rt104 { tm := [.c (.int .u64 x0), .c (.int .u64 y1), uu, uu, uu, uu, uu, uu, uu, uu, uu, uu, uu, uu, uu, uu, uu, uu, uu, uu, uu, uu, uu, uu, uu, uu, uu, uu, uu, uu, uu, uu, uu, uu, uu, uu, uu, uu, uu, uu, uu, uu, uu, uu, uu, uu, uu, uu, uu, uu, uu], hp := emp }
theorem S104_eq (n : Nat × Nat) (x0 : Int) (y1 : Int) : S104 n x0 y1 =
 (bif decide (32 < 0) then none
 else (bif decide (32 < 0) then none
 else (bif decide (32 < 0) then none
 else (bif decide (32 < 0) then none
 else (bif decide (32 < 0) then none
 else some (wr .u64 ((wr .u64 ((wr .u64 ((Int.fdiv x0 (2 ^ (min (Int.toNat 32) (IntKind.bits .u64)))) * (Int.fdiv y1 (2 ^ (min (Int.toNat 32) (IntKind.bits .u64)))))) + (Int.fdiv (wr .u64 ((wr .u64 ((Int.fdiv x0 (2 ^ (min (Int.toNat 32) (IntKind.bits .u64)))) * (wr .u64 (BitVec.ofInt (IntKind.bits .u64) y1 &&& BitVec.ofInt (IntKind.bits .u64) 4294967295).toNat))) + (Int.fdiv (wr .u64 ((wr .u64 (BitVec.ofInt (IntKind.bits .u64) x0 &&& BitVec.ofInt (IntKind.bits .u64) 4294967295).toNat) * (wr .u64 (BitVec.ofInt (IntKind.bits .u64) y1 &&& BitVec.ofInt (IntKind.bits .u64) 4294967295).toNat))) (2 ^ (min (Int.toNat 32) (IntKind.bits .u64)))))) (2 ^ (min (Int.toNat 32) (IntKind.bits .u64)))))) + (Int.fdiv (wr .u64 ((wr .u64 (BitVec.ofInt (IntKind.bits .u64) (wr .u64 ((wr .u64 ((Int.fdiv x0 (2 ^ (min (Int.toNat 32) (IntKind.bits .u64)))) * (wr .u64 (BitVec.ofInt (IntKind.bits .u64) y1 &&& BitVec.ofInt (IntKind.bits .u64) 4294967295).toNat))) + (Int.fdiv (wr .u64 ((wr .u64 (BitVec.ofInt (IntKind.bits .u64) x0 &&& BitVec.ofInt (IntKind.bits .u64) 4294967295).toNat) * (wr .u64 (BitVec.ofInt (IntKind.bits .u64) y1 &&& BitVec.ofInt (IntKind.bits .u64) 4294967295).toNat))) (2 ^ (min (Int.toNat 32) (IntKind.bits .u64)))))) &&& BitVec.ofInt (IntKind.bits .u64) 4294967295).toNat) + (wr .u64 ((wr .u64 (BitVec.ofInt (IntKind.bits .u64) x0 &&& BitVec.ofInt (IntKind.bits .u64) 4294967295).toNat) * (Int.fdiv y1 (2 ^ (min (Int.toNat 32) (IntKind.bits .u64)))))))) (2 ^ (min (Int.toNat 32) (IntKind.bits .u64))))), wr .u64 (x0 * y1))))))) := by kernel_rfl
theorem S104_run (n : Nat × Nat) (xs : pksDen pk104) : S104 n xs.1 xs.2.1 = runG (E104 n) noScope c104 an104 (rtG rk104) (fun _ _ => none) (rtG rk104) (st0 pk104 xs Tryd.f104.ntmps) := by kernel_rfl
noncomputable def P104 (n : Nat × Nat) := phiOf pk104 rk104 (fun xs => S104 n xs.1 xs.2.1)
theorem call104 : CallOK Tryd.prog 104 := callOK_of Tryd.func104 (by kernel_rfl) (by kernel_rfl)
theorem env104 (n : Nat × Nat) : EnvOK Tryd.prog (E104 n) := envOK0 noPhi_ok rfl rfl
theorem par104 (n : Nat × Nat) : EnvPar (E104 n) := envPar0 noPhi_par rfl
theorem FC104 (n : Nat × Nat) : FCs Tryd.prog 104 (P104 n) := phiOf_FCs fun xs r h vs hv => FC.of_runG tabOK eqsOK (env104 n) (par104 n) mixed (fun _ p _ => noScope_ok p.1 p.2) Tryd.func104 (c := c104) (an := an104) (pks := pk104) (rks := rk104) (by kernel_rfl) (by kernel_rfl) hv ((S104_run n xs).symm.trans h)
/- math/bits.Mul -/
abbrev R71 := Int × Int
noncomputable def c71 : Code := bodyOf Tryd.f71
noncomputable def an71 : Ann := (.s .l (.s (.j [0, 1] .l .l) .l))
def pk71 : List PK := [.c (.int .u64), .c (.int .u64)]
def rk71 : List RK := [.c (.int .u64) 4, .c (.int .u64) 5]
noncomputable def rt71 (st : St) : Option R71 := rtG rk71 st
noncomputable def E71 (n : Nat × Nat) : Env := { T := tab, phi := (consPhi 104 (fun _ => true) (P104 n) noPhi), eff := fun _ => false, fuel := n.1, hold := n.2 }
noncomputable def S71 (n : Nat × Nat) (x0 : Int) (y1 : Int) : Option R71 := run (E71 n) c71 an71 rt71 (fun _ _ => none) rt71 { tm := [.c (.int .u64 x0), .c (.int .u64 y1), uu, uu, uu, uu, uu, uu, uu, uu, uu, uu, uu, uu, uu, uu, uu, uu, uu, uu, uu, uu, uu, uu, uu, uu, uu, uu, uu, uu], hp := emp }
theorem S71_eq (n : Nat × Nat) (x0 : Int) (y1 : Int) : S71 n x0 y1 =
 (S104 n x0 y1).bind fun r1' =>
 some (r1'.1, r1'.2) := by kernel_rfl
theorem S71_run (n : Nat × Nat) (xs : pksDen pk71) : S71 n xs.1 xs.2.1 = runG (E71 n) noScope c71 an71 (rtG rk71) (fun _ _ => none) (rtG rk71) (st0 pk71 xs Tryd.f71.ntmps) := by kernel_rfl
noncomputable def P71 (n : Nat × Nat) := phiOf pk71 rk71 (fun xs => S71 n xs.1 xs.2.1)
theorem call71 : CallOK Tryd.prog 71 := callOK_of Tryd.func71 (by kernel_rfl) (by kernel_rfl)
theorem env71 (n : Nat × Nat) : EnvOK Tryd.prog (E71 n) := envOK0 (consPhi_ok (FC104 n) call104 noPhi_ok) rfl rfl
theorem par71 (n : Nat × Nat) : EnvPar (E71 n) := envPar0 (consPhi_par phiOf_Par1 noPhi_par) rfl
theorem FC71 (n : Nat × Nat) : FCs Tryd.prog 71 (P71 n) := phiOf_FCs fun xs r h vs hv => FC.of_runG tabOK eqsOK (env71 n) (par71 n) mixed (fun _ p _ => noScope_ok p.1 p.2) Tryd.func71 (c := c71) (an := an71) (pks := pk71) (rks := rk71) (by kernel_rfl) (by kernel_rfl) hv ((S71_run n xs).symm.trans h)
/- slices.Repeat[[]int,int] -/
abbrev R40 := List Int
noncomputable def c40 : Code := bodyOf Tryd.f40
noncomputable def an40 : Ann := (.s .l (.s (.s .l (.j [0, 1, 24, 25] .l .l)) (.s .l (.s (.s .l (.j [0, 6] .l .l)) (.s .l (.s .l (.s (.j [7] (.j [7, 8] (.s (.s .l (.j [7, 8] .l .l)) (.j [7, 8] .l .l)) .l) .l) .l)))))))
def pk40 : List PK := [.c (.sl (.int .i64)), .c (.int .i64)]
def rk40 : List RK := [.own (.int .i64) 4]
noncomputable def rt40 (st : St) : Option R40 := rtG rk40 st
noncomputable def E40 (n : Nat × Nat) : Env := { T := tab, phi := (consPhi 71 (fun _ => true) (P71 n) noPhi), eff := fun _ => false, fuel := n.1, hold := n.2 }
noncomputable def kq40_5 (n : Nat × Nat) : St → Option R40 := run (E40 n) (cB (cB (cB (cB (cB (cB (cB c40))))))) (Ann.snd (Ann.snd (Ann.snd (Ann.snd (Ann.snd (Ann.snd (Ann.snd an40))))))) rt40 (fun _ _ => none) rt40
noncomputable def xb40_7 (n : Nat × Nat) : Nat → St → Option R40 := fun j s => bif Nat.beq j 0 then normC [7] s (kq40_5 n) else (fun _ _ => none) j s
noncomputable def F40_8 (n : Nat × Nat) : (St → Option R40) → St → Option R40 := fun K s => run (E40 n) (cA (cA (cA (cB (cB (cB (cB (cB (cB c40))))))))) (Ann.fst (Ann.fst (Ann.fst (Ann.snd (Ann.snd (Ann.snd (Ann.snd (Ann.snd (Ann.snd an40))))))))) (fun s => normC [7, 8] s K) (xb40_7 n) rt40 s
noncomputable def L40_1 (n : Nat × Nat) (m : Nat) (v8 : Int) (newslice7 : List Int) : Option R40 := loopN (F40_8 n) m { tm := [uu, uu, uu, uu, uu, uu, uu, .own 7 none false, .c (.int .i64 v8), uu, uu, uu, uu, uu, uu, uu, uu, uu, uu, uu, uu, uu, uu, uu, uu, uu, uu, uu, uu, uu, uu, uu, uu, uu, uu, uu, uu, uu, uu, uu, uu, uu, uu, uu, uu, uu, uu, uu], hp := (upd emp 7 (.arr (.int .i64) newslice7 false)) }
theorem L40_1_eq (n : Nat × Nat) (m1 : Nat) (v8 : Int) (newslice7 : List Int) : L40_1 n (m1 + 1) v8 newslice7 =
 (bif decide (v8 < (newslice7.length : Int)) then (bif bounds (some v8) none none newslice7.length then (bif bounds none (some v8) none newslice7.length then L40_1 n m1 (wr .i64 (v8 + ((min ((newslice7.drop (0 + 0)).take ((Int.toNat v8) - 0)).length ((newslice7.drop (0 + (Int.toNat v8))).take (newslice7.length - (Int.toNat v8))).length : Nat) : Int))) (newslice7.take (0 + (Int.toNat v8)) ++ ((newslice7.drop (0 + 0)).take ((Int.toNat v8) - 0)).take (min ((newslice7.drop (0 + 0)).take ((Int.toNat v8) - 0)).length ((newslice7.drop (0 + (Int.toNat v8))).take (newslice7.length - (Int.toNat v8))).length) ++ newslice7.drop ((0 + (Int.toNat v8)) + min ((newslice7.drop (0 + 0)).take ((Int.toNat v8) - 0)).length ((newslice7.drop (0 + (Int.toNat v8))).take (newslice7.length - (Int.toNat v8))).length))
 else none)
 else none)
 else some newslice7) := by kernel_rfl
noncomputable def S40 (n : Nat × Nat) (x0 : List Int) (count1 : Int) : Option R40 := run (E40 n) c40 an40 rt40 (fun _ _ => none) rt40 { tm := [.c (.sl (.int .i64) x0 false), .c (.int .i64 count1), uu, uu, uu, uu, uu, uu, uu, uu, uu, uu, uu, uu, uu, uu, uu, uu, uu, uu, uu, uu, uu, uu, uu, uu, uu, uu, uu, uu, uu, uu, uu, uu, uu, uu, uu, uu, uu, uu, uu, uu, uu, uu, uu, uu, uu, uu], hp := emp }
theorem S40_eq (n : Nat × Nat) (x0 : List Int) (count1 : Int) : S40 n x0 count1 =
 (bif decide (count1 < 0) then none
 else (S71 n (wr .u64 (x0.length : Int)) (wr .u64 count1)).bind fun r1' =>
 ((bif (decide (r1'.1 > 0) == false) then some (decide (r1'.2 > 9223372036854775807))
 else some true)).bind fun b2' =>
 (bif b2' then none
 else (bif decide (0 ≤ wr .i64 r1'.2) && decide (wr .i64 r1'.2 ≤ wr .i64 r1'.2) && decide (wr .i64 r1'.2 ≤ lim) then L40_1 n n.1 ((min x0.length (List.replicate (Int.toNat (wr .i64 r1'.2)) (0 : Int)).length : Nat) : Int) ((List.replicate (Int.toNat (wr .i64 r1'.2)) (0 : Int)).take 0 ++ x0.take (min x0.length (List.replicate (Int.toNat (wr .i64 r1'.2)) (0 : Int)).length) ++ (List.replicate (Int.toNat (wr .i64 r1'.2)) (0 : Int)).drop (0 + min x0.length (List.replicate (Int.toNat (wr .i64 r1'.2)) (0 : Int)).length))
 else none))) := by kernel_rfl
theorem S40_run (n : Nat × Nat) (xs : pksDen pk40) : S40 n xs.1 xs.2.1 = runG (E40 n) noScope c40 an40 (rtG rk40) (fun _ _ => none) (rtG rk40) (st0 pk40 xs Tryd.f40.ntmps) := by kernel_rfl
noncomputable def P40 (n : Nat × Nat) := phiOf pk40 rk40 (fun xs => S40 n xs.1 xs.2.1)
theorem call40 : CallOK Tryd.prog 40 := callOK_of Tryd.func40 (by kernel_rfl) (by kernel_rfl)
theorem env40 (n : Nat × Nat) : EnvOK Tryd.prog (E40 n) := envOK0 (consPhi_ok (FC71 n) call71 noPhi_ok) rfl rfl
theorem par40 (n : Nat × Nat) : EnvPar (E40 n) := envPar0 (consPhi_par phiOf_Par1 noPhi_par) rfl
theorem FC40 (n : Nat × Nat) : FCs Tryd.prog 40 (P40 n) := phiOf_FCs fun xs r h vs hv => FC.of_runG tabOK eqsOK (env40 n) (par40 n) mixed (fun _ p _ => noScope_ok p.1 p.2) Tryd.func40 (c := c40) (an := an40) (pks := pk40) (rks := rk40) (by kernel_rfl) (by kernel_rfl) hv ((S40_run n xs).symm.trans h)
/- slices.Index[[]int,int] -/
abbrev R74 := Int
noncomputable def c74 : Code := bodyOf Tryd.f74
noncomputable def an74 : Ann := (.s .l (.s (.s .l (.j [] (.j [0, 1, 7, 8] (.s .l (.s (.j [0, 1, 7, 8] .l .l) (.s (.j [0, 1, 7, 8] (.s .l (.s .l (.j [0, 1, 7, 8] .l .l))) .l) .l))) .l) .l)) .l))
def pk74 : List PK := [.c (.sl (.int .i64)), .c (.int .i64)]
def rk74 : List RK := [.c (.int .i64) 4]
noncomputable def rt74 (st : St) : Option R74 := rtG rk74 st
noncomputable def E74 (n : Nat × Nat) : Env := { T := tab, phi := noPhi, eff := fun _ => false, fuel := n.1, hold := n.2 }
noncomputable def kq74_1 (n : Nat × Nat) : St → Option R74 := run (E74 n) (cB (cB c74)) (Ann.snd (Ann.snd an74)) rt74 (fun _ _ => none) rt74
noncomputable def xb74_3 (n : Nat × Nat) : Nat → St → Option R74 := fun j s => bif Nat.beq j 0 then normC [] s (kq74_1 n) else (fun _ _ => none) j s
noncomputable def F74_4 (n : Nat × Nat) : (St → Option R74) → St → Option R74 := fun K s => run (E74 n) (cA (cA (cB (cA (cB c74))))) (Ann.fst (Ann.fst (Ann.snd (Ann.fst (Ann.snd an74))))) (fun s => normC [0, 1, 7, 8] s K) (xb74_3 n) rt74 s
noncomputable def L74_1 (n : Nat × Nat) (m : Nat) (s0 : List Int) (v1 : Int) (v7 : Int) (v8 : Int) : Option R74 := loopN (F74_4 n) m { tm := [.c (.sl (.int .i64) s0 false), .c (.int .i64 v1), uu, uu, uu, uu, uu, .c (.int .i64 v7), .c (.int .i64 v8), uu, uu, uu, uu, uu, uu, uu, uu, uu, uu], hp := emp }
theorem L74_1_eq (n : Nat × Nat) (m1 : Nat) (s0 : List Int) (v1 : Int) (v7 : Int) (v8 : Int) : L74_1 n (m1 + 1) s0 v1 v7 v8 =
 (bif decide (v8 < v7) then (idx s0 v8).bind fun x1' =>
 (bif (v1 == x1') then some v8
 else L74_1 n m1 s0 v1 v7 (wr .i64 (v8 + 1)))
 else some (-1)) := by kernel_rfl
noncomputable def S74 (n : Nat × Nat) (s0 : List Int) (v1 : Int) : Option R74 := run (E74 n) c74 an74 rt74 (fun _ _ => none) rt74 { tm := [.c (.sl (.int .i64) s0 false), .c (.int .i64 v1), uu, uu, uu, uu, uu, uu, uu, uu, uu, uu, uu, uu, uu, uu, uu, uu, uu], hp := emp }
theorem S74_eq (n : Nat × Nat) (s0 : List Int) (v1 : Int) : S74 n s0 v1 =
    L74_1 n n.1 s0 v1 (s0.length : Int) 0 := by kernel_rfl
theorem S74_run (n : Nat × Nat) (xs : pksDen pk74) : S74 n xs.1 xs.2.1 = runG (E74 n) noScope c74 an74 (rtG rk74) (fun _ _ => none) (rtG rk74) (st0 pk74 xs Tryd.f74.ntmps) := by kernel_rfl
noncomputable def P74 (n : Nat × Nat) := phiOf pk74 rk74 (fun xs => S74 n xs.1 xs.2.1)
theorem call74 : CallOK Tryd.prog 74 := callOK_of Tryd.func74 (by kernel_rfl) (by kernel_rfl)
theorem env74 (n : Nat × Nat) : EnvOK Tryd.prog (E74 n) := envOK0 noPhi_ok rfl rfl
theorem par74 (n : Nat × Nat) : EnvPar (E74 n) := envPar0 noPhi_par rfl
theorem FC74 (n : Nat × Nat) : FCs Tryd.prog 74 (P74 n) := phiOf_FCs fun xs r h vs hv => FC.of_runG tabOK eqsOK (env74 n) (par74 n) mixed (fun _ p _ => noScope_ok p.1 p.2) Tryd.func74 (c := c74) (an := an74) (pks := pk74) (rks := rk74) (by kernel_rfl) (by kernel_rfl) hv ((S74_run n xs).symm.trans h)
/- slices.Contains[[]int,int] -/
abbrev R42 := Bool
noncomputable def c42 : Code := bodyOf Tryd.f42
noncomputable def an42 : Ann := .l
def pk42 : List PK := [.c (.sl (.int .i64)), .c (.int .i64)]
def rk42 : List RK := [.c .bool 4]
noncomputable def rt42 (st : St) : Option R42 := rtG rk42 st
noncomputable def E42 (n : Nat × Nat) : Env := { T := tab, phi := (consPhi 74 (fun _ => true) (P74 n) noPhi), eff := fun _ => false, fuel := n.1, hold := n.2 }
noncomputable def S42 (n : Nat × Nat) (s0 : List Int) (v1 : Int) : Option R42 := run (E42 n) c42 an42 rt42 (fun _ _ => none) rt42 { tm := [.c (.sl (.int .i64) s0 false), .c (.int .i64 v1), uu, uu, uu, uu, uu, uu, uu], hp := emp }
theorem S42_eq (n : Nat × Nat) (s0 : List Int) (v1 : Int) : S42 n s0 v1 =
 (S74 n s0 v1).bind fun r1' =>
 some (decide (r1' ≥ 0)) := by kernel_rfl
theorem S42_run (n : Nat × Nat) (xs : pksDen pk42) : S42 n xs.1 xs.2.1 = runG (E42 n) noScope c42 an42 (rtG rk42) (fun _ _ => none) (rtG rk42) (st0 pk42 xs Tryd.f42.ntmps) := by kernel_rfl
noncomputable def P42 (n : Nat × Nat) := phiOf pk42 rk42 (fun xs => S42 n xs.1 xs.2.1)
theorem call42 : CallOK Tryd.prog 42 := callOK_of Tryd.func42 (by kernel_rfl) (by kernel_rfl)
theorem env42 (n : Nat × Nat) : EnvOK Tryd.prog (E42 n) := envOK0 (consPhi_ok (FC74 n) call74 noPhi_ok) rfl rfl
theorem par42 (n : Nat × Nat) : EnvPar (E42 n) := envPar0 (consPhi_par phiOf_Par1 noPhi_par) rfl
theorem FC42 (n : Nat × Nat) : FCs Tryd.prog 42 (P42 n) := phiOf_FCs fun xs r h vs hv => FC.of_runG tabOK eqsOK (env42 n) (par42 n) mixed (fun _ p _ => noScope_ok p.1 p.2) Tryd.func42 (c := c42) (an := an42) (pks := pk42) (rks := rk42) (by kernel_rfl) (by kernel_rfl) hv ((S42_run n xs).symm.trans h)
abbrev R13 := List Int × Int
noncomputable def c13 : Code := bodyOf Tryd.f13
noncomputable def an13 : Ann := (.s .l (.s .l (.q [(4, 0, 2)] (.s (.s .l (.j [4, 45, 46, 47, 48] .l .l)) (.s .l (.s .l (.s (.s .l (.j [6] (.j [4, 6, 7, 26, 27, 45, 46, 47, 48] (.s .l (.s (.j [4, 6, 7, 26, 27, 45, 46, 47, 48] .l .l) (.s (.j [4, 6, 7, 26, 27, 45, 46, 47, 48] (.s .l (.j [4, 6, 7, 26, 27, 45, 46, 47, 48] (.j [4, 6, 7, 26, 27, 32, 33, 34, 45, 46, 47, 48] (.s .l (.s (.j [4, 6, 7, 26, 27, 32, 33, 34, 45, 46, 47, 48] .l .l) (.j [] (.j [4, 6, 7, 26, 27, 32, 33, 34, 45, 46, 47, 48] (.s .l (.s (.s .l (.j [4, 6, 7, 8, 9, 26, 27, 32, 33, 34, 45, 46, 47, 48] .l .l)) (.s .l (.s (.s .l (.j [4, 6, 7, 8, 10, 26, 27, 32, 33, 34, 45, 46, 47, 48] (.j [4, 6, 7, 8, 10, 26, 27, 32, 33, 34, 45, 46, 47, 48, 51, 52, 53] (.s .l (.s (.j [4, 6, 7, 8, 10, 26, 27, 32, 33, 34, 45, 46, 47, 48, 51, 52, 53] .l .l) (.s (.j [4, 6, 7, 8, 10, 26, 27, 32, 33, 34, 45, 46, 47, 48, 51, 52, 53] .l .l) .l))) .l) .l)) .l)))) .l) .l))) .l) .l)) .l) .l))) .l) .l)) (.s (.s .l (.j [6] .l .l)) .l))))))))
def pk13 : List PK := [.c (.pair (.int .i64) (.sl (.pair (.int .i64) (.int .i64))))]
def rk13 : List RK := [.own (.int .i64) 2, .c (.int .i64) 3]
noncomputable def rt13 (st : St) : Option R13 := rtG rk13 st
noncomputable def E13 (n : Nat × Nat) : Env := { T := tab, phi := (consPhi 33 (fun _ => true) (P33 n) (consPhi 35 (fun _ => true) (P35 n) (consPhi 40 (fun _ => true) (P40 n) (consPhi 41 (fun _ => true) (P41 n) (consPhi 42 (fun _ => true) (P42 n) noPhi))))), eff := fun _ => false, fuel := n.1, hold := n.2 }
noncomputable def kq13_3 (n : Nat × Nat) : St → Option R13 := run (E13 n) (cB (cB (cB (cB (cB (cB c13)))))) (Ann.snd (Ann.snd (Ann.snd (Ann.snd (Ann.unq (Ann.snd (Ann.snd an13))))))) rt13 (fun _ _ => none) rt13
noncomputable def xb13_5 (n : Nat × Nat) : Nat → St → Option R13 := fun j s => bif Nat.beq j 0 then normC [6] s (kq13_3 n) else (fun _ _ => none) j s
noncomputable def F13_6 (n : Nat × Nat) : (St → Option R13) → St → Option R13 := fun K s => run (E13 n) (cA (cA (cB (cA (cB (cB (cB (cB (cB c13))))))))) (Ann.fst (Ann.fst (Ann.snd (Ann.fst (Ann.snd (Ann.snd (Ann.snd (Ann.unq (Ann.snd (Ann.snd an13)))))))))) (fun s => normC [4, 6, 7, 26, 27, 45, 46, 47, 48] s K) (xb13_5 n) rt13 s
noncomputable def kq13_9 (n : Nat × Nat) (m1 : Nat) : St → Option R13 := run (E13 n) (cB (cB (cB (cA (cA (cB (cA (cB (cB (cB (cB (cB c13)))))))))))) (Ann.snd (Ann.snd (Ann.snd (Ann.fst (Ann.fst (Ann.snd (Ann.fst (Ann.snd (Ann.snd (Ann.snd (Ann.unq (Ann.snd (Ann.snd an13))))))))))))) (fun s => normC [4, 6, 7, 26, 27, 45, 46, 47, 48] s (loopN (F13_6 n) m1)) (xb13_5 n) rt13
noncomputable def kc13_10 (n : Nat × Nat) (m1 : Nat) : St → Option R13 := fun s => normC [4, 6, 7, 26, 27, 45, 46, 47, 48] s (kq13_9 n m1)
noncomputable def xb13_11 (n : Nat × Nat) (m1 : Nat) : Nat → St → Option R13 := fun j s => bif Nat.beq j 1 then normC [4, 6, 7, 26, 27, 45, 46, 47, 48] s (kq13_9 n m1) else (xb13_5 n) j s
noncomputable def xb13_13 (n : Nat × Nat) (m1 : Nat) : Nat → St → Option R13 := fun j s => bif Nat.beq j 2 then normC [4, 6, 7, 26, 27, 45, 46, 47, 48] s (kc13_10 n m1) else (xb13_11 n m1) j s
noncomputable def F13_14 (n : Nat × Nat) (m1 : Nat) : (St → Option R13) → St → Option R13 := fun K s => run (E13 n) (cA (cA (cB (cA (cA (cB (cB (cA (cA (cB (cA (cB (cB (cB (cB (cB c13)))))))))))))))) (Ann.fst (Ann.fst (Ann.snd (Ann.fst (Ann.fst (Ann.snd (Ann.snd (Ann.fst (Ann.fst (Ann.snd (Ann.fst (Ann.snd (Ann.snd (Ann.snd (Ann.unq (Ann.snd (Ann.snd an13))))))))))))))))) (fun s => normC [4, 6, 7, 26, 27, 32, 33, 34, 45, 46, 47, 48] s K) (xb13_13 n m1) rt13 s
noncomputable def kq13_19 (n : Nat × Nat) (m1 m2 : Nat) : St → Option R13 := run (E13 n) (cB (cB (cB (cA (cA (cB (cA (cA (cB (cB (cA (cA (cB (cA (cB (cB (cB (cB (cB c13))))))))))))))))))) (Ann.snd (Ann.snd (Ann.snd (Ann.fst (Ann.fst (Ann.snd (Ann.fst (Ann.fst (Ann.snd (Ann.snd (Ann.fst (Ann.fst (Ann.snd (Ann.fst (Ann.snd (Ann.snd (Ann.snd (Ann.unq (Ann.snd (Ann.snd an13)))))))))))))))))))) (fun s => normC [4, 6, 7, 26, 27, 32, 33, 34, 45, 46, 47, 48] s (loopN (F13_14 n m1) m2)) (xb13_13 n m1) rt13
noncomputable def kc13_20 (n : Nat × Nat) (m1 m2 : Nat) : St → Option R13 := fun s => normC [4, 6, 7, 26, 27, 32, 33, 34, 45, 46, 47, 48] s (loopN (fun _ => (kq13_19 n m1 m2)) n.2)
noncomputable def xb13_21 (n : Nat × Nat) (m1 m2 : Nat) : Nat → St → Option R13 := fun j s => bif Nat.beq j 3 then normC [4, 6, 7, 26, 27, 32, 33, 34, 45, 46, 47, 48] s (loopN (fun _ => (kq13_19 n m1 m2)) n.2) else (xb13_13 n m1) j s
noncomputable def kq13_24 (n : Nat × Nat) (m1 m2 : Nat) : St → Option R13 := run (E13 n) (cB (cB (cB (cB (cA (cA (cB (cB (cA (cA (cB (cA (cA (cB (cB (cA (cA (cB (cA (cB (cB (cB (cB (cB c13)))))))))))))))))))))))) (Ann.snd (Ann.snd (Ann.snd (Ann.snd (Ann.fst (Ann.fst (Ann.snd (Ann.snd (Ann.fst (Ann.fst (Ann.snd (Ann.fst (Ann.fst (Ann.snd (Ann.snd (Ann.fst (Ann.fst (Ann.snd (Ann.fst (Ann.snd (Ann.snd (Ann.snd (Ann.unq (Ann.snd (Ann.snd an13))))))))))))))))))))))))) (kc13_20 n m1 m2) (xb13_21 n m1 m2) rt13
noncomputable def xb13_26 (n : Nat × Nat) (m1 m2 : Nat) : Nat → St → Option R13 := fun j s => bif Nat.beq j 4 then normC [4, 6, 7, 8, 10, 26, 27, 32, 33, 34, 45, 46, 47, 48] s (kq13_24 n m1 m2) else (xb13_21 n m1 m2) j s
noncomputable def F13_27 (n : Nat × Nat) (m1 m2 : Nat) : (St → Option R13) → St → Option R13 := fun K s => run (E13 n) (cA (cA (cB (cA (cB (cB (cB (cA (cA (cB (cB (cA (cA (cB (cA (cA (cB (cB (cA (cA (cB (cA (cB (cB (cB (cB (cB c13))))))))))))))))))))))))))) (Ann.fst (Ann.fst (Ann.snd (Ann.fst (Ann.snd (Ann.snd (Ann.snd (Ann.fst (Ann.fst (Ann.snd (Ann.snd (Ann.fst (Ann.fst (Ann.snd (Ann.fst (Ann.fst (Ann.snd (Ann.snd (Ann.fst (Ann.fst (Ann.snd (Ann.fst (Ann.snd (Ann.snd (Ann.snd (Ann.unq (Ann.snd (Ann.snd an13)))))))))))))))))))))))))))) (fun s => normC [4, 6, 7, 8, 10, 26, 27, 32, 33, 34, 45, 46, 47, 48, 51, 52, 53] s K) (xb13_26 n m1 m2) rt13 s
noncomputable def L13_1 (n : Nat × Nat) (m : Nat) (w4_0 : Int) (w4_1 : Int) (w4_2 : Int) (w4_3 : Int) (w4_4 : Int) (w4_5 : Int) (w4_6 : Int) (w4_7 : Int) (known7 : Int) (v26 : Int) (v27 : Int) (out6 : List Int) : Option R13 := loopN (F13_6 n) m { tm := [uu, uu, uu, uu, .iptr [.int .i64 w4_0, .int .u64 w4_1, .int .u64 w4_2, .int .u64 w4_3, .int .u64 w4_4, .int .u64 w4_5, .int .u64 w4_6, .int .u64 w4_7], uu, .own 6 none false, .c (.int .u64 known7), uu, uu, uu, uu, uu, uu, uu, uu, uu, uu, uu, uu, uu, uu, uu, uu, uu, uu, .c (.int .i64 v26), .c (.int .i64 v27), uu, uu, uu, uu, uu, uu, uu, uu, uu, uu, uu, uu, uu, uu, uu, uu, uu, uu, uu, uu, uu, uu, uu, uu, uu, uu, uu, uu, uu, uu, uu, uu, uu, uu, uu, uu, uu, uu, uu, uu, uu, uu, uu, uu, uu, uu, uu, uu, uu, uu, uu, uu], hp := (upd emp 6 (.arr (.int .i64) out6 false)) }
noncomputable def L13_2 (n : Nat × Nat) (m1 : Nat) (m : Nat) (w4_0 : Int) (w4_1 : Int) (w4_2 : Int) (w4_3 : Int) (w4_4 : Int) (w4_5 : Int) (w4_6 : Int) (w4_7 : Int) (known7 : Int) (v26 : Int) (v27 : Int) (v32 : List Int) (v33 : Int) (v34 : Int) (out6 : List Int) : Option R13 := loopN (F13_14 n m1) m { tm := [uu, uu, uu, uu, .iptr [.int .i64 w4_0, .int .u64 w4_1, .int .u64 w4_2, .int .u64 w4_3, .int .u64 w4_4, .int .u64 w4_5, .int .u64 w4_6, .int .u64 w4_7], uu, .own 6 none false, .c (.int .u64 known7), uu, uu, uu, uu, uu, uu, uu, uu, uu, uu, uu, uu, uu, uu, uu, uu, uu, uu, .c (.int .i64 v26), .c (.int .i64 v27), uu, uu, uu, uu, .c (.sl (.int .u64) v32 false), .c (.int .i64 v33), .c (.int .i64 v34), uu, uu, uu, uu, uu, uu, uu, uu, uu, uu, uu, uu, uu, uu, uu, uu, uu, uu, uu, uu, uu, uu, uu, uu, uu, uu, uu, uu, uu, uu, uu, uu, uu, uu, uu, uu, uu, uu, uu, uu, uu, uu, uu, uu, uu], hp := (upd emp 6 (.arr (.int .i64) out6 false)) }
noncomputable def L13_3 (n : Nat × Nat) (m1 m2 : Nat) (w4_0 : Int) (w4_1 : Int) (w4_2 : Int) (w4_3 : Int) (w4_4 : Int) (w4_5 : Int) (w4_6 : Int) (w4_7 : Int) (known7 : Int) (v26 : Int) (v27 : Int) (v32 : List Int) (v33 : Int) (v34 : Int) (out6 : List Int) : Option R13 := loopN (fun _ => (kq13_19 n m1 m2)) n.2 { tm := [uu, uu, uu, uu, .iptr [.int .i64 w4_0, .int .u64 w4_1, .int .u64 w4_2, .int .u64 w4_3, .int .u64 w4_4, .int .u64 w4_5, .int .u64 w4_6, .int .u64 w4_7], uu, .own 6 none false, .c (.int .u64 known7), uu, uu, uu, uu, uu, uu, uu, uu, uu, uu, uu, uu, uu, uu, uu, uu, uu, uu, .c (.int .i64 v26), .c (.int .i64 v27), uu, uu, uu, uu, .c (.sl (.int .u64) v32 false), .c (.int .i64 v33), .c (.int .i64 v34), uu, uu, uu, uu, uu, uu, uu, uu, uu, uu, uu, uu, uu, uu, uu, uu, uu, uu, uu, uu, uu, uu, uu, uu, uu, uu, uu, uu, uu, uu, uu, uu, uu, uu, uu, uu, uu, uu, uu, uu, uu, uu, uu, uu, uu], hp := (upd emp 6 (.arr (.int .i64) out6 false)) }
noncomputable def L13_4 (n : Nat × Nat) (m1 m2 : Nat) (m : Nat) (w4_0 : Int) (w4_1 : Int) (w4_2 : Int) (w4_3 : Int) (w4_4 : Int) (w4_5 : Int) (w4_6 : Int) (w4_7 : Int) (known7 : Int) (x8 : Int) (v10 : Int) (v26 : Int) (v27 : Int) (v32 : List Int) (v33 : Int) (v34 : Int) (v52 : Int) (v53 : Int) (out6 : List Int) (v51 : List Int) : Option R13 := loopN (F13_27 n m1 m2) m { tm := [uu, uu, uu, uu, .iptr [.int .i64 w4_0, .int .u64 w4_1, .int .u64 w4_2, .int .u64 w4_3, .int .u64 w4_4, .int .u64 w4_5, .int .u64 w4_6, .int .u64 w4_7], uu, .own 6 none false, .c (.int .u64 known7), .c (.int .i64 x8), uu, .c (.int .u64 v10), uu, uu, uu, uu, uu, uu, uu, uu, uu, uu, uu, uu, uu, uu, uu, .c (.int .i64 v26), .c (.int .i64 v27), uu, uu, uu, uu, .c (.sl (.int .u64) v32 false), .c (.int .i64 v33), .c (.int .i64 v34), uu, uu, uu, uu, uu, uu, uu, uu, uu, uu, uu, uu, uu, uu, uu, uu, .own 51 none false, .c (.int .i64 v52), .c (.int .i64 v53), uu, uu, uu, uu, uu, uu, uu, uu, uu, uu, uu, uu, uu, uu, uu, uu, uu, uu, uu, uu, uu, uu, uu, uu, uu, uu], hp := (upd (upd emp 51 (.arr (.int .i64) v51 false)) 6 (.arr (.int .i64) out6 false)) }
theorem L13_1_eq (n : Nat × Nat) (m1 : Nat) (w4_0 : Int) (w4_1 : Int) (w4_2 : Int) (w4_3 : Int) (w4_4 : Int) (w4_5 : Int) (w4_6 : Int) (w4_7 : Int) (known7 : Int) (v26 : Int) (v27 : Int) (out6 : List Int) : L13_1 n (m1 + 1) w4_0 w4_1 w4_2 w4_3 w4_4 w4_5 w4_6 w4_7 known7 v26 v27 out6 =
 (bif decide (v27 < v26) then (bif bounds none (some w4_0) none 7 then L13_2 n m1 n.1 w4_0 w4_1 w4_2 w4_3 w4_4 w4_5 w4_6 w4_7 known7 v26 v27 ([w4_1, w4_2, w4_3, w4_4, w4_5, w4_6, w4_7].take (Int.toNat w4_0)) (([w4_1, w4_2, w4_3, w4_4, w4_5, w4_6, w4_7].take (Int.toNat w4_0)).length : Int) 0 out6
 else none)
 else (S42 n out6 (-1)).bind fun r3' =>
 (bif r3' then some ([], 13)
 else some (out6, 0))) := by kernel_rfl
theorem L13_2_eq (n : Nat × Nat) (m1 m2 : Nat) (w4_0 : Int) (w4_1 : Int) (w4_2 : Int) (w4_3 : Int) (w4_4 : Int) (w4_5 : Int) (w4_6 : Int) (w4_7 : Int) (known7 : Int) (v26 : Int) (v27 : Int) (v32 : List Int) (v33 : Int) (v34 : Int) (out6 : List Int) : L13_2 n m1 (m2 + 1) w4_0 w4_1 w4_2 w4_3 w4_4 w4_5 w4_6 w4_7 known7 v26 v27 v32 v33 v34 out6 =
 (bif decide (v34 < v33) then (idx v32 v34).bind fun x4' =>
 (bif decide (v34 < 0) then none
 else ((bif (((wr .u64 (BitVec.ofInt (IntKind.bits .u64) (Int.fdiv known7 (2 ^ (min (Int.toNat v34) (IntKind.bits .u64)))) &&& BitVec.ofInt (IntKind.bits .u64) 1).toNat) == 1) == false) then some ((wr .u64 (BitVec.ofInt (IntKind.bits .u64) x4' &&& ~~~BitVec.ofInt (IntKind.bits .u64) known7).toNat) != 0)
 else some true)).bind fun b5' =>
 (bif b5' then L13_3 n m1 m2 w4_0 w4_1 w4_2 w4_3 w4_4 w4_5 w4_6 w4_7 known7 v26 v27 v32 v33 v34 out6
 else (S35 n x4').bind fun r6' =>
          L13_4 n m1 m2 n.1 w4_0 w4_1 w4_2 w4_3 w4_4 w4_5 w4_6 w4_7 known7 v34 0 v26 v27 v32 v33 v34 (r6'.length : Int) 0 out6 r6'))
 else L13_1 n m1 w4_0 w4_1 w4_2 w4_3 w4_4 w4_5 w4_6 w4_7 known7 v26 (wr .i64 (v27 + 1)) out6) := by kernel_rfl
theorem L13_3_raw (n : Nat × Nat) (m1 m2 : Nat) (w4_0 : Int) (w4_1 : Int) (w4_2 : Int) (w4_3 : Int) (w4_4 : Int) (w4_5 : Int) (w4_6 : Int) (w4_7 : Int) (known7 : Int) (v26 : Int) (v27 : Int) (v32 : List Int) (v33 : Int) (v34 : Int) (out6 : List Int) : (kq13_19 n m1 m2) { tm := [uu, uu, uu, uu, .iptr [.int .i64 w4_0, .int .u64 w4_1, .int .u64 w4_2, .int .u64 w4_3, .int .u64 w4_4, .int .u64 w4_5, .int .u64 w4_6, .int .u64 w4_7], uu, .own 6 none false, .c (.int .u64 known7), uu, uu, uu, uu, uu, uu, uu, uu, uu, uu, uu, uu, uu, uu, uu, uu, uu, uu, .c (.int .i64 v26), .c (.int .i64 v27), uu, uu, uu, uu, .c (.sl (.int .u64) v32 false), .c (.int .i64 v33), .c (.int .i64 v34), uu, uu, uu, uu, uu, uu, uu, uu, uu, uu, uu, uu, uu, uu, uu, uu, uu, uu, uu, uu, uu, uu, uu, uu, uu, uu, uu, uu, uu, uu, uu, uu, uu, uu, uu, uu, uu, uu, uu, uu, uu, uu, uu, uu, uu], hp := (upd emp 6 (.arr (.int .i64) out6 false)) } =
    L13_2 n m1 m2 w4_0 w4_1 w4_2 w4_3 w4_4 w4_5 w4_6 w4_7 known7 v26 v27 v32 v33 (wr .i64 (v34 + 1)) out6 := by kernel_rfl
theorem L13_4_eq (n : Nat × Nat) (m1 m2 m3 : Nat) (w4_0 : Int) (w4_1 : Int) (w4_2 : Int) (w4_3 : Int) (w4_4 : Int) (w4_5 : Int) (w4_6 : Int) (w4_7 : Int) (known7 : Int) (x8 : Int) (v10 : Int) (v26 : Int) (v27 : Int) (v32 : List Int) (v33 : Int) (v34 : Int) (v52 : Int) (v53 : Int) (out6 : List Int) (v51 : List Int) : L13_4 n m1 m2 (m3 + 1) w4_0 w4_1 w4_2 w4_3 w4_4 w4_5 w4_6 w4_7 known7 x8 v10 v26 v27 v32 v33 v34 v52 v53 out6 v51 =
 (bif decide (v53 < v52) then (bif inB v53 v51.length then (idx v51 v53).bind fun x7' =>
 (bif inB x7' out6.length then (idx out6 x7').bind fun x8' =>
 (bif decide (x8' < 0) then none
 else L13_4 n m1 m2 m3 w4_0 w4_1 w4_2 w4_3 w4_4 w4_5 w4_6 w4_7 known7 x8 (wr .u64 (BitVec.ofInt (IntKind.bits .u64) v10 ||| BitVec.ofInt (IntKind.bits .u64) (wr .u64 (1 * 2 ^ (min (Int.toNat x8') (IntKind.bits .u64))))).toNat) v26 v27 v32 v33 v34 v52 (wr .i64 (v53 + 1)) out6 v51)
 else none)
 else none)
 else (S41 n (wr .u64 (BitVec.ofInt (IntKind.bits .u64) (if IntKind.signed .u64 then -1 else IntKind.max .u64) ^^^ BitVec.ofInt (IntKind.bits .u64) v10).toNat)).bind fun r9' =>
 (bif inB x8 out6.length then (idx out6 x8).bind fun x10' =>
 (bif decide (x8 < 0) then none
 else L13_3 n m1 m2 w4_0 w4_1 w4_2 w4_3 w4_4 w4_5 w4_6 w4_7 (wr .u64 (BitVec.ofInt (IntKind.bits .u64) known7 ||| BitVec.ofInt (IntKind.bits .u64) (wr .u64 (1 * 2 ^ (min (Int.toNat x8) (IntKind.bits .u64))))).toNat) v26 v27 v32 v33 v34 (out6.set (Int.toNat x8) r9'))
 else none)) := by kernel_rfl
noncomputable def S13 (n : Nat × Nat) (b0 : Int × List (Int × Int)) : Option R13 := run (E13 n) c13 an13 rt13 (fun _ _ => none) rt13 { tm := [.agg [.int .i64 b0.1, .sl (.pair (.int .i64) (.int .i64)) b0.2 false], uu, uu, uu, uu, uu, uu, uu, uu, uu, uu, uu, uu, uu, uu, uu, uu, uu, uu, uu, uu, uu, uu, uu, uu, uu, uu, uu, uu, uu, uu, uu, uu, uu, uu, uu, uu, uu, uu, uu, uu, uu, uu, uu, uu, uu, uu, uu, uu, uu, uu, uu, uu, uu, uu, uu, uu, uu, uu, uu, uu, uu, uu, uu, uu, uu, uu, uu, uu, uu, uu, uu, uu, uu, uu, uu, uu, uu, uu, uu], hp := emp }
theorem S13_eq (n : Nat × Nat) (b0 : Int × List (Int × Int)) : S13 n b0 =
 (S33 n b0).bind fun r1' =>
 (bif (r1'.2 != 0) then some ([], r1'.2)
 else (S40 n [-1] r1'.1.1).bind fun r2' =>
      L13_1 n n.1 r1'.1.1 r1'.1.2.1 r1'.1.2.2.1 r1'.1.2.2.2.1 r1'.1.2.2.2.2.1 r1'.1.2.2.2.2.2.1 r1'.1.2.2.2.2.2.2.1 r1'.1.2.2.2.2.2.2.2 0 r1'.1.1 0 r2') := by kernel_rfl
theorem S13_run (n : Nat × Nat) (xs : pksDen pk13) : S13 n xs.1 = runG (E13 n) noScope c13 an13 (rtG rk13) (fun _ _ => none) (rtG rk13) (st0 pk13 xs Tryd.f13.ntmps) := by kernel_rfl
noncomputable def P13 (n : Nat × Nat) := phiOf pk13 rk13 (fun xs => S13 n xs.1)
theorem call13 : CallOK Tryd.prog 13 := callOK_of Tryd.func13 (by kernel_rfl) (by kernel_rfl)
theorem env13 (n : Nat × Nat) : EnvOK Tryd.prog (E13 n) := envOK0 (consPhi_ok (FC33 n) call33 (consPhi_ok (FC35 n) call35 (consPhi_ok (FC40 n) call40 (consPhi_ok (FC41 n) call41 (consPhi_ok (FC42 n) call42 noPhi_ok))))) rfl rfl
theorem par13 (n : Nat × Nat) : EnvPar (E13 n) := envPar0 (consPhi_par phiOf_Par1 (consPhi_par phiOf_Par1 (consPhi_par phiOf_Par1 (consPhi_par phiOf_Par1 (consPhi_par phiOf_Par1 noPhi_par))))) rfl
theorem FC13 (n : Nat × Nat) : FCs Tryd.prog 13 (P13 n) := phiOf_FCs fun xs r h vs hv => FC.of_runG tabOK eqsOK (env13 n) (par13 n) mixed (fun _ p _ => noScope_ok p.1 p.2) Tryd.func13 (c := c13) (an := an13) (pks := pk13) (rks := rk13) (by kernel_rfl) (by kernel_rfl) hv ((S13_run n xs).symm.trans h)
abbrev R44 := List Int × Int
noncomputable def c44 : Code := bodyOf Tryd.f44
noncomputable def an44 : Ann := (.s .l (.s .l (.s (.j [4] (.s .l (.j [4] .l (.s .l (.j [4] .l .l)))) .l) .l)))
def pk44 : List PK := [.c (.pair (.int .i64) (.sl (.pair (.int .i64) (.int .i64))))]
def rk44 : List RK := [.sl (.int .i64) 2, .c (.int .i64) 3]
noncomputable def rt44 (st : St) : Option R44 := rtG rk44 st
noncomputable def E44 (n : Nat × Nat) : Env := { T := tab, phi := (consPhi 11 (fun _ => true) (P11 n) noPhi), eff := fun g => Nat.beq g 11, fuel := n.1, hold := n.2 }
noncomputable def S44 (n : Nat × Nat) (b0 : Int × List (Int × Int)) : Option R44 := run (E44 n) c44 an44 rt44 (fun _ _ => none) rt44 { tm := [.agg [.int .i64 b0.1, .sl (.pair (.int .i64) (.int .i64)) b0.2 false], uu, uu, uu, uu, uu, uu, uu, uu, uu, uu, uu, uu, uu, uu, uu, uu, uu, uu, uu, uu, uu], hp := emp }
theorem S44_eq (n : Nat × Nat) (b0 : Int × List (Int × Int)) : S44 n b0 =
 (S11 n b0).bind fun r1' =>
 (bif (r1'.2 != 0) then some ([], r1'.2)
 else (bif ((r1'.1.length : Int) == 0) then some ([], 12)
 else (bif inB 0 r1'.1.length then (idx r1'.1 0).bind fun x2' =>
 some (x2', 0)
 else none))) := by kernel_rfl
theorem S44_run (n : Nat × Nat) (xs : pksDen pk44) : S44 n xs.1 = runG (E44 n) noScope c44 an44 (rtG rk44) (fun _ _ => none) (rtG rk44) (st0 pk44 xs Tryd.f44.ntmps) := by kernel_rfl
noncomputable def P44 (n : Nat × Nat) := phiOf pk44 rk44 (fun xs => S44 n xs.1)
theorem call44 : CallOK Tryd.prog 44 := callOK_of Tryd.func44 (by kernel_rfl) (by kernel_rfl)
theorem env44 (n : Nat × Nat) : EnvOK Tryd.prog (E44 n) := envOK0 (consPhi_ok (FC11 n) call11 noPhi_ok) rfl rfl
theorem par44 (n : Nat × Nat) : EnvPar (E44 n) := envPar0 (consPhi_par phiOf_Par1 noPhi_par) rfl
theorem FC44 (n : Nat × Nat) : FCs Tryd.prog 44 (P44 n) := phiOf_FCs fun xs r h vs hv => FC.of_runG tabOK eqsOK (env44 n) (par44 n) mixed (fun _ p _ => noScope_ok p.1 p.2) Tryd.func44 (c := c44) (an := an44) (pks := pk44) (rks := rk44) (by kernel_rfl) (by kernel_rfl) hv ((S44_run n xs).symm.trans h)
abbrev R65 := Int
noncomputable def c65 : Code := bodyOf Tryd.f65
noncomputable def an65 : Ann := (.s .l (.s (.s .l (.j [0, 16, 17] .l .l)) (.s (.s .l (.j [] (.j [9, 16, 17] (.s .l (.s (.j [9, 10, 16, 17] .l .l) (.j [9, 16, 17] (.s .l (.s .l (.j [9, 16, 17] .l .l))) .l))) .l) .l)) .l)))
def pk65 : List PK := [.c .str]
def rk65 : List RK := [.c (.int .i64) 2]
noncomputable def rt65 (st : St) : Option R65 := rtG rk65 st
noncomputable def E65 (n : Nat × Nat) : Env := { T := tab, phi := noPhi, eff := fun _ => false, fuel := n.1, hold := n.2 }
noncomputable def kq65_3 (n : Nat × Nat) : St → Option R65 := run (E65 n) (cB (cB (cB c65))) (Ann.snd (Ann.snd (Ann.snd an65))) rt65 (fun _ _ => none) rt65
noncomputable def xb65_5 (n : Nat × Nat) : Nat → St → Option R65 := fun j s => bif Nat.beq j 0 then normC [] s (kq65_3 n) else (fun _ _ => none) j s
noncomputable def F65_6 (n : Nat × Nat) : (St → Option R65) → St → Option R65 := fun K s => run (E65 n) (cA (cA (cB (cA (cB (cB c65)))))) (Ann.fst (Ann.fst (Ann.snd (Ann.fst (Ann.snd (Ann.snd an65)))))) (fun s => normC [9, 16, 17] s K) (xb65_5 n) rt65 s
noncomputable def L65_1 (n : Nat × Nat) (m : Nat) (v9s : ByteArray) (v9p : Nat) : Option R65 := loopN (F65_6 n) m { tm := [uu, uu, uu, uu, uu, uu, uu, uu, uu, .ptr 9 0, uu, uu, uu, uu, uu, uu, uu, uu, uu], hp := (upd emp 9 (.iter v9s v9p)) }
theorem L65_1_eq (n : Nat × Nat) (m1 : Nat) (v9s : ByteArray) (v9p : Nat) : L65_1 n (m1 + 1) v9s v9p =
 (bif Nat.blt v9p v9s.size then ((strBytes v9s)[v9p]?).bind fun x1' =>
 (bif decide (x1' < 128) then ((bif (decide (x1' < 97) == false) then some (decide (x1' ≥ 103))
 else some true)).bind fun b2' =>
 (bif b2' then some 10
 else L65_1 n m1 v9s (v9p + 1))
 else none)
 else some 0) := by kernel_rfl
noncomputable def S65 (n : Nat × Nat) (word0 : ByteArray) : Option R65 := run (E65 n) c65 an65 rt65 (fun _ _ => none) rt65 { tm := [.c (.str word0), uu, uu, uu, uu, uu, uu, uu, uu, uu, uu, uu, uu, uu, uu, uu, uu, uu, uu], hp := emp }
theorem S65_eq (n : Nat × Nat) (word0 : ByteArray) : S65 n word0 =
 (bif decide ((word0.size : Int) > 10) then some 19
 else L65_1 n n.1 word0 0) := by kernel_rfl
theorem S65_run (n : Nat × Nat) (xs : pksDen pk65) : S65 n xs.1 = runG (E65 n) noScope c65 an65 (rtG rk65) (fun _ _ => none) (rtG rk65) (st0 pk65 xs Tryd.f65.ntmps) := by kernel_rfl
noncomputable def P65 (n : Nat × Nat) := phiOf pk65 rk65 (fun xs => S65 n xs.1)
theorem call65 : CallOK Tryd.prog 65 := callOK_of Tryd.func65 (by kernel_rfl) (by kernel_rfl)
theorem env65 (n : Nat × Nat) : EnvOK Tryd.prog (E65 n) := envOK0 noPhi_ok rfl rfl
theorem par65 (n : Nat × Nat) : EnvPar (E65 n) := envPar0 noPhi_par rfl
theorem FC65 (n : Nat × Nat) : FCs Tryd.prog 65 (P65 n) := phiOf_FCs fun xs r h vs hv => FC.of_runG tabOK eqsOK (env65 n) (par65 n) mixed (fun _ p _ => noScope_ok p.1 p.2) Tryd.func65 (c := c65) (an := an65) (pks := pk65) (rks := rk65) (by kernel_rfl) (by kernel_rfl) hv ((S65_run n xs).symm.trans h)
abbrev R31 := Int
noncomputable def c31 : Code := bodyOf Tryd.f31
noncomputable def an31 : Ann := (.s .l (.s (.s .l (.j [] (.j [6, 7, 8] (.s .l (.s (.j [6, 7, 8] .l .l) (.s (.j [6, 7, 8] (.s .l (.s .l (.s .l (.j [6, 7, 8] .l .l)))) .l) .l))) .l) .l)) .l))
def pk31 : List PK := [.c (.sl .str)]
def rk31 : List RK := [.c (.int .i64) 2]
noncomputable def rt31 (st : St) : Option R31 := rtG rk31 st
noncomputable def E31 (n : Nat × Nat) : Env := { T := tab, phi := (consPhi 65 (fun _ => true) (P65 n) noPhi), eff := fun _ => false, fuel := n.1, hold := n.2 }
noncomputable def kq31_1 (n : Nat × Nat) : St → Option R31 := run (E31 n) (cB (cB c31)) (Ann.snd (Ann.snd an31)) rt31 (fun _ _ => none) rt31
noncomputable def xb31_3 (n : Nat × Nat) : Nat → St → Option R31 := fun j s => bif Nat.beq j 0 then normC [] s (kq31_1 n) else (fun _ _ => none) j s
noncomputable def F31_4 (n : Nat × Nat) : (St → Option R31) → St → Option R31 := fun K s => run (E31 n) (cA (cA (cB (cA (cB c31))))) (Ann.fst (Ann.fst (Ann.snd (Ann.fst (Ann.snd an31))))) (fun s => normC [6, 7, 8] s K) (xb31_3 n) rt31 s
noncomputable def L31_1 (n : Nat × Nat) (m : Nat) (v6 : List ByteArray) (v7 : Int) (v8 : Int) : Option R31 := loopN (F31_4 n) m { tm := [uu, uu, uu, uu, uu, uu, .c (.sl .str v6 false), .c (.int .i64 v7), .c (.int .i64 v8), uu, uu, uu, uu, uu, uu, uu, uu, uu], hp := emp }
theorem L31_1_eq (n : Nat × Nat) (m1 : Nat) (v6 : List ByteArray) (v7 : Int) (v8 : Int) : L31_1 n (m1 + 1) v6 v7 v8 =
 (bif decide (v8 < v7) then (idx v6 v8).bind fun x1' =>
 (S65 n x1').bind fun r2' =>
 (bif (r2' != 0) then some r2'
 else L31_1 n m1 v6 v7 (wr .i64 (v8 + 1)))
 else some 0) := by kernel_rfl
noncomputable def S31 (n : Nat × Nat) (words0 : List ByteArray) : Option R31 := run (E31 n) c31 an31 rt31 (fun _ _ => none) rt31 { tm := [.c (.sl .str words0 false), uu, uu, uu, uu, uu, uu, uu, uu, uu, uu, uu, uu, uu, uu, uu, uu, uu], hp := emp }
theorem S31_eq (n : Nat × Nat) (words0 : List ByteArray) : S31 n words0 =
    L31_1 n n.1 words0 (words0.length : Int) 0 := by kernel_rfl
theorem S31_run (n : Nat × Nat) (xs : pksDen pk31) : S31 n xs.1 = runG (E31 n) noScope c31 an31 (rtG rk31) (fun _ _ => none) (rtG rk31) (st0 pk31 xs Tryd.f31.ntmps) := by kernel_rfl
noncomputable def P31 (n : Nat × Nat) := phiOf pk31 rk31 (fun xs => S31 n xs.1)
theorem call31 : CallOK Tryd.prog 31 := callOK_of Tryd.func31 (by kernel_rfl) (by kernel_rfl)
theorem env31 (n : Nat × Nat) : EnvOK Tryd.prog (E31 n) := envOK0 (consPhi_ok (FC65 n) call65 noPhi_ok) rfl rfl
theorem par31 (n : Nat × Nat) : EnvPar (E31 n) := envPar0 (consPhi_par phiOf_Par1 noPhi_par) rfl
theorem FC31 (n : Nat × Nat) : FCs Tryd.prog 31 (P31 n) := phiOf_FCs fun xs r h vs hv => FC.of_runG tabOK eqsOK (env31 n) (par31 n) mixed (fun _ p _ => noScope_ok p.1 p.2) Tryd.func31 (c := c31) (an := an31) (pks := pk31) (rks := rk31) (by kernel_rfl) (by kernel_rfl) hv ((S31_run n xs).symm.trans h)
abbrev R75 := Int × Int
noncomputable def c75 : Code := bodyOf Tryd.f75
noncomputable def an75 : Ann := (.s .l (.s (.s .l (.s .l (.j [0, 1] .l .l))) (.s .l (.s .l (.s (.s .l (.j [1, 7] (.j [1, 7, 25, 26, 27] (.s .l (.s (.j [1, 7, 25, 26, 27] .l .l) (.s (.j [1, 7, 25, 26, 27] (.s .l (.s .l (.j [1, 7, 25, 26, 27] (.j [1, 7, 9, 10, 25, 26, 27] (.s (.s .l (.j [1, 7, 9, 10, 25, 26, 27] .l .l)) (.j [] (.j [1, 7, 9, 10, 25, 26, 27] (.s .l (.j [1, 7, 9, 10, 25, 26, 27] .l .l)) .l) .l)) .l) .l))) .l) .l))) .l) .l)) .l)))))
def pk75 : List PK := [.c .str, .c .str]
def rk75 : List RK := [.c (.int .i64) 4, .c (.int .i64) 5]
noncomputable def rt75 (st : St) : Option R75 := rtG rk75 st
noncomputable def E75 (n : Nat × Nat) : Env := { T := tab, phi := (consPhi 31 (fun _ => true) (P31 n) noPhi), eff := fun _ => false, fuel := n.1, hold := n.2 }
noncomputable def kq75_3 (n : Nat × Nat) : St → Option R75 := run (E75 n) (cB (cB (cB (cB (cB c75))))) (Ann.snd (Ann.snd (Ann.snd (Ann.snd (Ann.snd an75))))) rt75 (fun _ _ => none) rt75
noncomputable def xb75_5 (n : Nat × Nat) : Nat → St → Option R75 := fun j s => bif Nat.beq j 0 then normC [1, 7] s (kq75_3 n) else (fun _ _ => none) j s
noncomputable def F75_6 (n : Nat × Nat) : (St → Option R75) → St → Option R75 := fun K s => run (E75 n) (cA (cA (cB (cA (cB (cB (cB (cB c75)))))))) (Ann.fst (Ann.fst (Ann.snd (Ann.fst (Ann.snd (Ann.snd (Ann.snd (Ann.snd an75)))))))) (fun s => normC [1, 7, 25, 26, 27] s K) (xb75_5 n) rt75 s
noncomputable def kq75_9 (n : Nat × Nat) (m1 : Nat) : St → Option R75 := run (E75 n) (cB (cB (cB (cA (cA (cB (cA (cB (cB (cB (cB c75))))))))))) (Ann.snd (Ann.snd (Ann.snd (Ann.fst (Ann.fst (Ann.snd (Ann.fst (Ann.snd (Ann.snd (Ann.snd (Ann.snd an75))))))))))) (fun s => normC [1, 7, 25, 26, 27] s (loopN (F75_6 n) m1)) (xb75_5 n) rt75
noncomputable def kc75_10 (n : Nat × Nat) (m1 : Nat) : St → Option R75 := fun s => normC [1, 7, 25, 26, 27] s (kq75_9 n m1)
noncomputable def xb75_11 (n : Nat × Nat) (m1 : Nat) : Nat → St → Option R75 := fun j s => bif Nat.beq j 1 then normC [1, 7, 25, 26, 27] s (kq75_9 n m1) else (xb75_5 n) j s
noncomputable def xb75_13 (n : Nat × Nat) (m1 : Nat) : Nat → St → Option R75 := fun j s => bif Nat.beq j 2 then normC [1, 7, 25, 26, 27] s (kc75_10 n m1) else (xb75_11 n m1) j s
noncomputable def F75_14 (n : Nat × Nat) (m1 : Nat) : (St → Option R75) → St → Option R75 := fun K s => run (E75 n) (cA (cA (cB (cB (cA (cA (cB (cB (cA (cA (cB (cA (cB (cB (cB (cB c75)))))))))))))))) (Ann.fst (Ann.fst (Ann.snd (Ann.snd (Ann.fst (Ann.fst (Ann.snd (Ann.snd (Ann.fst (Ann.fst (Ann.snd (Ann.fst (Ann.snd (Ann.snd (Ann.snd (Ann.snd an75)))))))))))))))) (fun s => normC [1, 7, 9, 10, 25, 26, 27] s K) (xb75_13 n m1) rt75 s
noncomputable def kq75_17 (n : Nat × Nat) (m1 m2 : Nat) : St → Option R75 := run (E75 n) (cB (cB (cA (cA (cB (cB (cA (cA (cB (cB (cA (cA (cB (cA (cB (cB (cB (cB c75)))))))))))))))))) (Ann.snd (Ann.snd (Ann.fst (Ann.fst (Ann.snd (Ann.snd (Ann.fst (Ann.fst (Ann.snd (Ann.snd (Ann.fst (Ann.fst (Ann.snd (Ann.fst (Ann.snd (Ann.snd (Ann.snd (Ann.snd an75)))))))))))))))))) (fun s => normC [1, 7, 9, 10, 25, 26, 27] s (loopN (F75_14 n m1) m2)) (xb75_13 n m1) rt75
noncomputable def L75_1 (n : Nat × Nat) (m : Nat) (part1 : ByteArray) (v25 : List Int) (v26 : Int) (v27 : Int) (begun7 : List Int) : Option R75 := loopN (F75_6 n) m { tm := [uu, .c (.str part1), uu, uu, uu, uu, uu, .own 7 none false, uu, uu, uu, uu, uu, uu, uu, uu, uu, uu, uu, uu, uu, uu, uu, uu, uu, .c (.sl (.int .u8) v25 false), .c (.int .i64 v26), .c (.int .i64 v27), uu, uu, uu, uu, uu, uu, uu, uu, uu, uu, uu, uu, uu, uu, uu, uu, uu, uu, uu, uu, uu, uu, uu, uu, uu, uu, uu, uu, uu, uu, uu, uu], hp := (upd emp 7 (.arr (.int .i64) begun7 false)) }
noncomputable def L75_2 (n : Nat × Nat) (m1 : Nat) (m : Nat) (part1 : ByteArray) (c9 : Int) (k10 : Int) (v25 : List Int) (v26 : Int) (v27 : Int) (begun7 : List Int) : Option R75 := loopN (F75_14 n m1) m { tm := [uu, .c (.str part1), uu, uu, uu, uu, uu, .own 7 none false, uu, .c (.int .u8 c9), .c (.int .i64 k10), uu, uu, uu, uu, uu, uu, uu, uu, uu, uu, uu, uu, uu, uu, .c (.sl (.int .u8) v25 false), .c (.int .i64 v26), .c (.int .i64 v27), uu, uu, uu, uu, uu, uu, uu, uu, uu, uu, uu, uu, uu, uu, uu, uu, uu, uu, uu, uu, uu, uu, uu, uu, uu, uu, uu, uu, uu, uu, uu, uu], hp := (upd emp 7 (.arr (.int .i64) begun7 false)) }
noncomputable def L75_3 (n : Nat × Nat) (m1 m2 : Nat) (part1 : ByteArray) (c9 : Int) (k10 : Int) (v25 : List Int) (v26 : Int) (v27 : Int) (begun7 : List Int) : Option R75 := loopN (fun _ => (kq75_17 n m1 m2)) n.2 { tm := [uu, .c (.str part1), uu, uu, uu, uu, uu, .own 7 none false, uu, .c (.int .u8 c9), .c (.int .i64 k10), uu, uu, uu, uu, uu, uu, uu, uu, uu, uu, uu, uu, uu, uu, .c (.sl (.int .u8) v25 false), .c (.int .i64 v26), .c (.int .i64 v27), uu, uu, uu, uu, uu, uu, uu, uu, uu, uu, uu, uu, uu, uu, uu, uu, uu, uu, uu, uu, uu, uu, uu, uu, uu, uu, uu, uu, uu, uu, uu, uu], hp := (upd emp 7 (.arr (.int .i64) begun7 false)) }
theorem L75_1_eq (n : Nat × Nat) (m1 : Nat) (part1 : ByteArray) (v25 : List Int) (v26 : Int) (v27 : Int) (begun7 : List Int) : L75_1 n (m1 + 1) part1 v25 v26 v27 begun7 =
 (bif decide (v27 < v26) then (idx v25 v27).bind fun x3' =>
      L75_2 n m1 n.1 part1 x3' (part1.size : Int) v25 v26 v27 begun7
 else (bif inB (part1.size : Int) begun7.length then (idx begun7 (part1.size : Int)).bind fun x4' =>
 some (x4', 0)
 else none)) := by kernel_rfl
theorem L75_2_eq (n : Nat × Nat) (m1 m2 : Nat) (part1 : ByteArray) (c9 : Int) (k10 : Int) (v25 : List Int) (v26 : Int) (v27 : Int) (begun7 : List Int) : L75_2 n m1 (m2 + 1) part1 c9 k10 v25 v26 v27 begun7 =
 (bif decide (k10 > 0) then (idx (strBytes part1) (wr .i64 (k10 - 1))).bind fun x5' =>
 (bif (x5' == c9) then (bif inB k10 begun7.length then (idx begun7 k10).bind fun x6' =>
 (bif inB (wr .i64 (k10 - 1)) begun7.length then (idx begun7 (wr .i64 (k10 - 1))).bind fun x7' =>
 (bif inB k10 begun7.length then (idx begun7 k10).bind fun x8' =>
              L75_3 n m1 m2 part1 c9 k10 v25 v26 v27 (begun7.set (Int.toNat k10) (wr .i64 (x6' + x7')))
 else none)
 else none)
 else none)
 else L75_3 n m1 m2 part1 c9 k10 v25 v26 v27 begun7)
 else L75_1 n m1 part1 v25 v26 (wr .i64 (v27 + 1)) begun7) := by kernel_rfl
theorem L75_3_raw (n : Nat × Nat) (m1 m2 : Nat) (part1 : ByteArray) (c9 : Int) (k10 : Int) (v25 : List Int) (v26 : Int) (v27 : Int) (begun7 : List Int) : (kq75_17 n m1 m2) { tm := [uu, .c (.str part1), uu, uu, uu, uu, uu, .own 7 none false, uu, .c (.int .u8 c9), .c (.int .i64 k10), uu, uu, uu, uu, uu, uu, uu, uu, uu, uu, uu, uu, uu, uu, .c (.sl (.int .u8) v25 false), .c (.int .i64 v26), .c (.int .i64 v27), uu, uu, uu, uu, uu, uu, uu, uu, uu, uu, uu, uu, uu, uu, uu, uu, uu, uu, uu, uu, uu, uu, uu, uu, uu, uu, uu, uu, uu, uu, uu, uu], hp := (upd emp 7 (.arr (.int .i64) begun7 false)) } =
    L75_2 n m1 m2 part1 c9 (wr .i64 (k10 - 1)) v25 v26 v27 begun7 := by kernel_rfl
noncomputable def S75 (n : Nat × Nat) (word0 : ByteArray) (part1 : ByteArray) : Option R75 := run (E75 n) c75 an75 rt75 (fun _ _ => none) rt75 { tm := [.c (.str word0), .c (.str part1), uu, uu, uu, uu, uu, uu, uu, uu, uu, uu, uu, uu, uu, uu, uu, uu, uu, uu, uu, uu, uu, uu, uu, uu, uu, uu, uu, uu, uu, uu, uu, uu, uu, uu, uu, uu, uu, uu, uu, uu, uu, uu, uu, uu, uu, uu, uu, uu, uu, uu, uu, uu, uu, uu, uu, uu, uu, uu], hp := emp }
theorem S75_eq (n : Nat × Nat) (word0 : ByteArray) (part1 : ByteArray) : S75 n word0 part1 =
 (S31 n [word0, part1]).bind fun r1' =>
 (bif (r1' != 0) then some (0, r1')
 else (bif decide (0 ≤ wr .i64 ((part1.size : Int) + 1)) && decide (wr .i64 ((part1.size : Int) + 1) ≤ wr .i64 ((part1.size : Int) + 1)) && decide (wr .i64 ((part1.size : Int) + 1) ≤ lim) then (bif inB 0 (List.replicate (Int.toNat (wr .i64 ((part1.size : Int) + 1))) (0 : Int)).length then (idx (List.replicate (Int.toNat (wr .i64 ((part1.size : Int) + 1))) (0 : Int)) 0).bind fun x2' =>
          L75_1 n n.1 part1 (strBytes word0) ((strBytes word0).length : Int) 0 ((List.replicate (Int.toNat (wr .i64 ((part1.size : Int) + 1))) (0 : Int)).set (Int.toNat 0) 1)
 else none)
 else none)) := by kernel_rfl
theorem S75_run (n : Nat × Nat) (xs : pksDen pk75) : S75 n xs.1 xs.2.1 = runG (E75 n) noScope c75 an75 (rtG rk75) (fun _ _ => none) (rtG rk75) (st0 pk75 xs Tryd.f75.ntmps) := by kernel_rfl
noncomputable def P75 (n : Nat × Nat) := phiOf pk75 rk75 (fun xs => S75 n xs.1 xs.2.1)
theorem call75 : CallOK Tryd.prog 75 := callOK_of Tryd.func75 (by kernel_rfl) (by kernel_rfl)
theorem env75 (n : Nat × Nat) : EnvOK Tryd.prog (E75 n) := envOK0 (consPhi_ok (FC31 n) call31 noPhi_ok) rfl rfl
theorem par75 (n : Nat × Nat) : EnvPar (E75 n) := envPar0 (consPhi_par phiOf_Par1 noPhi_par) rfl
theorem FC75 (n : Nat × Nat) : FCs Tryd.prog 75 (P75 n) := phiOf_FCs fun xs r h vs hv => FC.of_runG tabOK eqsOK (env75 n) (par75 n) mixed (fun _ p _ => noScope_ok p.1 p.2) Tryd.func75 (c := c75) (an := an75) (pks := pk75) (rks := rk75) (by kernel_rfl) (by kernel_rfl) hv ((S75_run n xs).symm.trans h)
abbrev R105 := Int
noncomputable def c105 : Code := bodyOf Tryd.f105
noncomputable def an105 : Ann := (.s .l (.s (.s .l (.j [0, 1] (.s .l (.j [0, 1] .l (.s .l (.j [0, 1] .l .l)))) .l)) (.s (.s .l (.j [] (.j [1, 22] (.s .l (.s (.j [1, 22, 23] .l .l) (.j [1, 22] (.s .l (.s .l (.j [1, 22] .l .l))) .l))) .l) .l)) .l)))
def pk105 : List PK := [.c .str, .c (.int .i64)]
def rk105 : List RK := [.c (.int .i64) 4]
noncomputable def rt105 (st : St) : Option R105 := rtG rk105 st
noncomputable def E105 (n : Nat × Nat) : Env := { T := tab, phi := (consPhi 65 (fun _ => true) (P65 n) noPhi), eff := fun _ => false, fuel := n.1, hold := n.2 }
noncomputable def kq105_6 (n : Nat × Nat) : St → Option R105 := run (E105 n) (cB (cB (cB c105))) (Ann.snd (Ann.snd (Ann.snd an105))) rt105 (fun _ _ => none) rt105
noncomputable def xb105_8 (n : Nat × Nat) : Nat → St → Option R105 := fun j s => bif Nat.beq j 1 then normC [] s (kq105_6 n) else (fun _ _ => none) j s
noncomputable def F105_9 (n : Nat × Nat) : (St → Option R105) → St → Option R105 := fun K s => run (E105 n) (cA (cA (cB (cA (cB (cB c105)))))) (Ann.fst (Ann.fst (Ann.snd (Ann.fst (Ann.snd (Ann.snd an105)))))) (fun s => normC [1, 22] s K) (xb105_8 n) rt105 s
noncomputable def L105_1 (n : Nat × Nat) (m : Nat) (letters1 : Int) (v22s : ByteArray) (v22p : Nat) : Option R105 := loopN (F105_9 n) m { tm := [uu, .c (.int .i64 letters1), uu, uu, uu, uu, uu, uu, uu, uu, uu, uu, uu, uu, uu, uu, uu, uu, uu, uu, uu, uu, .ptr 22 0, uu, uu, uu, uu, uu, uu, uu, uu], hp := (upd emp 22 (.iter v22s v22p)) }
theorem L105_1_eq (n : Nat × Nat) (m1 : Nat) (letters1 : Int) (v22s : ByteArray) (v22p : Nat) : L105_1 n (m1 + 1) letters1 v22s v22p =
 (bif Nat.blt v22p v22s.size then ((strBytes v22s)[v22p]?).bind fun x3' =>
 (bif decide (x3' < 128) then (bif decide (x3' ≥ wr .i32 (97 + (wr .i32 letters1))) then some 2
 else L105_1 n m1 letters1 v22s (v22p + 1))
 else none)
 else some 0) := by kernel_rfl
noncomputable def S105 (n : Nat × Nat) (word0 : ByteArray) (letters1 : Int) : Option R105 := run (E105 n) c105 an105 rt105 (fun _ _ => none) rt105 { tm := [.c (.str word0), .c (.int .i64 letters1), uu, uu, uu, uu, uu, uu, uu, uu, uu, uu, uu, uu, uu, uu, uu, uu, uu, uu, uu, uu, uu, uu, uu, uu, uu, uu, uu, uu, uu], hp := emp }
theorem S105_eq (n : Nat × Nat) (word0 : ByteArray) (letters1 : Int) : S105 n word0 letters1 =
 (S65 n word0).bind fun r1' =>
 (bif (r1' != 0) then some r1'
 else ((bif (decide (letters1 < 1) == false) then some (decide (letters1 > 6))
 else some true)).bind fun b2' =>
 (bif b2' then some 1
 else L105_1 n n.1 letters1 word0 0)) := by kernel_rfl
theorem S105_run (n : Nat × Nat) (xs : pksDen pk105) : S105 n xs.1 xs.2.1 = runG (E105 n) noScope c105 an105 (rtG rk105) (fun _ _ => none) (rtG rk105) (st0 pk105 xs Tryd.f105.ntmps) := by kernel_rfl
noncomputable def P105 (n : Nat × Nat) := phiOf pk105 rk105 (fun xs => S105 n xs.1 xs.2.1)
theorem call105 : CallOK Tryd.prog 105 := callOK_of Tryd.func105 (by kernel_rfl) (by kernel_rfl)
theorem env105 (n : Nat × Nat) : EnvOK Tryd.prog (E105 n) := envOK0 (consPhi_ok (FC65 n) call65 noPhi_ok) rfl rfl
theorem par105 (n : Nat × Nat) : EnvPar (E105 n) := envPar0 (consPhi_par phiOf_Par1 noPhi_par) rfl
theorem FC105 (n : Nat × Nat) : FCs Tryd.prog 105 (P105 n) := phiOf_FCs fun xs r h vs hv => FC.of_runG tabOK eqsOK (env105 n) (par105 n) mixed (fun _ p _ => noScope_ok p.1 p.2) Tryd.func105 (c := c105) (an := an105) (pks := pk105) (rks := rk105) (by kernel_rfl) (by kernel_rfl) hv ((S105_run n xs).symm.trans h)
abbrev R106 := List Int
noncomputable def c106 : Code := bodyOf Tryd.f106
noncomputable def an106 : Ann := (.s .l (.s .l (.s .l (.s (.s .l (.j [5] (.j [1, 5, 6, 11] (.s .l (.s (.j [1, 5, 6, 11, 12] .l .l) (.j [1, 5, 6, 11] (.s .l (.s .l (.s .l (.j [1, 5, 6, 11] .l .l)))) .l))) .l) .l)) .l))))
def pk106 : List PK := [.c .str, .c (.int .i64)]
def rk106 : List RK := [.own (.int .i64) 4]
noncomputable def rt106 (st : St) : Option R106 := rtG rk106 st
noncomputable def E106 (n : Nat × Nat) : Env := { T := tab, phi := noPhi, eff := fun _ => false, fuel := n.1, hold := n.2 }
noncomputable def kq106_1 (n : Nat × Nat) : St → Option R106 := run (E106 n) (cB (cB (cB (cB c106)))) (Ann.snd (Ann.snd (Ann.snd (Ann.snd an106)))) rt106 (fun _ _ => none) rt106
noncomputable def xb106_3 (n : Nat × Nat) : Nat → St → Option R106 := fun j s => bif Nat.beq j 0 then normC [5] s (kq106_1 n) else (fun _ _ => none) j s
noncomputable def F106_4 (n : Nat × Nat) : (St → Option R106) → St → Option R106 := fun K s => run (E106 n) (cA (cA (cB (cA (cB (cB (cB c106))))))) (Ann.fst (Ann.fst (Ann.snd (Ann.fst (Ann.snd (Ann.snd (Ann.snd an106))))))) (fun s => normC [1, 5, 6, 11] s K) (xb106_3 n) rt106 s
noncomputable def L106_1 (n : Nat × Nat) (m : Nat) (letters1 : Int) (out5 : List Int) (met6 : List (Int × Bool)) (v11s : ByteArray) (v11p : Nat) : Option R106 := loopN (F106_4 n) m { tm := [uu, .c (.int .i64 letters1), uu, uu, uu, .own 5 none false, .map 6, uu, uu, uu, uu, .ptr 11 0, uu, uu, uu, uu, uu, uu, uu, uu, uu, uu, uu, uu, uu, uu, uu, uu, uu], hp := (upd (upd (upd emp 11 (.iter v11s v11p)) 6 (.mp .i32 .bool met6)) 5 (.arr (.int .i64) out5 false)) }
theorem L106_1_eq (n : Nat × Nat) (m1 : Nat) (letters1 : Int) (out5 : List Int) (met6 : List (Int × Bool)) (v11s : ByteArray) (v11p : Nat) : L106_1 n (m1 + 1) letters1 out5 met6 v11s v11p =
 (bif Nat.blt v11p v11s.size then ((strBytes v11s)[v11p]?).bind fun x1' =>
 (bif decide (x1' < 128) then (bif (((aset met6 x1' true).length : Int) == letters1) then (bif decide (out5.length + [wr .i64 ((v11p : Int) + 1)].length ≤ lim) then L106_1 n m1 letters1 (out5 ++ [wr .i64 ((v11p : Int) + 1)]) [] v11s (v11p + 1)
 else none)
 else L106_1 n m1 letters1 out5 (aset met6 x1' true) v11s (v11p + 1))
 else none)
 else some out5) := by kernel_rfl
noncomputable def S106 (n : Nat × Nat) (word0 : ByteArray) (letters1 : Int) : Option R106 := run (E106 n) c106 an106 rt106 (fun _ _ => none) rt106 { tm := [.c (.str word0), .c (.int .i64 letters1), uu, uu, uu, uu, uu, uu, uu, uu, uu, uu, uu, uu, uu, uu, uu, uu, uu, uu, uu, uu, uu, uu, uu, uu, uu, uu, uu], hp := emp }
theorem S106_eq (n : Nat × Nat) (word0 : ByteArray) (letters1 : Int) : S106 n word0 letters1 =
    L106_1 n n.1 letters1 [] [] word0 0 := by kernel_rfl
theorem S106_run (n : Nat × Nat) (xs : pksDen pk106) : S106 n xs.1 xs.2.1 = runG (E106 n) noScope c106 an106 (rtG rk106) (fun _ _ => none) (rtG rk106) (st0 pk106 xs Tryd.f106.ntmps) := by kernel_rfl
noncomputable def P106 (n : Nat × Nat) := phiOf pk106 rk106 (fun xs => S106 n xs.1 xs.2.1)
theorem call106 : CallOK Tryd.prog 106 := callOK_of Tryd.func106 (by kernel_rfl) (by kernel_rfl)
theorem env106 (n : Nat × Nat) : EnvOK Tryd.prog (E106 n) := envOK0 noPhi_ok rfl rfl
theorem par106 (n : Nat × Nat) : EnvPar (E106 n) := envPar0 noPhi_par rfl
theorem FC106 (n : Nat × Nat) : FCs Tryd.prog 106 (P106 n) := phiOf_FCs fun xs r h vs hv => FC.of_runG tabOK eqsOK (env106 n) (par106 n) mixed (fun _ p _ => noScope_ok p.1 p.2) Tryd.func106 (c := c106) (an := an106) (pks := pk106) (rks := rk106) (by kernel_rfl) (by kernel_rfl) hv ((S106_run n xs).symm.trans h)
/- slices.Index[[]byte,byte] -/
abbrev R107 := Int
noncomputable def c107 : Code := bodyOf Tryd.f107
noncomputable def an107 : Ann := (.s .l (.s (.s .l (.j [] (.j [0, 1, 7, 8] (.s .l (.s (.j [0, 1, 7, 8] .l .l) (.s (.j [0, 1, 7, 8] (.s .l (.s .l (.j [0, 1, 7, 8] .l .l))) .l) .l))) .l) .l)) .l))
def pk107 : List PK := [.c (.sl (.int .u8)), .c (.int .u8)]
def rk107 : List RK := [.c (.int .i64) 4]
noncomputable def rt107 (st : St) : Option R107 := rtG rk107 st
noncomputable def E107 (n : Nat × Nat) : Env := { T := tab, phi := noPhi, eff := fun _ => false, fuel := n.1, hold := n.2 }
noncomputable def kq107_1 (n : Nat × Nat) : St → Option R107 := run (E107 n) (cB (cB c107)) (Ann.snd (Ann.snd an107)) rt107 (fun _ _ => none) rt107
noncomputable def xb107_3 (n : Nat × Nat) : Nat → St → Option R107 := fun j s => bif Nat.beq j 0 then normC [] s (kq107_1 n) else (fun _ _ => none) j s
noncomputable def F107_4 (n : Nat × Nat) : (St → Option R107) → St → Option R107 := fun K s => run (E107 n) (cA (cA (cB (cA (cB c107))))) (Ann.fst (Ann.fst (Ann.snd (Ann.fst (Ann.snd an107))))) (fun s => normC [0, 1, 7, 8] s K) (xb107_3 n) rt107 s
noncomputable def L107_1 (n : Nat × Nat) (m : Nat) (s0 : List Int) (v1 : Int) (v7 : Int) (v8 : Int) : Option R107 := loopN (F107_4 n) m { tm := [.c (.sl (.int .u8) s0 false), .c (.int .u8 v1), uu, uu, uu, uu, uu, .c (.int .i64 v7), .c (.int .i64 v8), uu, uu, uu, uu, uu, uu, uu, uu, uu, uu], hp := emp }
theorem L107_1_eq (n : Nat × Nat) (m1 : Nat) (s0 : List Int) (v1 : Int) (v7 : Int) (v8 : Int) : L107_1 n (m1 + 1) s0 v1 v7 v8 =
 (bif decide (v8 < v7) then (idx s0 v8).bind fun x1' =>
 (bif (v1 == x1') then some v8
 else L107_1 n m1 s0 v1 v7 (wr .i64 (v8 + 1)))
 else some (-1)) := by kernel_rfl
noncomputable def S107 (n : Nat × Nat) (s0 : List Int) (v1 : Int) : Option R107 := run (E107 n) c107 an107 rt107 (fun _ _ => none) rt107 { tm := [.c (.sl (.int .u8) s0 false), .c (.int .u8 v1), uu, uu, uu, uu, uu, uu, uu, uu, uu, uu, uu, uu, uu, uu, uu, uu, uu], hp := emp }
theorem S107_eq (n : Nat × Nat) (s0 : List Int) (v1 : Int) : S107 n s0 v1 =
    L107_1 n n.1 s0 v1 (s0.length : Int) 0 := by kernel_rfl
theorem S107_run (n : Nat × Nat) (xs : pksDen pk107) : S107 n xs.1 xs.2.1 = runG (E107 n) noScope c107 an107 (rtG rk107) (fun _ _ => none) (rtG rk107) (st0 pk107 xs Tryd.f107.ntmps) := by kernel_rfl
noncomputable def P107 (n : Nat × Nat) := phiOf pk107 rk107 (fun xs => S107 n xs.1 xs.2.1)
theorem call107 : CallOK Tryd.prog 107 := callOK_of Tryd.func107 (by kernel_rfl) (by kernel_rfl)
theorem env107 (n : Nat × Nat) : EnvOK Tryd.prog (E107 n) := envOK0 noPhi_ok rfl rfl
theorem par107 (n : Nat × Nat) : EnvPar (E107 n) := envPar0 noPhi_par rfl
theorem FC107 (n : Nat × Nat) : FCs Tryd.prog 107 (P107 n) := phiOf_FCs fun xs r h vs hv => FC.of_runG tabOK eqsOK (env107 n) (par107 n) mixed (fun _ p _ => noScope_ok p.1 p.2) Tryd.func107 (c := c107) (an := an107) (pks := pk107) (rks := rk107) (by kernel_rfl) (by kernel_rfl) hv ((S107_run n xs).symm.trans h)
abbrev R76 := ByteArray × Int
noncomputable def c76 : Code := bodyOf Tryd.f76
noncomputable def an76 : Ann := (.s .l (.s (.s .l (.s .l (.j [0, 1, 28, 29, 49, 50, 51, 52, 53, 54, 55, 56, 57, 58] .l .l))) (.s .l (.j [4, 5] (.j [0, 1, 7, 28, 29, 49, 50, 51, 52, 53, 54, 55, 56, 57, 58] (.j [0, 1, 7, 28, 29, 49, 50, 51, 52, 53, 54, 55, 56, 57, 58] (.s .l (.s .l (.s .l (.j [0, 1, 7, 28, 29, 49, 50, 51, 52, 53, 54, 55, 56, 57, 58] (.j [0, 1, 7, 8, 9, 10, 28, 29, 49, 50, 51, 52, 53, 54, 55, 56, 57, 58] (.s (.s .l (.j [0, 1, 7, 8, 9, 10, 28, 29, 49, 50, 51, 52, 53, 54, 55, 56, 57, 58] .l .l)) (.j [] (.j [0, 1, 7, 8, 9, 10, 28, 29, 49, 50, 51, 52, 53, 54, 55, 56, 57, 58] (.s .l (.j [0, 1, 7, 8, 9, 10, 28, 29, 49, 50, 51, 52, 53, 54, 55, 56, 57, 58] (.s .l (.j [0, 1, 7, 8, 9, 10, 28, 29, 49, 50, 51, 52, 53, 54, 55, 56, 57, 58] .l (.s .l (.j [0, 1, 7, 8, 9, 10, 28, 29, 49, 50, 51, 52, 53, 54, 55, 56, 57, 58] .l .l)))) .l)) .l) .l)) .l) .l)))) .l) .l) .l))))
def pk76 : List PK := [.c .str, .c (.int .i64)]
def rk76 : List RK := [.c .str 4, .c (.int .i64) 5]
noncomputable def rt76 (st : St) : Option R76 := rtG rk76 st
noncomputable def E76 (n : Nat × Nat) : Env := { T := tab, phi := (consPhi 105 (fun _ => true) (P105 n) (consPhi 106 (fun _ => true) (P106 n) (consPhi 107 (fun _ => true) (P107 n) noPhi))), eff := fun _ => false, fuel := n.1, hold := n.2 }
noncomputable def xb76_4 (n : Nat × Nat) : Nat → St → Option R76 := fun j s => bif Nat.beq j 0 then normC [4, 5] s rt76 else (fun _ _ => none) j s
noncomputable def F76_5 (n : Nat × Nat) : (St → Option R76) → St → Option R76 := fun K s => run (E76 n) (cA (cA (cB (cB (cB c76))))) (Ann.fst (Ann.fst (Ann.snd (Ann.snd (Ann.snd an76))))) (fun s => normC [0, 1, 7, 28, 29, 49, 50, 51, 52, 53, 54, 55, 56, 57, 58] s K) (xb76_4 n) rt76 s
noncomputable def kc76_6 (n : Nat × Nat) (m1 : Nat) : St → Option R76 := fun s => normC [0, 1, 7, 28, 29, 49, 50, 51, 52, 53, 54, 55, 56, 57, 58] s (fun s => normC [0, 1, 7, 28, 29, 49, 50, 51, 52, 53, 54, 55, 56, 57, 58] s (loopN (F76_5 n) m1))
noncomputable def xb76_7 (n : Nat × Nat) (m1 : Nat) : Nat → St → Option R76 := fun j s => bif Nat.beq j 1 then normC [0, 1, 7, 28, 29, 49, 50, 51, 52, 53, 54, 55, 56, 57, 58] s (fun s => normC [0, 1, 7, 28, 29, 49, 50, 51, 52, 53, 54, 55, 56, 57, 58] s (loopN (F76_5 n) m1)) else (xb76_4 n) j s
noncomputable def xb76_9 (n : Nat × Nat) (m1 : Nat) : Nat → St → Option R76 := fun j s => bif Nat.beq j 2 then normC [0, 1, 7, 28, 29, 49, 50, 51, 52, 53, 54, 55, 56, 57, 58] s (kc76_6 n m1) else (xb76_7 n m1) j s
noncomputable def F76_10 (n : Nat × Nat) (m1 : Nat) : (St → Option R76) → St → Option R76 := fun K s => run (E76 n) (cA (cA (cB (cB (cB (cA (cA (cA (cB (cB (cB c76))))))))))) (Ann.fst (Ann.fst (Ann.snd (Ann.snd (Ann.snd (Ann.fst (Ann.fst (Ann.fst (Ann.snd (Ann.snd (Ann.snd an76))))))))))) (fun s => normC [0, 1, 7, 8, 9, 10, 28, 29, 49, 50, 51, 52, 53, 54, 55, 56, 57, 58] s K) (xb76_9 n m1) rt76 s
noncomputable def kq76_13 (n : Nat × Nat) (m1 m2 : Nat) : St → Option R76 := run (E76 n) (cB (cB (cA (cA (cB (cB (cB (cA (cA (cA (cB (cB (cB c76))))))))))))) (Ann.snd (Ann.snd (Ann.fst (Ann.fst (Ann.snd (Ann.snd (Ann.snd (Ann.fst (Ann.fst (Ann.fst (Ann.snd (Ann.snd (Ann.snd an76))))))))))))) (fun s => normC [0, 1, 7, 8, 9, 10, 28, 29, 49, 50, 51, 52, 53, 54, 55, 56, 57, 58] s (loopN (F76_10 n m1) m2)) (xb76_9 n m1) rt76
noncomputable def L76_1 (n : Nat × Nat) (m : Nat) (word0 : ByteArray) (letters1 : Int) (out7 : List Int) : Option R76 := loopN (F76_5 n) m { tm := [.c (.str word0), .c (.int .i64 letters1), uu, uu, uu, uu, uu, .own 7 none false, uu, uu, uu, uu, uu, uu, uu, uu, uu, uu, uu, uu, uu, uu, uu, uu, uu, uu, uu, uu, uu, uu, uu, uu, uu, uu, uu, uu, uu, uu, uu, uu, uu, uu, uu, uu, uu, uu, uu, uu, uu, uu, uu, uu, uu, uu, uu, uu, uu, uu, uu, uu, uu, uu, uu, uu, uu, uu, uu, uu], hp := (upd emp 7 (.arr (.int .u8) out7 false)) }
noncomputable def L76_2 (n : Nat × Nat) (m1 : Nat) (m : Nat) (word0 : ByteArray) (letters1 : Int) (left8 : Int) (found9 : Bool) (c10 : Int) (out7 : List Int) : Option R76 := loopN (F76_10 n m1) m { tm := [.c (.str word0), .c (.int .i64 letters1), uu, uu, uu, uu, uu, .own 7 none false, .c (.int .i64 left8), .c (.bool found9), .c (.int .u8 c10), uu, uu, uu, uu, uu, uu, uu, uu, uu, uu, uu, uu, uu, uu, uu, uu, uu, uu, uu, uu, uu, uu, uu, uu, uu, uu, uu, uu, uu, uu, uu, uu, uu, uu, uu, uu, uu, uu, uu, uu, uu, uu, uu, uu, uu, uu, uu, uu, uu, uu, uu, uu, uu, uu, uu, uu, uu], hp := (upd emp 7 (.arr (.int .u8) out7 false)) }
noncomputable def L76_3 (n : Nat × Nat) (m1 m2 : Nat) (word0 : ByteArray) (letters1 : Int) (left8 : Int) (found9 : Bool) (c10 : Int) (out7 : List Int) : Option R76 := loopN (fun _ => (kq76_13 n m1 m2)) n.2 { tm := [.c (.str word0), .c (.int .i64 letters1), uu, uu, uu, uu, uu, .own 7 none false, .c (.int .i64 left8), .c (.bool found9), .c (.int .u8 c10), uu, uu, uu, uu, uu, uu, uu, uu, uu, uu, uu, uu, uu, uu, uu, uu, uu, uu, uu, uu, uu, uu, uu, uu, uu, uu, uu, uu, uu, uu, uu, uu, uu, uu, uu, uu, uu, uu, uu, uu, uu, uu, uu, uu, uu, uu, uu, uu, uu, uu, uu, uu, uu, uu, uu, uu, uu], hp := (upd emp 7 (.arr (.int .u8) out7 false)) }
theorem L76_1_eq (n : Nat × Nat) (m1 : Nat) (word0 : ByteArray) (letters1 : Int) (out7 : List Int) : L76_1 n (m1 + 1) word0 letters1 out7 =
 (S106 n word0 letters1).bind fun r2' =>
    L76_2 n m1 n.1 word0 letters1 (r2'.length : Int) false 97 out7 := by kernel_rfl
theorem L76_2_eq (n : Nat × Nat) (m1 m2 : Nat) (word0 : ByteArray) (letters1 : Int) (left8 : Int) (found9 : Bool) (c10 : Int) (out7 : List Int) : L76_2 n m1 (m2 + 1) word0 letters1 left8 found9 c10 out7 =
 ((bif (decide (c10 < wr .u8 (wr .i64 (97 + letters1))) == true) then some (!found9)
 else some false)).bind fun b3' =>
 (bif b3' then (S107 n (strBytes word0) c10).bind fun r4' =>
 (bif decide (r4' < 0) then (bif decide (out7.length + [c10].length ≤ lim) then some (strNums (out7 ++ [c10]), 0)
 else none)
 else ((bif (decide (left8 > 0) == true) then (bif bounds (some (wr .i64 (r4' + 1))) none none word0.size then (S106 n (strCut (some (wr .i64 (r4' + 1))) none word0) letters1).bind fun r5' =>
 some ((r5'.length : Int) == (wr .i64 (left8 - 1)))
 else none)
 else some false)).bind fun b6' =>
 (bif b6' then (bif decide (out7.length + [c10].length ≤ lim) then (bif bounds (some (wr .i64 (r4' + 1))) none none word0.size then L76_3 n m1 m2 (strCut (some (wr .i64 (r4' + 1))) none word0) letters1 left8 true c10 (out7 ++ [c10])
 else none)
 else none)
 else L76_3 n m1 m2 word0 letters1 left8 found9 c10 out7))
 else L76_1 n m1 word0 letters1 out7) := by kernel_rfl
theorem L76_3_raw (n : Nat × Nat) (m1 m2 : Nat) (word0 : ByteArray) (letters1 : Int) (left8 : Int) (found9 : Bool) (c10 : Int) (out7 : List Int) : (kq76_13 n m1 m2) { tm := [.c (.str word0), .c (.int .i64 letters1), uu, uu, uu, uu, uu, .own 7 none false, .c (.int .i64 left8), .c (.bool found9), .c (.int .u8 c10), uu, uu, uu, uu, uu, uu, uu, uu, uu, uu, uu, uu, uu, uu, uu, uu, uu, uu, uu, uu, uu, uu, uu, uu, uu, uu, uu, uu, uu, uu, uu, uu, uu, uu, uu, uu, uu, uu, uu, uu, uu, uu, uu, uu, uu, uu, uu, uu, uu, uu, uu, uu, uu, uu, uu, uu, uu], hp := (upd emp 7 (.arr (.int .u8) out7 false)) } =
    L76_2 n m1 m2 word0 letters1 left8 found9 (wr .u8 (c10 + 1)) out7 := by kernel_rfl
noncomputable def S76 (n : Nat × Nat) (word0 : ByteArray) (letters1 : Int) : Option R76 := run (E76 n) c76 an76 rt76 (fun _ _ => none) rt76 { tm := [.c (.str word0), .c (.int .i64 letters1), uu, uu, uu, uu, uu, uu, uu, uu, uu, uu, uu, uu, uu, uu, uu, uu, uu, uu, uu, uu, uu, uu, uu, uu, uu, uu, uu, uu, uu, uu, uu, uu, uu, uu, uu, uu, uu, uu, uu, uu, uu, uu, uu, uu, uu, uu, uu, uu, uu, uu, uu, uu, uu, uu, uu, uu, uu, uu, uu, uu, uu, uu, uu, uu, uu, uu], hp := emp }
theorem S76_eq (n : Nat × Nat) (word0 : ByteArray) (letters1 : Int) : S76 n word0 letters1 =
 (S105 n word0 letters1).bind fun r1' =>
 (bif (r1' != 0) then some ((⟨#[]⟩ : ByteArray), r1')
 else L76_1 n n.1 word0 letters1 []) := by kernel_rfl
theorem S76_run (n : Nat × Nat) (xs : pksDen pk76) : S76 n xs.1 xs.2.1 = runG (E76 n) noScope c76 an76 (rtG rk76) (fun _ _ => none) (rtG rk76) (st0 pk76 xs Tryd.f76.ntmps) := by kernel_rfl
noncomputable def P76 (n : Nat × Nat) := phiOf pk76 rk76 (fun xs => S76 n xs.1 xs.2.1)
theorem call76 : CallOK Tryd.prog 76 := callOK_of Tryd.func76 (by kernel_rfl) (by kernel_rfl)
theorem env76 (n : Nat × Nat) : EnvOK Tryd.prog (E76 n) := envOK0 (consPhi_ok (FC105 n) call105 (consPhi_ok (FC106 n) call106 (consPhi_ok (FC107 n) call107 noPhi_ok))) rfl rfl
theorem par76 (n : Nat × Nat) : EnvPar (E76 n) := envPar0 (consPhi_par phiOf_Par1 (consPhi_par phiOf_Par1 (consPhi_par phiOf_Par1 noPhi_par))) rfl
theorem FC76 (n : Nat × Nat) : FCs Tryd.prog 76 (P76 n) := phiOf_FCs fun xs r h vs hv => FC.of_runG tabOK eqsOK (env76 n) (par76 n) mixed (fun _ p _ => noScope_ok p.1 p.2) Tryd.func76 (c := c76) (an := an76) (pks := pk76) (rks := rk76) (by kernel_rfl) (by kernel_rfl) hv ((S76_run n xs).symm.trans h)
abbrev R32 := Bool
noncomputable def c32 : Code := bodyOf Tryd.f32
noncomputable def an32 : Ann := (.s .l (.s (.s .l (.j [1] (.j [0, 1, 5, 11, 12] (.s (.s .l (.j [0, 1, 5, 11, 12] .l .l)) (.j [] (.j [0, 1, 5, 11, 12] (.s .l (.j [0, 1, 5, 11, 12] .l .l)) .l) .l)) .l) .l)) .l))
def pk32 : List PK := [.c .str, .c .str]
def rk32 : List RK := [.c .bool 4]
noncomputable def rt32 (st : St) : Option R32 := rtG rk32 st
noncomputable def E32 (n : Nat × Nat) : Env := { T := tab, phi := noPhi, eff := fun _ => false, fuel := n.1, hold := n.2 }
noncomputable def kq32_1 (n : Nat × Nat) : St → Option R32 := run (E32 n) (cB (cB c32)) (Ann.snd (Ann.snd an32)) rt32 (fun _ _ => none) rt32
noncomputable def xb32_3 (n : Nat × Nat) : Nat → St → Option R32 := fun j s => bif Nat.beq j 0 then normC [1] s (kq32_1 n) else (fun _ _ => none) j s
noncomputable def F32_4 (n : Nat × Nat) : (St → Option R32) → St → Option R32 := fun K s => run (E32 n) (cA (cA (cB (cA (cB c32))))) (Ann.fst (Ann.fst (Ann.snd (Ann.fst (Ann.snd an32))))) (fun s => normC [0, 1, 5, 11, 12] s K) (xb32_3 n) rt32 s
noncomputable def kq32_7 (n : Nat × Nat) (m1 : Nat) : St → Option R32 := run (E32 n) (cB (cB (cA (cA (cB (cA (cB c32))))))) (Ann.snd (Ann.snd (Ann.fst (Ann.fst (Ann.snd (Ann.fst (Ann.snd an32))))))) (fun s => normC [0, 1, 5, 11, 12] s (loopN (F32_4 n) m1)) (xb32_3 n) rt32
noncomputable def L32_1 (n : Nat × Nat) (m : Nat) (word0 : ByteArray) (part1 : ByteArray) (i5 : Int) : Option R32 := loopN (F32_4 n) m { tm := [.c (.str word0), .c (.str part1), uu, uu, uu, .c (.int .i64 i5), uu, uu, uu, uu, uu, uu, uu, uu, uu, uu, uu, uu, uu, uu, uu, uu, uu, uu, uu, uu], hp := emp }
noncomputable def L32_2 (n : Nat × Nat) (m1 : Nat) (word0 : ByteArray) (part1 : ByteArray) (i5 : Int) : Option R32 := loopN (fun _ => (kq32_7 n m1)) n.2 { tm := [.c (.str word0), .c (.str part1), uu, uu, uu, .c (.int .i64 i5), uu, uu, uu, uu, uu, uu, uu, uu, uu, uu, uu, uu, uu, uu, uu, uu, uu, uu, uu, uu], hp := emp }
theorem L32_1_eq (n : Nat × Nat) (m1 : Nat) (word0 : ByteArray) (part1 : ByteArray) (i5 : Int) : L32_1 n (m1 + 1) word0 part1 i5 =
 ((bif (decide (i5 < (word0.size : Int)) == true) then some (!strEq part1 (⟨#[]⟩ : ByteArray))
 else some false)).bind fun b1' =>
 (bif b1' then (idx (strBytes word0) i5).bind fun x2' =>
 (idx (strBytes part1) 0).bind fun x3' =>
 (bif (x2' == x3') then (bif bounds (some 1) none none part1.size then L32_2 n m1 word0 (strCut (some 1) none part1) i5
 else none)
 else L32_2 n m1 word0 part1 i5)
 else some (strEq part1 (⟨#[]⟩ : ByteArray))) := by kernel_rfl
theorem L32_2_raw (n : Nat × Nat) (m1 : Nat) (word0 : ByteArray) (part1 : ByteArray) (i5 : Int) : (kq32_7 n m1) { tm := [.c (.str word0), .c (.str part1), uu, uu, uu, .c (.int .i64 i5), uu, uu, uu, uu, uu, uu, uu, uu, uu, uu, uu, uu, uu, uu, uu, uu, uu, uu, uu, uu], hp := emp } =
    L32_1 n m1 word0 part1 (wr .i64 (i5 + 1)) := by kernel_rfl
noncomputable def S32 (n : Nat × Nat) (word0 : ByteArray) (part1 : ByteArray) : Option R32 := run (E32 n) c32 an32 rt32 (fun _ _ => none) rt32 { tm := [.c (.str word0), .c (.str part1), uu, uu, uu, uu, uu, uu, uu, uu, uu, uu, uu, uu, uu, uu, uu, uu, uu, uu, uu, uu, uu, uu, uu, uu], hp := emp }
theorem S32_eq (n : Nat × Nat) (word0 : ByteArray) (part1 : ByteArray) : S32 n word0 part1 =
    L32_1 n n.1 word0 part1 0 := by kernel_rfl
theorem S32_run (n : Nat × Nat) (xs : pksDen pk32) : S32 n xs.1 xs.2.1 = runG (E32 n) noScope c32 an32 (rtG rk32) (fun _ _ => none) (rtG rk32) (st0 pk32 xs Tryd.f32.ntmps) := by kernel_rfl
noncomputable def P32 (n : Nat × Nat) := phiOf pk32 rk32 (fun xs => S32 n xs.1 xs.2.1)
theorem call32 : CallOK Tryd.prog 32 := callOK_of Tryd.func32 (by kernel_rfl) (by kernel_rfl)
theorem env32 (n : Nat × Nat) : EnvOK Tryd.prog (E32 n) := envOK0 noPhi_ok rfl rfl
theorem par32 (n : Nat × Nat) : EnvPar (E32 n) := envPar0 noPhi_par rfl
theorem FC32 (n : Nat × Nat) : FCs Tryd.prog 32 (P32 n) := phiOf_FCs fun xs r h vs hv => FC.of_runG tabOK eqsOK (env32 n) (par32 n) mixed (fun _ p _ => noScope_ok p.1 p.2) Tryd.func32 (c := c32) (an := an32) (pks := pk32) (rks := rk32) (by kernel_rfl) (by kernel_rfl) hv ((S32_run n xs).symm.trans h)
abbrev R45 := Bool
noncomputable def c45 : Code := bodyOf Tryd.f45
noncomputable def an45 : Ann := .l
def pk45 : List PK := []
def rk45 : List RK := [.c .bool 0]
noncomputable def rt45 (st : St) : Option R45 := rtG rk45 st
noncomputable def E45 (n : Nat × Nat) : Env := { T := tab, phi := (consPhi 32 (fun _ => true) (P32 n) (consPhi 75 (fun _ => true) (P75 n) (consPhi 76 (fun _ => true) (P76 n) noPhi))), eff := fun _ => false, fuel := n.1, hold := n.2 }
noncomputable def S45 (n : Nat × Nat) : Option R45 := run (E45 n) c45 an45 rt45 (fun _ _ => none) rt45 { tm := [uu, uu, uu, uu, uu, uu, uu, uu, uu, uu, uu, uu, uu, uu, uu, uu, uu, uu, uu, uu, uu, uu, uu, uu, uu, uu, uu, uu, uu, uu], hp := emp }
theorem S45_eq (n : Nat × Nat) : S45 n =
 (S75 n (⟨#[97, 98, 99, 97]⟩ : ByteArray) (⟨#[97]⟩ : ByteArray)).bind fun r1' =>
 (S76 n (⟨#[97, 98, 98, 97]⟩ : ByteArray) 2).bind fun r2' =>
 ((bif ((r1'.2 == 0) == true) then some (r2'.2 == 0)
 else some false)).bind fun b3' =>
 ((bif (b3' == true) then some (r1'.1 == 2)
 else some false)).bind fun b4' =>
 ((bif (b4' == true) then some (strEq r2'.1 (⟨#[97, 97, 97]⟩ : ByteArray))
 else some false)).bind fun b5' =>
 ((bif (b5' == true) then (S32 n (⟨#[100, 97, 121, 45, 98, 111, 111, 107]⟩ : ByteArray) (⟨#[121, 98, 107]⟩ : ByteArray)).bind fun r6' =>
 some r6'
 else some false)).bind fun b7' =>
 some b7' := by kernel_rfl
theorem S45_run (n : Nat × Nat) (xs : pksDen pk45) : S45 n = runG (E45 n) noScope c45 an45 (rtG rk45) (fun _ _ => none) (rtG rk45) (st0 pk45 xs Tryd.f45.ntmps) := by kernel_rfl
noncomputable def P45 (n : Nat × Nat) := phiOf pk45 rk45 (fun xs => S45 n)
theorem call45 : CallOK Tryd.prog 45 := callOK_of Tryd.func45 (by kernel_rfl) (by kernel_rfl)
theorem env45 (n : Nat × Nat) : EnvOK Tryd.prog (E45 n) := envOK0 (consPhi_ok (FC32 n) call32 (consPhi_ok (FC75 n) call75 (consPhi_ok (FC76 n) call76 noPhi_ok))) rfl rfl
theorem par45 (n : Nat × Nat) : EnvPar (E45 n) := envPar0 (consPhi_par phiOf_Par1 (consPhi_par phiOf_Par1 (consPhi_par phiOf_Par1 noPhi_par))) rfl
theorem FC45 (n : Nat × Nat) : FCs Tryd.prog 45 (P45 n) := phiOf_FCs fun xs r h vs hv => FC.of_runG tabOK eqsOK (env45 n) (par45 n) mixed (fun _ p _ => noScope_ok p.1 p.2) Tryd.func45 (c := c45) (an := an45) (pks := pk45) (rks := rk45) (by kernel_rfl) (by kernel_rfl) hv ((S45_run n xs).symm.trans h)
abbrev R16 := Bool
noncomputable def c16 : Code := bodyOf Tryd.f16
noncomputable def an16 : Ann := .l
def pk16 : List PK := []
def rk16 : List RK := [.c .bool 0]
noncomputable def rt16 (st : St) : Option R16 := rtG rk16 st
noncomputable def E16 (n : Nat × Nat) : Env := { T := tabL, phi := (consPhi 14 (fun _ => true) (P14 n) (consPhi 44 (fun _ => true) (P44 n) (consPhi 45 (fun _ => true) (P45 n) noPhi))), eff := fun g => Nat.beq g 44, fuel := n.1, hold := n.2 }
noncomputable def S16 (n : Nat × Nat) : Option R16 := run (E16 n) c16 an16 rt16 (fun _ _ => none) rt16 { tm := [uu, uu, uu, uu, uu, uu, uu, uu, uu, uu, uu, uu, uu, uu, uu, uu, uu, uu, uu, uu, uu, uu], hp := emp }
theorem S16_eq (n : Nat × Nat) : S16 n =
 (S44 n (3, [(0, 1), (1, 2)])).bind fun r1' =>
 ((bif ((r1'.2 == 0) == true) then (S14 n r1'.1 [0, 2]).bind fun r2' =>
 some r2'
 else some false)).bind fun b3' =>
 ((bif (b3' == true) then (S45 n).bind fun r4' =>
 some r4'
 else some false)).bind fun b5' =>
 some b5' := by kernel_rfl
theorem S16_run (n : Nat × Nat) (xs : pksDen pk16) : S16 n = runG (E16 n) noScope c16 an16 (rtG rk16) (fun _ _ => none) (rtG rk16) (st0 pk16 xs Tryd.f16.ntmps) := by kernel_rfl
noncomputable def P16 (n : Nat × Nat) := phiOf pk16 rk16 (fun xs => S16 n)
theorem call16 : CallOK Tryd.prog 16 := callOK_of Tryd.func16 (by kernel_rfl) (by kernel_rfl)
theorem env16 (n : Nat × Nat) : EnvOK Tryd.prog (E16 n) := envOK0 (consPhi_ok (FC14 n) call14 (consPhi_ok (FC44 n) call44 (consPhi_ok (FC45 n) call45 noPhi_ok))) rfl rfl
theorem par16 (n : Nat × Nat) : EnvPar (E16 n) := envPar0 (consPhi_par phiOf_Par1 (consPhi_par phiOf_Par1 (consPhi_par phiOf_Par1 noPhi_par))) rfl
theorem FC16 (n : Nat × Nat) : FCs Tryd.prog 16 (P16 n) := phiOf_FCs fun xs r h vs hv => FC.of_runG tabLOK eqsLOK (env16 n) (par16 n) mixed (fun _ p _ => noScope_ok p.1 p.2) Tryd.func16 (c := c16) (an := an16) (pks := pk16) (rks := rk16) (by kernel_rfl) (by kernel_rfl) hv ((S16_run n xs).symm.trans h)
abbrev R116 := Int
noncomputable def c116 : Code := bodyOf Tryd.f116
noncomputable def an116 : Ann := (.s .l (.s .l (.s (.s .l (.j [] .l .l)) .l)))
def pk116 : List PK := [.c .str, .c (.int .i64)]
def rk116 : List RK := [.c (.int .u8) 4]
noncomputable def rt116 (st : St) : Option R116 := rtG rk116 st
noncomputable def E116 (n : Nat × Nat) : Env := { T := tab, phi := (consPhi 41 (fun _ => true) (P41 n) noPhi), eff := fun _ => false, fuel := n.1, hold := n.2 }
noncomputable def S116 (n : Nat × Nat) (folds0 : ByteArray) (i1 : Int) : Option R116 := run (E116 n) c116 an116 rt116 (fun _ _ => none) rt116 { tm := [.c (.str folds0), .c (.int .i64 i1), uu, uu, uu, uu, uu, uu, uu, uu, uu, uu, uu, uu, uu, uu, uu, uu, uu, uu, uu, uu, uu, uu, uu], hp := emp }
theorem S116_eq (n : Nat × Nat) (folds0 : ByteArray) (i1 : Int) : S116 n folds0 i1 =
 (S41 n (wr .u64 (wr .i64 (i1 + 1)))).bind fun r1' =>
 (idx (strBytes folds0) (wr .i64 ((wr .i64 ((folds0.size : Int) - 1)) - r1'))).bind fun x2' =>
 (bif decide (r1' < 0) then none
 else (bif 4 == 0 then none
 else (bif ((x2' == 111) == ((Int.tmod (Int.fdiv (wr .i64 (i1 + 1)) (2 ^ (min (Int.toNat r1') (IntKind.bits .i64)))) 4) == 1)) then some 118
 else some 104))) := by kernel_rfl
theorem S116_run (n : Nat × Nat) (xs : pksDen pk116) : S116 n xs.1 xs.2.1 = runG (E116 n) noScope c116 an116 (rtG rk116) (fun _ _ => none) (rtG rk116) (st0 pk116 xs Tryd.f116.ntmps) := by kernel_rfl
noncomputable def P116 (n : Nat × Nat) := phiOf pk116 rk116 (fun xs => S116 n xs.1 xs.2.1)
theorem call116 : CallOK Tryd.prog 116 := callOK_of Tryd.func116 (by kernel_rfl) (by kernel_rfl)
theorem env116 (n : Nat × Nat) : EnvOK Tryd.prog (E116 n) := envOK0 (consPhi_ok (FC41 n) call41 noPhi_ok) rfl rfl
theorem par116 (n : Nat × Nat) : EnvPar (E116 n) := envPar0 (consPhi_par phiOf_Par1 noPhi_par) rfl
theorem FC116 (n : Nat × Nat) : FCs Tryd.prog 116 (P116 n) := phiOf_FCs fun xs r h vs hv => FC.of_runG tabOK eqsOK (env116 n) (par116 n) mixed (fun _ p _ => noScope_ok p.1 p.2) Tryd.func116 (c := c116) (an := an116) (pks := pk116) (rks := rk116) (by kernel_rfl) (by kernel_rfl) hv ((S116_run n xs).symm.trans h)
abbrev R89 := ByteArray
noncomputable def c89 : Code := bodyOf Tryd.f89
noncomputable def an89 : Ann := (.s .l (.s .l (.s (.s .l (.j [3] (.j [0, 3, 11, 12] (.s .l (.s (.j [0, 3, 11, 12] .l .l) (.s (.j [0, 3, 11, 12] .l .l) .l))) .l) .l)) .l)))
def pk89 : List PK := [.c .str]
def rk89 : List RK := [.c .str 2]
noncomputable def rt89 (st : St) : Option R89 := rtG rk89 st
noncomputable def E89 (n : Nat × Nat) : Env := { T := tab, phi := (consPhi 116 (fun _ => true) (P116 n) noPhi), eff := fun _ => false, fuel := n.1, hold := n.2 }
noncomputable def kq89_1 (n : Nat × Nat) : St → Option R89 := run (E89 n) (cB (cB (cB c89))) (Ann.snd (Ann.snd (Ann.snd an89))) rt89 (fun _ _ => none) rt89
noncomputable def xb89_3 (n : Nat × Nat) : Nat → St → Option R89 := fun j s => bif Nat.beq j 0 then normC [3] s (kq89_1 n) else (fun _ _ => none) j s
noncomputable def F89_4 (n : Nat × Nat) : (St → Option R89) → St → Option R89 := fun K s => run (E89 n) (cA (cA (cB (cA (cB (cB c89)))))) (Ann.fst (Ann.fst (Ann.snd (Ann.fst (Ann.snd (Ann.snd an89)))))) (fun s => normC [0, 3, 11, 12] s K) (xb89_3 n) rt89 s
noncomputable def L89_1 (n : Nat × Nat) (m : Nat) (folds0 : ByteArray) (v11 : Int) (v12 : Int) (out3 : List Int) : Option R89 := loopN (F89_4 n) m { tm := [.c (.str folds0), uu, uu, .own 3 none false, uu, uu, uu, uu, uu, uu, uu, .c (.int .i64 v11), .c (.int .i64 v12), uu, uu, uu, uu, uu, uu, uu, uu, uu, uu, uu], hp := (upd emp 3 (.arr (.int .u8) out3 false)) }
theorem L89_1_eq (n : Nat × Nat) (m1 : Nat) (folds0 : ByteArray) (v11 : Int) (v12 : Int) (out3 : List Int) : L89_1 n (m1 + 1) folds0 v11 v12 out3 =
 (bif decide (v12 < v11) then (S116 n folds0 v12).bind fun r1' =>
 (bif inB v12 out3.length then (idx out3 v12).bind fun x2' =>
        L89_1 n m1 folds0 v11 (wr .i64 (v12 + 1)) (out3.set (Int.toNat v12) r1')
 else none)
 else some (strNums out3)) := by kernel_rfl
noncomputable def S89 (n : Nat × Nat) (folds0 : ByteArray) : Option R89 := run (E89 n) c89 an89 rt89 (fun _ _ => none) rt89 { tm := [.c (.str folds0), uu, uu, uu, uu, uu, uu, uu, uu, uu, uu, uu, uu, uu, uu, uu, uu, uu, uu, uu, uu, uu, uu, uu], hp := emp }
theorem S89_eq (n : Nat × Nat) (folds0 : ByteArray) : S89 n folds0 =
 (bif decide ((folds0.size : Int) < 0) then none
 else (bif decide (0 ≤ wr .i64 ((wr .i64 (1 * 2 ^ (min (Int.toNat (folds0.size : Int)) (IntKind.bits .i64)))) - 1)) && decide (wr .i64 ((wr .i64 (1 * 2 ^ (min (Int.toNat (folds0.size : Int)) (IntKind.bits .i64)))) - 1) ≤ wr .i64 ((wr .i64 (1 * 2 ^ (min (Int.toNat (folds0.size : Int)) (IntKind.bits .i64)))) - 1)) && decide (wr .i64 ((wr .i64 (1 * 2 ^ (min (Int.toNat (folds0.size : Int)) (IntKind.bits .i64)))) - 1) ≤ lim) then L89_1 n n.1 folds0 ((List.replicate (Int.toNat (wr .i64 ((wr .i64 (1 * 2 ^ (min (Int.toNat (folds0.size : Int)) (IntKind.bits .i64)))) - 1))) (0 : Int)).length : Int) 0 (List.replicate (Int.toNat (wr .i64 ((wr .i64 (1 * 2 ^ (min (Int.toNat (folds0.size : Int)) (IntKind.bits .i64)))) - 1))) (0 : Int))
 else none)) := by kernel_rfl
theorem S89_run (n : Nat × Nat) (xs : pksDen pk89) : S89 n xs.1 = runG (E89 n) noScope c89 an89 (rtG rk89) (fun _ _ => none) (rtG rk89) (st0 pk89 xs Tryd.f89.ntmps) := by kernel_rfl
noncomputable def P89 (n : Nat × Nat) := phiOf pk89 rk89 (fun xs => S89 n xs.1)
theorem call89 : CallOK Tryd.prog 89 := callOK_of Tryd.func89 (by kernel_rfl) (by kernel_rfl)
theorem env89 (n : Nat × Nat) : EnvOK Tryd.prog (E89 n) := envOK0 (consPhi_ok (FC116 n) call116 noPhi_ok) rfl rfl
theorem par89 (n : Nat × Nat) : EnvPar (E89 n) := envPar0 (consPhi_par phiOf_Par1 noPhi_par) rfl
theorem FC89 (n : Nat × Nat) : FCs Tryd.prog 89 (P89 n) := phiOf_FCs fun xs r h vs hv => FC.of_runG tabOK eqsOK (env89 n) (par89 n) mixed (fun _ p _ => noScope_ok p.1 p.2) Tryd.func89 (c := c89) (an := an89) (pks := pk89) (rks := rk89) (by kernel_rfl) (by kernel_rfl) hv ((S89_run n xs).symm.trans h)
abbrev R62 := ByteArray × Int
noncomputable def c62 : Code := bodyOf Tryd.f62
noncomputable def an62 : Ann := (.s .l (.s (.s .l (.s .l (.j [0] .l .l))) .l))
def pk62 : List PK := [.c .str]
def rk62 : List RK := [.c .str 2, .c (.int .i64) 3]
noncomputable def rt62 (st : St) : Option R62 := rtG rk62 st
noncomputable def E62 (n : Nat × Nat) : Env := { T := tab, phi := (consPhi 60 (fun _ => true) (P60 n) (consPhi 89 (fun _ => true) (P89 n) noPhi)), eff := fun _ => false, fuel := n.1, hold := n.2 }
noncomputable def S62 (n : Nat × Nat) (folds0 : ByteArray) : Option R62 := run (E62 n) c62 an62 rt62 (fun _ _ => none) rt62 { tm := [.c (.str folds0), uu, uu, uu, uu, uu, uu, uu, uu, uu, uu, uu], hp := emp }
theorem S62_eq (n : Nat × Nat) (folds0 : ByteArray) : S62 n folds0 =
 (S60 n folds0).bind fun r1' =>
 (bif (r1' != 0) then some ((⟨#[]⟩ : ByteArray), r1')
 else (S89 n folds0).bind fun r2' =>
 some (r2', 0)) := by kernel_rfl
theorem S62_run (n : Nat × Nat) (xs : pksDen pk62) : S62 n xs.1 = runG (E62 n) noScope c62 an62 (rtG rk62) (fun _ _ => none) (rtG rk62) (st0 pk62 xs Tryd.f62.ntmps) := by kernel_rfl
noncomputable def P62 (n : Nat × Nat) := phiOf pk62 rk62 (fun xs => S62 n xs.1)
theorem call62 : CallOK Tryd.prog 62 := callOK_of Tryd.func62 (by kernel_rfl) (by kernel_rfl)
theorem env62 (n : Nat × Nat) : EnvOK Tryd.prog (E62 n) := envOK0 (consPhi_ok (FC60 n) call60 (consPhi_ok (FC89 n) call89 noPhi_ok)) rfl rfl
theorem par62 (n : Nat × Nat) : EnvPar (E62 n) := envPar0 (consPhi_par phiOf_Par1 (consPhi_par phiOf_Par1 noPhi_par)) rfl
theorem FC62 (n : Nat × Nat) : FCs Tryd.prog 62 (P62 n) := phiOf_FCs fun xs r h vs hv => FC.of_runG tabOK eqsOK (env62 n) (par62 n) mixed (fun _ p _ => noScope_ok p.1 p.2) Tryd.func62 (c := c62) (an := an62) (pks := pk62) (rks := rk62) (by kernel_rfl) (by kernel_rfl) hv ((S62_run n xs).symm.trans h)
abbrev R28 := Bool
noncomputable def c28 : Code := bodyOf Tryd.f28
noncomputable def an28 : Ann := .l
def pk28 : List PK := []
def rk28 : List RK := [.c .bool 0]
noncomputable def rt28 (st : St) : Option R28 := rtG rk28 st
noncomputable def E28 (n : Nat × Nat) : Env := { T := tab, phi := (consPhi 16 (fun _ => true) (P16 n) (consPhi 62 (fun _ => true) (P62 n) noPhi)), eff := fun _ => false, fuel := n.1, hold := n.2 }
noncomputable def S28 (n : Nat × Nat) : Option R28 := run (E28 n) c28 an28 rt28 (fun _ _ => none) rt28 { tm := [uu, uu, uu, uu, uu, uu, uu, uu, uu, uu, uu, uu, uu, uu, uu, uu], hp := emp }
theorem S28_eq (n : Nat × Nat) : S28 n =
 (S62 n (⟨#[111, 117]⟩ : ByteArray)).bind fun r1' =>
 ((bif ((r1'.2 == 0) == true) then some (strEq r1'.1 (⟨#[104, 118, 118]⟩ : ByteArray))
 else some false)).bind fun b2' =>
 ((bif (b2' == true) then (S16 n).bind fun r3' =>
 some r3'
 else some false)).bind fun b4' =>
 some b4' := by kernel_rfl
theorem S28_run (n : Nat × Nat) (xs : pksDen pk28) : S28 n = runG (E28 n) noScope c28 an28 (rtG rk28) (fun _ _ => none) (rtG rk28) (st0 pk28 xs Tryd.f28.ntmps) := by kernel_rfl
noncomputable def P28 (n : Nat × Nat) := phiOf pk28 rk28 (fun xs => S28 n)
theorem call28 : CallOK Tryd.prog 28 := callOK_of Tryd.func28 (by kernel_rfl) (by kernel_rfl)
theorem env28 (n : Nat × Nat) : EnvOK Tryd.prog (E28 n) := envOK0 (consPhi_ok (FC16 n) call16 (consPhi_ok (FC62 n) call62 noPhi_ok)) rfl rfl
theorem par28 (n : Nat × Nat) : EnvPar (E28 n) := envPar0 (consPhi_par phiOf_Par1 (consPhi_par phiOf_Par1 noPhi_par)) rfl
theorem FC28 (n : Nat × Nat) : FCs Tryd.prog 28 (P28 n) := phiOf_FCs fun xs r h vs hv => FC.of_runG tabOK eqsOK (env28 n) (par28 n) mixed (fun _ p _ => noScope_ok p.1 p.2) Tryd.func28 (c := c28) (an := an28) (pks := pk28) (rks := rk28) (by kernel_rfl) (by kernel_rfl) hv ((S28_run n xs).symm.trans h)
abbrev R6 := Bool
noncomputable def c6 : Code := bodyOf Tryd.f6
noncomputable def an6 : Ann := (.s .l (.s .l (.s .l (.s .l (.s (.s .l (.j [6, 7, 90, 91, 94, 95, 98, 99, 100, 103, 104, 105, 106, 109, 110, 111, 112, 125, 126, 127, 142, 143, 144, 147, 148, 149, 150, 151, 152, 153, 154, 155, 156, 159, 160, 161, 162, 163, 164, 165, 166, 167, 168, 173, 174, 175, 176, 177, 178, 179, 180, 181, 182] .l .l)) (.s .l (.q [(9, 1, 1)] (.s (.s .l (.j [6, 7, 9, 90, 91, 94, 95, 98, 99, 100, 103, 104, 105, 106, 109, 110, 111, 112, 125, 126, 127, 142, 143, 144, 147, 148, 149, 150, 151, 152, 153, 154, 155, 156, 159, 160, 161, 162, 163, 164, 165, 166, 167, 168, 173, 174, 175, 176, 177, 178, 179, 180, 181, 182, 501019999] (.j [6, 7, 9, 10, 90, 91, 94, 95, 98, 99, 100, 103, 104, 105, 106, 109, 110, 111, 112, 125, 126, 127, 142, 143, 144, 147, 148, 149, 150, 151, 152, 153, 154, 155, 156, 159, 160, 161, 162, 163, 164, 165, 166, 167, 168, 173, 174, 175, 176, 177, 178, 179, 180, 181, 182, 501019999] (.s (.s .l (.j [6, 7, 9, 10, 90, 91, 94, 95, 98, 99, 100, 103, 104, 105, 106, 109, 110, 111, 112, 125, 126, 127, 142, 143, 144, 147, 148, 149, 150, 151, 152, 153, 154, 155, 156, 159, 160, 161, 162, 163, 164, 165, 166, 167, 168, 173, 174, 175, 176, 177, 178, 179, 180, 181, 182, 501019999] .l .l)) (.s (.j [6, 7, 9, 10, 90, 91, 94, 95, 98, 99, 100, 103, 104, 105, 106, 109, 110, 111, 112, 125, 126, 127, 142, 143, 144, 147, 148, 149, 150, 151, 152, 153, 154, 155, 156, 159, 160, 161, 162, 163, 164, 165, 166, 167, 168, 173, 174, 175, 176, 177, 178, 179, 180, 181, 182, 501019999] .l .l) .l)) .l) .l)) (.q [(9, 1, 0)] (.s .l (.s .l (.s .l (.s (.s .l (.j [6, 7, 11, 14, 125, 126, 127, 142, 143, 144, 147, 148, 149, 150, 151, 152, 153, 154, 155, 156, 159, 160, 161, 162, 163, 164, 165, 166, 167, 168, 173, 174, 175, 176, 177, 178, 179, 180, 181, 182] .l .l)) (.s .l (.s (.s .l (.j [6, 7, 14, 16, 142, 143, 144, 147, 148, 149, 150, 151, 152, 153, 154, 155, 156, 159, 160, 161, 162, 163, 164, 165, 166, 167, 168, 173, 174, 175, 176, 177, 178, 179, 180, 181, 182] (.j [6, 7, 14, 16, 116, 117, 118, 125, 126, 127, 142, 143, 144, 147, 148, 149, 150, 151, 152, 153, 154, 155, 156, 159, 160, 161, 162, 163, 164, 165, 166, 167, 168, 173, 174, 175, 176, 177, 178, 179, 180, 181, 182] (.s .l (.s (.j [6, 7, 14, 16, 116, 117, 118, 125, 126, 127, 142, 143, 144, 147, 148, 149, 150, 151, 152, 153, 154, 155, 156, 159, 160, 161, 162, 163, 164, 165, 166, 167, 168, 173, 174, 175, 176, 177, 178, 179, 180, 181, 182] .l .l) (.s (.j [6, 7, 14, 16, 116, 117, 118, 125, 126, 127, 142, 143, 144, 147, 148, 149, 150, 151, 152, 153, 154, 155, 156, 159, 160, 161, 162, 163, 164, 165, 166, 167, 168, 173, 174, 175, 176, 177, 178, 179, 180, 181, 182] (.s .l (.s (.s .l (.j [6, 7, 14, 16, 18, 116, 117, 118, 125, 126, 127, 142, 143, 144, 147, 148, 149, 150, 151, 152, 153, 154, 155, 156, 159, 160, 161, 162, 163, 164, 165, 166, 167, 168, 173, 174, 175, 176, 177, 178, 179, 180, 181, 182] .l .l)) .l)) .l) .l))) .l) .l)) (.s (.s .l (.j [] (.j [6, 14, 16, 132, 133, 134, 142, 143, 144, 147, 148, 149, 150, 151, 152, 153, 154, 155, 156, 159, 160, 161, 162, 163, 164, 165, 166, 167, 168, 173, 174, 175, 176, 177, 178, 179, 180, 181, 182] (.s .l (.s (.j [6, 14, 16, 132, 133, 134, 142, 143, 144, 147, 148, 149, 150, 151, 152, 153, 154, 155, 156, 159, 160, 161, 162, 163, 164, 165, 166, 167, 168, 173, 174, 175, 176, 177, 178, 179, 180, 181, 182] .l .l) (.s (.j [6, 14, 16, 132, 133, 134, 142, 143, 144, 147, 148, 149, 150, 151, 152, 153, 154, 155, 156, 159, 160, 161, 162, 163, 164, 165, 166, 167, 168, 173, 174, 175, 176, 177, 178, 179, 180, 181, 182] (.s .l (.s (.s .l (.j [6, 14, 16, 20, 132, 133, 134, 142, 143, 144, 147, 148, 149, 150, 151, 152, 153, 154, 155, 156, 159, 160, 161, 162, 163, 164, 165, 166, 167, 168, 173, 174, 175, 176, 177, 178, 179, 180, 181, 182] .l .l)) (.s .l (.j [6, 14, 16, 132, 133, 134, 142, 143, 144, 147, 148, 149, 150, 151, 152, 153, 154, 155, 156, 159, 160, 161, 162, 163, 164, 165, 166, 167, 168, 173, 174, 175, 176, 177, 178, 179, 180, 181, 182] .l .l)))) .l) .l))) .l) .l)) .l))))))))))))))))
def pk6 : List PK := [.c (.int .u8), .c (.int .u8)]
def rk6 : List RK := [.c .bool 4]
noncomputable def rt6 (st : St) : Option R6 := rtG rk6 st
noncomputable def E6 (n : Nat × Nat) : Env := { T := tab, phi := (consPhi 11 (fun _ => true) (P11 n) (consPhi 13 (fun _ => true) (P13 n) (consPhi 14 (fun _ => true) (P14 n) (consPhi 15 (fun _ => true) (P15 n) (consPhi 26 (fun _ => true) (P26 n) (consPhi 27 (fun _ => true) (P27 n) (consPhi 28 (fun _ => true) (P28 n) noPhi))))))), eff := fun g => Nat.beq g 11, fuel := n.1, hold := n.2 }
noncomputable def kq6_3 (n : Nat × Nat) : St → Option R6 := run (E6 n) (cB (cB (cB (cB (cB (cB (cB c6))))))) (Ann.snd (Ann.unq (Ann.snd (Ann.snd (Ann.snd (Ann.snd (Ann.snd (Ann.snd an6)))))))) rt6 (fun _ _ => none) rt6
noncomputable def xb6_5 (n : Nat × Nat) : Nat → St → Option R6 := fun j s => bif Nat.beq j 0 then normC [6, 7, 9, 90, 91, 94, 95, 98, 99, 100, 103, 104, 105, 106, 109, 110, 111, 112, 125, 126, 127, 142, 143, 144, 147, 148, 149, 150, 151, 152, 153, 154, 155, 156, 159, 160, 161, 162, 163, 164, 165, 166, 167, 168, 173, 174, 175, 176, 177, 178, 179, 180, 181, 182, 501019999] s (kq6_3 n) else (fun _ _ => none) j s
noncomputable def F6_6 (n : Nat × Nat) : (St → Option R6) → St → Option R6 := fun K s => run (E6 n) (cA (cA (cB (cA (cB (cB (cB (cB (cB (cB c6)))))))))) (Ann.fst (Ann.fst (Ann.snd (Ann.fst (Ann.unq (Ann.snd (Ann.snd (Ann.snd (Ann.snd (Ann.snd (Ann.snd an6))))))))))) (fun s => normC [6, 7, 9, 10, 90, 91, 94, 95, 98, 99, 100, 103, 104, 105, 106, 109, 110, 111, 112, 125, 126, 127, 142, 143, 144, 147, 148, 149, 150, 151, 152, 153, 154, 155, 156, 159, 160, 161, 162, 163, 164, 165, 166, 167, 168, 173, 174, 175, 176, 177, 178, 179, 180, 181, 182, 501019999] s K) (xb6_5 n) rt6 s
noncomputable def kq6_14 (n : Nat × Nat) : St → Option R6 := run (E6 n) (cB (cB (cB (cB (cB (cB (cB (cB (cB (cB (cB (cB (cB c6))))))))))))) (Ann.snd (Ann.snd (Ann.snd (Ann.snd (Ann.snd (Ann.snd (Ann.unq (Ann.snd (Ann.unq (Ann.snd (Ann.snd (Ann.snd (Ann.snd (Ann.snd (Ann.snd an6))))))))))))))) rt6 (fun _ _ => none) rt6
noncomputable def xb6_16 (n : Nat × Nat) : Nat → St → Option R6 := fun j s => bif Nat.beq j 2 then normC [6, 7, 14, 16, 142, 143, 144, 147, 148, 149, 150, 151, 152, 153, 154, 155, 156, 159, 160, 161, 162, 163, 164, 165, 166, 167, 168, 173, 174, 175, 176, 177, 178, 179, 180, 181, 182] s (kq6_14 n) else (fun _ _ => none) j s
noncomputable def F6_17 (n : Nat × Nat) : (St → Option R6) → St → Option R6 := fun K s => run (E6 n) (cA (cA (cB (cA (cB (cB (cB (cB (cB (cB (cB (cB (cB (cB (cB (cB c6)))))))))))))))) (Ann.fst (Ann.fst (Ann.snd (Ann.fst (Ann.snd (Ann.snd (Ann.snd (Ann.snd (Ann.snd (Ann.unq (Ann.snd (Ann.unq (Ann.snd (Ann.snd (Ann.snd (Ann.snd (Ann.snd (Ann.snd an6)))))))))))))))))) (fun s => normC [6, 7, 14, 16, 116, 117, 118, 125, 126, 127, 142, 143, 144, 147, 148, 149, 150, 151, 152, 153, 154, 155, 156, 159, 160, 161, 162, 163, 164, 165, 166, 167, 168, 173, 174, 175, 176, 177, 178, 179, 180, 181, 182] s K) (xb6_16 n) rt6 s
noncomputable def kq6_25 (n : Nat × Nat) : St → Option R6 := run (E6 n) (cB (cB (cB (cB (cB (cB (cB (cB (cB (cB (cB (cB (cB (cB c6)))))))))))))) (Ann.snd (Ann.snd (Ann.snd (Ann.snd (Ann.snd (Ann.snd (Ann.snd (Ann.unq (Ann.snd (Ann.unq (Ann.snd (Ann.snd (Ann.snd (Ann.snd (Ann.snd (Ann.snd an6)))))))))))))))) rt6 (fun _ _ => none) rt6
noncomputable def xb6_27 (n : Nat × Nat) : Nat → St → Option R6 := fun j s => bif Nat.beq j 4 then normC [] s (kq6_25 n) else (fun _ _ => none) j s
noncomputable def F6_28 (n : Nat × Nat) : (St → Option R6) → St → Option R6 := fun K s => run (E6 n) (cA (cA (cB (cA (cB (cB (cB (cB (cB (cB (cB (cB (cB (cB (cB (cB (cB c6))))))))))))))))) (Ann.fst (Ann.fst (Ann.snd (Ann.fst (Ann.snd (Ann.snd (Ann.snd (Ann.snd (Ann.snd (Ann.snd (Ann.unq (Ann.snd (Ann.unq (Ann.snd (Ann.snd (Ann.snd (Ann.snd (Ann.snd (Ann.snd an6))))))))))))))))))) (fun s => normC [6, 14, 16, 132, 133, 134, 142, 143, 144, 147, 148, 149, 150, 151, 152, 153, 154, 155, 156, 159, 160, 161, 162, 163, 164, 165, 166, 167, 168, 173, 174, 175, 176, 177, 178, 179, 180, 181, 182] s K) (xb6_27 n) rt6 s
noncomputable def L6_1 (n : Nat × Nat) (m : Nat) (v6 : Int) (t10 : Int) (l7 : List Int) (b9_0 : Int) (v501019999 : List (Int × Int)) : Option R6 := loopN (F6_6 n) m { tm := [uu, uu, uu, uu, uu, uu, .c (.int .i64 v6), .own 7 none false, uu, .ptr 9 0, .c (.int .i64 t10), uu, uu, uu, uu, uu, uu, uu, uu, uu, uu, uu, uu, uu, uu, uu, uu, uu, uu, uu, uu, uu, uu, uu, uu, uu, uu, uu, uu, uu, uu, uu, uu, uu, uu, uu, uu, uu, uu, uu, uu, uu, uu, uu, uu, uu, uu, uu, uu, uu, uu, uu, uu, uu, uu, uu, uu, uu, uu, uu, uu, uu, uu, uu, uu, uu, uu, uu, uu, uu, uu, uu, uu, uu, uu, uu, uu, uu, uu, uu, uu, uu, uu, uu, uu, uu, uu, uu, uu, uu, uu, uu, uu, uu, uu, uu, uu, uu, uu, uu, uu, uu, uu, uu, uu, uu, uu, uu, uu, uu, uu, uu, uu, uu, uu, uu, uu, uu, uu, uu, uu, uu, uu, uu, uu, uu, uu, uu, uu, uu, uu, uu, uu, uu, uu, uu, uu, uu, uu, uu, uu, uu, uu, uu, uu, uu, uu, uu, uu, uu, uu, uu, uu, uu, uu, uu, uu, uu, uu, uu, uu, uu, uu, uu, uu, uu, uu, uu, uu, uu, uu, uu, uu, uu, uu, uu], hp := (upd (upd (upd emp 501019999 (.arr (.pair (.int .i64) (.int .i64)) v501019999 false)) 9 (.box [.int .i64 b9_0, .osl])) 7 (.arr (.int .i64) l7 false)) }
noncomputable def L6_2 (n : Nat × Nat) (m : Nat) (v6 : Int) (v116 : List Int) (v117 : Int) (v118 : Int) (l7 : List Int) (k14 : List Int) (chosen16_0 : Bool) (chosen16_1 : Bool) (chosen16_2 : Bool) (chosen16_3 : Bool) : Option R6 := loopN (F6_17 n) m { tm := [uu, uu, uu, uu, uu, uu, .c (.int .i64 v6), .own 7 none false, uu, uu, uu, uu, uu, uu, .own 14 none false, uu, .ptr 16 0, uu, uu, uu, uu, uu, uu, uu, uu, uu, uu, uu, uu, uu, uu, uu, uu, uu, uu, uu, uu, uu, uu, uu, uu, uu, uu, uu, uu, uu, uu, uu, uu, uu, uu, uu, uu, uu, uu, uu, uu, uu, uu, uu, uu, uu, uu, uu, uu, uu, uu, uu, uu, uu, uu, uu, uu, uu, uu, uu, uu, uu, uu, uu, uu, uu, uu, uu, uu, uu, uu, uu, uu, uu, uu, uu, uu, uu, uu, uu, uu, uu, uu, uu, uu, uu, uu, uu, uu, uu, uu, uu, uu, uu, uu, uu, uu, uu, uu, uu, .c (.sl (.int .i64) v116 false), .c (.int .i64 v117), .c (.int .i64 v118), uu, uu, uu, uu, uu, uu, uu, uu, uu, uu, uu, uu, uu, uu, uu, uu, uu, uu, uu, uu, uu, uu, uu, uu, uu, uu, uu, uu, uu, uu, uu, uu, uu, uu, uu, uu, uu, uu, uu, uu, uu, uu, uu, uu, uu, uu, uu, uu, uu, uu, uu, uu, uu, uu, uu, uu, uu, uu, uu, uu, uu, uu, uu, uu, uu, uu, uu], hp := (upd (upd (upd emp 16 (.box [.bool chosen16_0, .bool chosen16_1, .bool chosen16_2, .bool chosen16_3])) 14 (.arr (.int .i64) k14 false)) 7 (.arr (.int .i64) l7 false)) }
noncomputable def L6_3 (n : Nat × Nat) (m : Nat) (v6 : Int) (v133 : Int) (v134 : Int) (k14 : List Int) (chosen16_0 : Bool) (chosen16_1 : Bool) (chosen16_2 : Bool) (chosen16_3 : Bool) (v132 : List Int) : Option R6 := loopN (F6_28 n) m { tm := [uu, uu, uu, uu, uu, uu, .c (.int .i64 v6), uu, uu, uu, uu, uu, uu, uu, .own 14 none false, uu, .ptr 16 0, uu, uu, uu, uu, uu, uu, uu, uu, uu, uu, uu, uu, uu, uu, uu, uu, uu, uu, uu, uu, uu, uu, uu, uu, uu, uu, uu, uu, uu, uu, uu, uu, uu, uu, uu, uu, uu, uu, uu, uu, uu, uu, uu, uu, uu, uu, uu, uu, uu, uu, uu, uu, uu, uu, uu, uu, uu, uu, uu, uu, uu, uu, uu, uu, uu, uu, uu, uu, uu, uu, uu, uu, uu, uu, uu, uu, uu, uu, uu, uu, uu, uu, uu, uu, uu, uu, uu, uu, uu, uu, uu, uu, uu, uu, uu, uu, uu, uu, uu, uu, uu, uu, uu, uu, uu, uu, uu, uu, uu, uu, uu, uu, uu, uu, uu, .own 132 none false, .c (.int .i64 v133), .c (.int .i64 v134), uu, uu, uu, uu, uu, uu, uu, uu, uu, uu, uu, uu, uu, uu, uu, uu, uu, uu, uu, uu, uu, uu, uu, uu, uu, uu, uu, uu, uu, uu, uu, uu, uu, uu, uu, uu, uu, uu, uu, uu, uu, uu, uu, uu, uu, uu, uu, uu, uu, uu, uu], hp := (upd (upd (upd emp 132 (.arr (.int .i64) v132 false)) 16 (.box [.bool chosen16_0, .bool chosen16_1, .bool chosen16_2, .bool chosen16_3])) 14 (.arr (.int .i64) k14 false)) }
theorem L6_1_eq (n : Nat × Nat) (m1 : Nat) (v6 : Int) (t10 : Int) (l7 : List Int) (b9_0 : Int) (v501019999 : List (Int × Int)) : L6_1 n (m1 + 1) v6 t10 l7 b9_0 v501019999 =
 (bif decide (t10 < v6) then (bif inB (wr .i64 (t10 - 1)) l7.length then (idx l7 (wr .i64 (t10 - 1))).bind fun x4' =>
 (bif inB t10 l7.length then (idx l7 t10).bind fun x5' =>
 (bif decide (v501019999.length + [(x4', x5')].length ≤ lim) then L6_1 n m1 v6 (wr .i64 (t10 + 1)) l7 b9_0 (v501019999 ++ [(x4', x5')])
 else none)
 else none)
 else none)
 else (S11 n (b9_0, v501019999)).bind fun r6' =>
 (bif inB (wr .i64 (v6 - 1)) l7.length then (idx l7 (wr .i64 (v6 - 1))).bind fun x7' =>
 (bif inB 0 l7.length then (idx l7 0).bind fun x8' =>
 (S15 n (b9_0, v501019999) [x7'] x8').bind fun r9' =>
 (S13 n (b9_0, v501019999)).bind fun r10' =>
 ((bif ((r6'.2 != 0) == false) then some (r9'.2 != 0)
 else some true)).bind fun b11' =>
 ((bif (b11' == false) then some (r10'.2 != 0)
 else some true)).bind fun b12' =>
 ((bif (b12' == false) then some ((r6'.1.length : Int) != 1)
 else some true)).bind fun b13' =>
 ((bif (b13' == false) then (S14 n r9'.1 l7).bind fun r14' =>
 some (!r14')
 else some true)).bind fun b15' =>
 ((bif (b15' == false) then some ((r10'.1.length : Int) != v6)
 else some true)).bind fun b16' =>
 (bif b16' then some false
 else (bif inB 0 r6'.1.length then (idx r6'.1 0).bind fun x17' =>
              L6_2 n n.1 v6 x17' (x17'.length : Int) 0 l7 r10'.1 false false false false
 else none))
 else none)
 else none)) := by kernel_rfl
theorem L6_2_eq (n : Nat × Nat) (m1 : Nat) (v6 : Int) (v116 : List Int) (v117 : Int) (v118 : Int) (l7 : List Int) (k14 : List Int) (chosen16_0 : Bool) (chosen16_1 : Bool) (chosen16_2 : Bool) (chosen16_3 : Bool) : L6_2 n (m1 + 1) v6 v116 v117 v118 l7 k14 chosen16_0 chosen16_1 chosen16_2 chosen16_3 =
 (bif decide (v118 < v117) then (idx v116 v118).bind fun x18' =>
 ((bif (decide (x18' < 0) == false) then some (decide (x18' ≥ v6))
 else some true)).bind fun b19' =>
 (bif b19' then some false
 else (bif inB x18' 4 then L6_2 n m1 v6 v116 v117 (wr .i64 (v118 + 1)) l7 k14 (bif (x18' == 0) then true else chosen16_0) (bif (x18' == 1) then true else chosen16_1) (bif (x18' == 2) then true else chosen16_2) (bif (x18' == 3) then true else chosen16_3)
 else none))
 else L6_3 n n.1 v6 (l7.length : Int) 0 k14 chosen16_0 chosen16_1 chosen16_2 chosen16_3 l7) := by kernel_rfl
theorem L6_3_eq (n : Nat × Nat) (m1 : Nat) (v6 : Int) (v133 : Int) (v134 : Int) (k14 : List Int) (chosen16_0 : Bool) (chosen16_1 : Bool) (chosen16_2 : Bool) (chosen16_3 : Bool) (v132 : List Int) : L6_3 n (m1 + 1) v6 v133 v134 k14 chosen16_0 chosen16_1 chosen16_2 chosen16_3 v132 =
 (bif decide (v134 < v133) then (bif inB v134 v132.length then (idx v132 v134).bind fun x20' =>
 ((bif (decide (x20' < 0) == false) then some (decide (x20' ≥ v6))
 else some true)).bind fun b21' =>
 ((bif (b21' == false) then (bif inB x20' 4 then (idx [chosen16_0, chosen16_1, chosen16_2, chosen16_3] x20').bind fun x22' =>
 (bif 2 == 0 then none
 else some (x22' != ((Int.tmod (wr .i64 ((wr .i64 (v6 - 1)) - v134)) 2) == 0)))
 else none)
 else some true)).bind fun b23' =>
 ((bif (b23' == false) then (bif inB x20' k14.length then (idx k14 x20').bind fun x24' =>
 (bif 2 == 0 then none
 else some (x24' != (Int.tmod (wr .i64 ((wr .i64 (v6 - 1)) - v134)) 2)))
 else none)
 else some true)).bind fun b25' =>
 (bif b25' then some false
 else ((bif (decide (v6 > 1) == true) then (bif inB x20' 4 then (idx [chosen16_0, chosen16_1, chosen16_2, chosen16_3] x20').bind fun x26' =>
 (bif inB (wr .i64 ((wr .i64 (v6 - 1)) - x20')) 4 then (idx [chosen16_0, chosen16_1, chosen16_2, chosen16_3] (wr .i64 ((wr .i64 (v6 - 1)) - x20'))).bind fun x27' =>
 some (x26' == x27')
 else none)
 else none)
 else some false)).bind fun b28' =>
 (bif b28' then some false
 else L6_3 n m1 v6 v133 (wr .i64 (v134 + 1)) k14 chosen16_0 chosen16_1 chosen16_2 chosen16_3 v132))
 else none)
 else (S28 n).bind fun r29' =>
 some r29') := by kernel_rfl
noncomputable def S6 (n : Nat × Nat) (many0 : Int) (v1 : Int) : Option R6 := run (E6 n) c6 an6 rt6 (fun _ _ => none) rt6 { tm := [.c (.int .u8 many0), .c (.int .u8 v1), uu, uu, uu, uu, uu, uu, uu, uu, uu, uu, uu, uu, uu, uu, uu, uu, uu, uu, uu, uu, uu, uu, uu, uu, uu, uu, uu, uu, uu, uu, uu, uu, uu, uu, uu, uu, uu, uu, uu, uu, uu, uu, uu, uu, uu, uu, uu, uu, uu, uu, uu, uu, uu, uu, uu, uu, uu, uu, uu, uu, uu, uu, uu, uu, uu, uu, uu, uu, uu, uu, uu, uu, uu, uu, uu, uu, uu, uu, uu, uu, uu, uu, uu, uu, uu, uu, uu, uu, uu, uu, uu, uu, uu, uu, uu, uu, uu, uu, uu, uu, uu, uu, uu, uu, uu, uu, uu, uu, uu, uu, uu, uu, uu, uu, uu, uu, uu, uu, uu, uu, uu, uu, uu, uu, uu, uu, uu, uu, uu, uu, uu, uu, uu, uu, uu, uu, uu, uu, uu, uu, uu, uu, uu, uu, uu, uu, uu, uu, uu, uu, uu, uu, uu, uu, uu, uu, uu, uu, uu, uu, uu, uu, uu, uu, uu, uu, uu, uu, uu, uu, uu, uu, uu, uu, uu, uu, uu, uu, uu, uu, uu, uu, uu, uu], hp := emp }
theorem S6_eq (n : Nat × Nat) (many0 : Int) (v1 : Int) : S6 n many0 v1 =
 (S26 n many0 v1 2).bind fun r1' =>
 (bif decide ((r1'.size : Int) < 0) then none
 else (S27 n r1').bind fun r2' =>
 ((bif ((r2'.2 != 0) == false) then some ((r2'.1.length : Int) != (wr .i64 (1 * 2 ^ (min (Int.toNat (r1'.size : Int)) (IntKind.bits .i64)))))
 else some true)).bind fun b3' =>
 (bif b3' then some false
 else L6_1 n n.1 (wr .i64 (1 * 2 ^ (min (Int.toNat (r1'.size : Int)) (IntKind.bits .i64)))) 1 r2'.1 (wr .i64 (1 * 2 ^ (min (Int.toNat (r1'.size : Int)) (IntKind.bits .i64)))) [])) := by kernel_rfl
theorem S6_run (n : Nat × Nat) (xs : pksDen pk6) : S6 n xs.1 xs.2.1 = runG (E6 n) noScope c6 an6 (rtG rk6) (fun _ _ => none) (rtG rk6) (st0 pk6 xs Tryd.f6.ntmps) := by kernel_rfl
noncomputable def P6 (n : Nat × Nat) := phiOf pk6 rk6 (fun xs => S6 n xs.1 xs.2.1)
theorem env6 (n : Nat × Nat) : EnvOK Tryd.prog (E6 n) := envOK0 (consPhi_ok (FC11 n) call11 (consPhi_ok (FC13 n) call13 (consPhi_ok (FC14 n) call14 (consPhi_ok (FC15 n) call15 (consPhi_ok (FC26 n) call26 (consPhi_ok (FC27 n) call27 (consPhi_ok (FC28 n) call28 noPhi_ok))))))) rfl rfl
theorem par6 (n : Nat × Nat) : EnvPar (E6 n) := envPar0 (consPhi_par phiOf_Par1 (consPhi_par phiOf_Par1 (consPhi_par phiOf_Par1 (consPhi_par phiOf_Par1 (consPhi_par phiOf_Par1 (consPhi_par phiOf_Par1 (consPhi_par phiOf_Par1 noPhi_par))))))) rfl
theorem FC6 (n : Nat × Nat) : FCs Tryd.prog 6 (P6 n) := phiOf_FCs fun xs r h vs hv => FC.of_runG tabOK eqsOK (env6 n) (par6 n) mixed (fun _ p _ => noScope_ok p.1 p.2) Tryd.func6 (c := c6) (an := an6) (pks := pk6) (rks := rk6) (by kernel_rfl) (by kernel_rfl) hv ((S6_run n xs).symm.trans h)
end Go.Proofs.YtkfkbebinhkdlaaDoor
