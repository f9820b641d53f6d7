/- Texts of this claim, joined: G104c97io101 to G42. -/
import Derived.KernelRfl
import Derived.LoopIn
import Derived.LoopNIn
import Derived.Maps.OwnIn
import Derived.OwnWalkIn
import Derived.RangeFuncBox
import Derived.RangeFuncLeaves
import Derived.Shelf.Abstract
import Derived.TacticsInMore
import Derived.Test.YtgmonagekfjnmaaDoorProg
import Derived.WalkKit
import Derived.Test.YtgmonagekfjnmaaDoorP4
set_option linter.unusedVariables false
set_option linter.unusedSimpArgs false
set_option maxRecDepth 100000
namespace Go.Proofs.YtgmonagekfjnmaaDoor
open Go.Vi
/- slices.stableCmpFunc[int] -/
abbrev R104c97io101 := (Unit) × (List Int) × (List Int) × Unit
noncomputable def c104c97io101 : Code := bodyOf Tryd.f104
noncomputable def an104c97io101 : Ann := (.s .l (.s .l (.s (.j [0, 1, 2, 6, 7, 1000000000, 1000000001] (.j [0, 1, 2, 6, 7, 8, 1000000000, 1000000001] (.s (.s .l (.j [0, 1, 2, 6, 7, 8, 1000000000, 1000000001] .l .l)) (.j [0, 1, 2, 6, 7, 8, 1000000000, 1000000001] .l .l)) .l) .l) (.s .l (.j [1000000000, 1000000001] (.j [0, 1, 2, 6, 1000000000, 1000000001] (.s (.s .l (.j [0, 1, 2, 6, 1000000000, 1000000001] .l .l)) (.j [0, 1, 2, 6, 1000000000, 1000000001] (.s .l (.s (.j [0, 1, 2, 6, 7, 1000000000, 1000000001] (.j [0, 1, 2, 6, 7, 8, 1000000000, 1000000001] (.s (.s .l (.j [0, 1, 2, 6, 7, 8, 1000000000, 1000000001] .l .l)) (.j [0, 1, 2, 6, 7, 8, 1000000000, 1000000001] .l .l)) .l) .l) (.s (.s .l (.s .l (.j [0, 1, 2, 6, 1000000000, 1000000001] .l .l))) .l))) .l)) .l) .l)))))
def pk104c97io101 : List QK := [.oa (.int .i64), .pl (.c (.int .i64)), .of 97 [(.sl (.int .i64))]]
def rk104c97io101 : List RK := []
noncomputable def rt104c97io101 (st : St) : Option R104c97io101 := rtIO rk104c97io101 (pk104c97io101.flatMap QK.ods) st
noncomputable def io104c97io101 (n : Nat × Nat) : List IoE := [⟨105, (isFns [none, none, none, some 97]), pk105c97io1001.map QK.flag, P105c97io1001 n⟩, ⟨106, (isFns [none, none, none, none, some 97]), pk106c97io10001.map QK.flag, P106c97io10001 n⟩]
noncomputable def E104c97io101 (n : Nat × Nat) : Env := { T := tab, phi := noPhi, eff := fun _ => false, fuel := n.1, hold := n.2, phio := phioL (io104c97io101 n), iop := iopL (io104c97io101 n) }
noncomputable def kq104c97io101_1 (n : Nat × Nat) : St → Option R104c97io101 := run (E104c97io101 n) (cB (cB (cB c104c97io101))) (Ann.snd (Ann.snd (Ann.snd an104c97io101))) rt104c97io101 (fun _ _ => none) rt104c97io101
noncomputable def xb104c97io101_3 (n : Nat × Nat) : Nat → St → Option R104c97io101 := fun j s => bif Nat.beq j 0 then normC [0, 1, 2, 6, 7, 1000000000, 1000000001] s (kq104c97io101_1 n) else (fun _ _ => none) j s
noncomputable def F104c97io101_4 (n : Nat × Nat) : (St → Option R104c97io101) → St → Option R104c97io101 := fun K s => run (E104c97io101 n) (cA (cA (cA (cB (cB c104c97io101))))) (Ann.fst (Ann.fst (Ann.fst (Ann.snd (Ann.snd an104c97io101))))) (fun s => normC [0, 1, 2, 6, 7, 8, 1000000000, 1000000001] s K) (xb104c97io101_3 n) rt104c97io101 s
noncomputable def xb104c97io101_10 (n : Nat × Nat) : Nat → St → Option R104c97io101 := fun j s => bif Nat.beq j 2 then normC [1000000000, 1000000001] s rt104c97io101 else (fun _ _ => none) j s
noncomputable def F104c97io101_11 (n : Nat × Nat) : (St → Option R104c97io101) → St → Option R104c97io101 := fun K s => run (E104c97io101 n) (cA (cA (cB (cB (cB (cB c104c97io101)))))) (Ann.fst (Ann.fst (Ann.snd (Ann.snd (Ann.snd (Ann.snd an104c97io101)))))) (fun s => normC [0, 1, 2, 6, 1000000000, 1000000001] s K) (xb104c97io101_10 n) rt104c97io101 s
noncomputable def kc104c97io101_14 (n : Nat × Nat) (m1 : Nat) : St → Option R104c97io101 := fun s => normC [0, 1, 2, 6, 1000000000, 1000000001] s (fun s => normC [0, 1, 2, 6, 1000000000, 1000000001] s (loopN (F104c97io101_11 n) m1))
noncomputable def xb104c97io101_15 (n : Nat × Nat) (m1 : Nat) : Nat → St → Option R104c97io101 := fun j s => bif Nat.beq j 3 then normC [0, 1, 2, 6, 1000000000, 1000000001] s (fun s => normC [0, 1, 2, 6, 1000000000, 1000000001] s (loopN (F104c97io101_11 n) m1)) else (xb104c97io101_10 n) j s
noncomputable def kq104c97io101_16 (n : Nat × Nat) (m1 : Nat) : St → Option R104c97io101 := run (E104c97io101 n) (cB (cB (cA (cB (cA (cA (cB (cB (cB (cB c104c97io101)))))))))) (Ann.snd (Ann.snd (Ann.fst (Ann.snd (Ann.fst (Ann.fst (Ann.snd (Ann.snd (Ann.snd (Ann.snd an104c97io101)))))))))) (kc104c97io101_14 n m1) (xb104c97io101_15 n m1) rt104c97io101
noncomputable def xb104c97io101_18 (n : Nat × Nat) (m1 : Nat) : Nat → St → Option R104c97io101 := fun j s => bif Nat.beq j 4 then normC [0, 1, 2, 6, 7, 1000000000, 1000000001] s (kq104c97io101_16 n m1) else (xb104c97io101_15 n m1) j s
noncomputable def F104c97io101_19 (n : Nat × Nat) (m1 : Nat) : (St → Option R104c97io101) → St → Option R104c97io101 := fun K s => run (E104c97io101 n) (cA (cA (cA (cB (cA (cB (cA (cA (cB (cB (cB (cB c104c97io101)))))))))))) (Ann.fst (Ann.fst (Ann.fst (Ann.snd (Ann.fst (Ann.snd (Ann.fst (Ann.fst (Ann.snd (Ann.snd (Ann.snd (Ann.snd an104c97io101)))))))))))) (fun s => normC [0, 1, 2, 6, 7, 8, 1000000000, 1000000001] s K) (xb104c97io101_18 n m1) rt104c97io101 s
noncomputable def L104c97io101_1 (n : Nat × Nat) (m : Nat) (v1 : Int) (blockSize6 : Int) (a7 : Int) (b8 : Int) (u0 : List Int) (u1 : List Int) : Option R104c97io101 := loopN (F104c97io101_4 n) m { tm := [.own 1000000000 none false, .c (.int .i64 v1), .fn 97 [.ptr 1000000001 0], uu, uu, uu, .c (.int .i64 blockSize6), .c (.int .i64 a7), .c (.int .i64 b8), uu, uu, uu, uu, uu, uu, uu, uu, uu, uu, uu, uu, uu, uu, uu, uu, uu, uu, uu, uu, uu, uu, uu, uu, uu, uu, uu, uu, uu, uu, uu, uu, uu, uu, uu, uu, uu, uu, uu, uu, uu, uu, uu, uu, uu, uu, uu, uu, uu, uu, uu, uu, uu, uu], hp := (upd (upd emp 1000000001 (.box [.sl (.int .i64) u1 false])) 1000000000 (.arr (.int .i64) u0 false)) }
noncomputable def L104c97io101_2 (n : Nat × Nat) (m : Nat) (v1 : Int) (blockSize6 : Int) (u0 : List Int) (u1 : List Int) : Option R104c97io101 := loopN (F104c97io101_11 n) m { tm := [.own 1000000000 none false, .c (.int .i64 v1), .fn 97 [.ptr 1000000001 0], uu, uu, uu, .c (.int .i64 blockSize6), uu, uu, uu, uu, uu, uu, uu, uu, uu, uu, uu, uu, uu, uu, uu, uu, uu, uu, uu, uu, uu, uu, uu, uu, uu, uu, uu, uu, uu, uu, uu, uu, uu, uu, uu, uu, uu, uu, uu, uu, uu, uu, uu, uu, uu, uu, uu, uu, uu, uu, uu, uu, uu, uu, uu, uu], hp := (upd (upd emp 1000000001 (.box [.sl (.int .i64) u1 false])) 1000000000 (.arr (.int .i64) u0 false)) }
noncomputable def L104c97io101_3 (n : Nat × Nat) (m1 : Nat) (m : Nat) (v1 : Int) (blockSize6 : Int) (a7 : Int) (b8 : Int) (u0 : List Int) (u1 : List Int) : Option R104c97io101 := loopN (F104c97io101_19 n m1) m { tm := [.own 1000000000 none false, .c (.int .i64 v1), .fn 97 [.ptr 1000000001 0], uu, uu, uu, .c (.int .i64 blockSize6), .c (.int .i64 a7), .c (.int .i64 b8), uu, uu, uu, uu, uu, uu, uu, uu, uu, uu, uu, uu, uu, uu, uu, uu, uu, uu, uu, uu, uu, uu, uu, uu, uu, uu, uu, uu, uu, uu, uu, uu, uu, uu, uu, uu, uu, uu, uu, uu, uu, uu, uu, uu, uu, uu, uu, uu, uu, uu, uu, uu, uu, uu], hp := (upd (upd emp 1000000001 (.box [.sl (.int .i64) u1 false])) 1000000000 (.arr (.int .i64) u0 false)) }
theorem L104c97io101_1_eq (n : Nat × Nat) (m1 : Nat) (v1 : Int) (blockSize6 : Int) (a7 : Int) (b8 : Int) (u0 : List Int) (u1 : List Int) : L104c97io101_1 n (m1 + 1) v1 blockSize6 a7 b8 u0 u1 =
 (bif decide (b8 ≤ v1) then (S105c97io1001 n u0 a7 b8 u1).bind fun r1' =>
 (bif Nat.beq r1'.2.1.length u0.length then L104c97io101_1 n m1 v1 blockSize6 b8 (wr .i64 (b8 + blockSize6)) r1'.2.1 r1'.2.2.1
 else none)
 else (S105c97io1001 n u0 a7 v1 u1).bind fun r2' =>
 (bif Nat.beq r2'.2.1.length u0.length then L104c97io101_2 n n.1 v1 blockSize6 r2'.2.1 r2'.2.2.1
 else none)) := by kernel_rfl
theorem L104c97io101_2_eq (n : Nat × Nat) (m1 : Nat) (v1 : Int) (blockSize6 : Int) (u0 : List Int) (u1 : List Int) : L104c97io101_2 n (m1 + 1) v1 blockSize6 u0 u1 =
 (bif decide (blockSize6 < v1) then L104c97io101_3 n m1 n.1 v1 blockSize6 0 (wr .i64 (2 * blockSize6)) u0 u1
 else some ((), u0, u1, ())) := by kernel_rfl
theorem L104c97io101_3_eq (n : Nat × Nat) (m1 m2 : Nat) (v1 : Int) (blockSize6 : Int) (a7 : Int) (b8 : Int) (u0 : List Int) (u1 : List Int) : L104c97io101_3 n m1 (m2 + 1) v1 blockSize6 a7 b8 u0 u1 =
 (bif decide (b8 ≤ v1) then (S106c97io10001 n u0 a7 (wr .i64 (a7 + blockSize6)) b8 u1).bind fun r3' =>
 (bif Nat.beq r3'.2.1.length u0.length then L104c97io101_3 n m1 m2 v1 blockSize6 b8 (wr .i64 (b8 + (wr .i64 (2 * blockSize6)))) r3'.2.1 r3'.2.2.1
 else none)
 else (bif decide (wr .i64 (a7 + blockSize6) < v1) then (S106c97io10001 n u0 a7 (wr .i64 (a7 + blockSize6)) v1 u1).bind fun r4' =>
 (bif Nat.beq r4'.2.1.length u0.length then L104c97io101_2 n m1 v1 (wr .i64 (blockSize6 * 2)) r4'.2.1 r4'.2.2.1
 else none)
 else L104c97io101_2 n m1 v1 (wr .i64 (blockSize6 * 2)) u0 u1)) := by kernel_rfl
noncomputable def S104c97io101 (n : Nat × Nat) (data0 : List Int) (v1 : Int) (cp_2_0 : List Int) : Option R104c97io101 := run (E104c97io101 n) c104c97io101 an104c97io101 rt104c97io101 (fun _ _ => none) rt104c97io101 { tm := [.own 1000000000 none false, .c (.int .i64 v1), .fn 97 [.ptr 1000000001 0], uu, uu, uu, uu, uu, uu, uu, uu, uu, uu, uu, uu, uu, uu, uu, uu, uu, uu, uu, uu, uu, uu, uu, uu, uu, uu, uu, uu, uu, uu, uu, uu, uu, uu, uu, uu, uu, uu, uu, uu, uu, uu, uu, uu, uu, uu, uu, uu, uu, uu, uu, uu, uu, uu, uu, uu, uu, uu, uu, uu], hp := (upd (upd emp 1000000001 (.box [.sl (.int .i64) cp_2_0 false])) 1000000000 (.arr (.int .i64) data0 false)) }
theorem S104c97io101_eq (n : Nat × Nat) (data0 : List Int) (v1 : Int) (cp_2_0 : List Int) : S104c97io101 n data0 v1 cp_2_0 =
    L104c97io101_1 n n.1 v1 20 0 20 data0 cp_2_0 := by kernel_rfl
theorem S104c97io101_run (n : Nat × Nat) (xs : qksDen pk104c97io101) : S104c97io101 n xs.1 xs.2.1 xs.2.2.1.1 = runG (E104c97io101 n) noScope c104c97io101 an104c97io101 (rtIO rk104c97io101 (pk104c97io101.flatMap QK.ods)) (fun _ _ => none) (rtIO rk104c97io101 (pk104c97io101.flatMap QK.ods)) (st1 pk104c97io101 xs Tryd.f104.ntmps) := by kernel_rfl
noncomputable def P104c97io101 (n : Nat × Nat) := phioOf pk104c97io101 rk104c97io101 (pk104c97io101.flatMap QK.ods) (fun xs => S104c97io101 n xs.1 xs.2.1 xs.2.2.1.1)
theorem call104 : CallOK Tryd.prog 104 := callOK_of Tryd.func104 (by kernel_rfl) (by kernel_rfl)
theorem env104c97io101 (n : Nat × Nat) : EnvOK Tryd.prog (E104c97io101 n) := envOK (l := io104c97io101 n) noPhi_ok rfl rfl (by kernel_rfl) ⟨FC105c97io1001 n, call105, FC106c97io10001 n, call106, trivial⟩
theorem par104c97io101 (n : Nat × Nat) : EnvPar (E104c97io101 n) := envPar (l := io104c97io101 n) noPhi_par rfl ⟨phioOf_Pario1, parP106c97io10001 n, trivial⟩
theorem FC104c97io101 (n : Nat × Nat) : FCios Tryd.prog 104 (pk104c97io101.map QK.flag) (P104c97io101 n) := phioOf_FCios fun xs r h vs hv => FCio.of_runG tabOK eqsOK (env104c97io101 n) (par104c97io101 n) mixed (fun _ p _ => noScope_ok p.1 p.2) Tryd.func104 (c := c104c97io101) (an := an104c97io101) (qks := pk104c97io101) (rks := rk104c97io101) (by kernel_rfl) (by kernel_rfl) hv ((S104c97io101_run n xs).symm.trans h)
/- slices.SortStableFunc[[]int,int] -/
abbrev R96c97io11 := (Unit) × (List Int) × (List Int) × Unit
noncomputable def c96c97io11 : Code := bodyOf Tryd.f96
noncomputable def an96c97io11 : Ann := .l
def pk96c97io11 : List QK := [.oa (.int .i64), .of 97 [(.sl (.int .i64))]]
def rk96c97io11 : List RK := []
noncomputable def rt96c97io11 (st : St) : Option R96c97io11 := rtIO rk96c97io11 (pk96c97io11.flatMap QK.ods) st
noncomputable def io96c97io11 (n : Nat × Nat) : List IoE := [⟨104, (isFns [none, none, some 97]), pk104c97io101.map QK.flag, P104c97io101 n⟩]
noncomputable def E96c97io11 (n : Nat × Nat) : Env := { T := tab, phi := noPhi, eff := fun _ => false, fuel := n.1, hold := n.2, phio := phioL (io96c97io11 n), iop := iopL (io96c97io11 n) }
noncomputable def S96c97io11 (n : Nat × Nat) (x0 : List Int) (cp_1_0 : List Int) : Option R96c97io11 := run (E96c97io11 n) c96c97io11 an96c97io11 rt96c97io11 (fun _ _ => none) rt96c97io11 { tm := [.own 1000000000 none false, .fn 97 [.ptr 1000000001 0], uu, uu, uu, uu, uu, uu, uu], hp := (upd (upd emp 1000000001 (.box [.sl (.int .i64) cp_1_0 false])) 1000000000 (.arr (.int .i64) x0 false)) }
theorem S96c97io11_eq (n : Nat × Nat) (x0 : List Int) (cp_1_0 : List Int) : S96c97io11 n x0 cp_1_0 =
 (S104c97io101 n x0 (x0.length : Int) cp_1_0).bind fun r1' =>
 (bif Nat.beq r1'.2.1.length x0.length then some ((), r1'.2.1, r1'.2.2.1, ())
 else none) := by kernel_rfl
theorem S96c97io11_run (n : Nat × Nat) (xs : qksDen pk96c97io11) : S96c97io11 n xs.1 xs.2.1.1 = runG (E96c97io11 n) noScope c96c97io11 an96c97io11 (rtIO rk96c97io11 (pk96c97io11.flatMap QK.ods)) (fun _ _ => none) (rtIO rk96c97io11 (pk96c97io11.flatMap QK.ods)) (st1 pk96c97io11 xs Tryd.f96.ntmps) := by kernel_rfl
noncomputable def P96c97io11 (n : Nat × Nat) := phioOf pk96c97io11 rk96c97io11 (pk96c97io11.flatMap QK.ods) (fun xs => S96c97io11 n xs.1 xs.2.1.1)
theorem call96 : CallOK Tryd.prog 96 := callOK_of Tryd.func96 (by kernel_rfl) (by kernel_rfl)
theorem env96c97io11 (n : Nat × Nat) : EnvOK Tryd.prog (E96c97io11 n) := envOK (l := io96c97io11 n) noPhi_ok rfl rfl (by kernel_rfl) ⟨FC104c97io101 n, call104, trivial⟩
theorem par96c97io11 (n : Nat × Nat) : EnvPar (E96c97io11 n) := envPar (l := io96c97io11 n) noPhi_par rfl ⟨phioOf_Pario1, trivial⟩
theorem FC96c97io11 (n : Nat × Nat) : FCios Tryd.prog 96 (pk96c97io11.map QK.flag) (P96c97io11 n) := phioOf_FCios fun xs r h vs hv => FCio.of_runG tabOK eqsOK (env96c97io11 n) (par96c97io11 n) mixed (fun _ p _ => noScope_ok p.1 p.2) Tryd.func96 (c := c96c97io11) (an := an96c97io11) (qks := pk96c97io11) (rks := rk96c97io11) (by kernel_rfl) (by kernel_rfl) hv ((S96c97io11_run n xs).symm.trans h)
abbrev R77 := List Int
noncomputable def c77 : Code := bodyOf Tryd.f77
noncomputable def an77 : Ann := (.s .l (.s .l (.s (.s .l (.j [1, 3] (.j [1, 3, 9, 10] (.s .l (.s (.j [1, 3, 9, 10] .l .l) (.s (.j [1, 3, 9, 10] .l .l) .l))) .l) .l)) .l)))
def pk77 : List PK := [.c (.sl (.int .i64))]
def rk77 : List RK := [.own (.int .i64) 2]
noncomputable def rt77 (st : St) : Option R77 := rtG rk77 st
noncomputable def io77 (n : Nat × Nat) : List IoE := [⟨96, (isFns [none, some 97]), pk96c97io11.map QK.flag, P96c97io11 n⟩]
noncomputable def E77 (n : Nat × Nat) : Env := { T := tab, phi := noPhi, eff := fun _ => false, fuel := n.1, hold := n.2, phio := phioL (io77 n), iop := iopL (io77 n) }
noncomputable def kq77_1 (n : Nat × Nat) : St → Option R77 := run (E77 n) (cB (cB (cB c77))) (Ann.snd (Ann.snd (Ann.snd an77))) rt77 (fun _ _ => none) rt77
noncomputable def xb77_3 (n : Nat × Nat) : Nat → St → Option R77 := fun j s => bif Nat.beq j 0 then normC [1, 3] s (kq77_1 n) else (fun _ _ => none) j s
noncomputable def F77_4 (n : Nat × Nat) : (St → Option R77) → St → Option R77 := fun K s => run (E77 n) (cA (cA (cB (cA (cB (cB c77)))))) (Ann.fst (Ann.fst (Ann.snd (Ann.fst (Ann.snd (Ann.snd an77)))))) (fun s => normC [1, 3, 9, 10] s K) (xb77_3 n) rt77 s
noncomputable def L77_1 (n : Nat × Nat) (m : Nat) (v9 : Int) (v10 : Int) (pieces1 : List Int) (out3 : List Int) : Option R77 := loopN (F77_4 n) m { tm := [uu, .ptr 1 0, uu, .own 3 none false, uu, uu, uu, uu, uu, .c (.int .i64 v9), .c (.int .i64 v10), uu, uu, uu, uu, uu, uu, uu, uu, uu, uu, uu], hp := (upd (upd emp 3 (.arr (.int .i64) out3 false)) 1 (.box [.sl (.int .i64) pieces1 false])) }
theorem L77_1_eq (n : Nat × Nat) (m1 : Nat) (v9 : Int) (v10 : Int) (pieces1 : List Int) (out3 : List Int) : L77_1 n (m1 + 1) v9 v10 pieces1 out3 =
 (bif decide (v10 < v9) then (bif inB v10 out3.length then (idx out3 v10).bind fun x1' =>
        L77_1 n m1 v9 (wr .i64 (v10 + 1)) pieces1 (out3.set (Int.toNat v10) v10)
 else none)
 else (S96c97io11 n out3 pieces1).bind fun r2' =>
 (bif Nat.beq r2'.2.1.length out3.length then some r2'.2.1
 else none)) := by kernel_rfl
noncomputable def S77 (n : Nat × Nat) (pieces0 : List Int) : Option R77 := run (E77 n) c77 an77 rt77 (fun _ _ => none) rt77 { tm := [.c (.sl (.int .i64) pieces0 false), uu, uu, uu, uu, uu, uu, uu, uu, uu, uu, uu, uu, uu, uu, uu, uu, uu, uu, uu, uu, uu], hp := emp }
theorem S77_eq (n : Nat × Nat) (pieces0 : List Int) : S77 n pieces0 =
 (bif decide (0 ≤ (pieces0.length : Int)) && decide ((pieces0.length : Int) ≤ (pieces0.length : Int)) && decide ((pieces0.length : Int) ≤ lim) then L77_1 n n.1 ((List.replicate (Int.toNat (pieces0.length : Int)) (0 : Int)).length : Int) 0 pieces0 (List.replicate (Int.toNat (pieces0.length : Int)) (0 : Int))
 else none) := by kernel_rfl
theorem S77_run (n : Nat × Nat) (xs : pksDen pk77) : S77 n xs.1 = runG (E77 n) noScope c77 an77 (rtG rk77) (fun _ _ => none) (rtG rk77) (st0 pk77 xs Tryd.f77.ntmps) := by kernel_rfl
noncomputable def P77 (n : Nat × Nat) := phiOf pk77 rk77 (fun xs => S77 n xs.1)
theorem call77 : CallOK Tryd.prog 77 := callOK_of Tryd.func77 (by kernel_rfl) (by kernel_rfl)
theorem env77 (n : Nat × Nat) : EnvOK Tryd.prog (E77 n) := envOK (l := io77 n) noPhi_ok rfl rfl (by kernel_rfl) ⟨FC96c97io11 n, call96, trivial⟩
theorem par77 (n : Nat × Nat) : EnvPar (E77 n) := envPar (l := io77 n) noPhi_par rfl ⟨phioOf_Pario1, trivial⟩
theorem FC77 (n : Nat × Nat) : FCs Tryd.prog 77 (P77 n) := phiOf_FCs fun xs r h vs hv => FC.of_runG tabOK eqsOK (env77 n) (par77 n) mixed (fun _ p _ => noScope_ok p.1 p.2) Tryd.func77 (c := c77) (an := an77) (pks := pk77) (rks := rk77) (by kernel_rfl) (by kernel_rfl) hv ((S77_run n xs).symm.trans h)
abbrev R30 := List Int × Int
noncomputable def c30 : Code := bodyOf Tryd.f30
noncomputable def an30 : Ann := (.s .l (.s (.s .l (.s .l (.j [1] .l .l))) .l))
def pk30 : List PK := [.c (.int .i64), .c (.sl (.int .i64))]
def rk30 : List RK := [.own (.int .i64) 4, .c (.int .i64) 5]
noncomputable def rt30 (st : St) : Option R30 := rtG rk30 st
noncomputable def E30 (n : Nat × Nat) : Env := { T := tab, phi := (consPhi 26 (fun _ => true) (P26 n) (consPhi 77 (fun _ => true) (P77 n) noPhi)), eff := fun _ => false, fuel := n.1, hold := n.2 }
noncomputable def S30 (n : Nat × Nat) (size0 : Int) (pieces1 : List Int) : Option R30 := run (E30 n) c30 an30 rt30 (fun _ _ => none) rt30 { tm := [.c (.int .i64 size0), .c (.sl (.int .i64) pieces1 false), uu, uu, uu, uu, uu, uu, uu, uu, uu, uu, uu, uu, uu], hp := emp }
theorem S30_eq (n : Nat × Nat) (size0 : Int) (pieces1 : List Int) : S30 n size0 pieces1 =
 (S26 n size0 pieces1).bind fun r1' =>
 (bif (r1' != 0) then some ([], r1')
 else (S77 n pieces1).bind fun r2' =>
 some (r2', 0)) := by kernel_rfl
theorem S30_run (n : Nat × Nat) (xs : pksDen pk30) : S30 n xs.1 xs.2.1 = runG (E30 n) noScope c30 an30 (rtG rk30) (fun _ _ => none) (rtG rk30) (st0 pk30 xs Tryd.f30.ntmps) := by kernel_rfl
noncomputable def P30 (n : Nat × Nat) := phiOf pk30 rk30 (fun xs => S30 n xs.1 xs.2.1)
theorem call30 : CallOK Tryd.prog 30 := callOK_of Tryd.func30 (by kernel_rfl) (by kernel_rfl)
theorem env30 (n : Nat × Nat) : EnvOK Tryd.prog (E30 n) := envOK0 (consPhi_ok (FC26 n) call26 (consPhi_ok (FC77 n) call77 noPhi_ok)) rfl rfl
theorem par30 (n : Nat × Nat) : EnvPar (E30 n) := envPar0 (consPhi_par phiOf_Par1 (consPhi_par phiOf_Par1 noPhi_par)) rfl
theorem FC30 (n : Nat × Nat) : FCs Tryd.prog 30 (P30 n) := phiOf_FCs fun xs r h vs hv => FC.of_runG tabOK eqsOK (env30 n) (par30 n) mixed (fun _ p _ => noScope_ok p.1 p.2) Tryd.func30 (c := c30) (an := an30) (pks := pk30) (rks := rk30) (by kernel_rfl) (by kernel_rfl) hv ((S30_run n xs).symm.trans h)
/- math/bits.Mul32 -/
abbrev R102 := Int × Int
noncomputable def c102 : Code := bodyOf Tryd.f102
noncomputable def an102 : Ann := .l
def pk102 : List PK := [.c (.int .u32), .c (.int .u32)]
def rk102 : List RK := [.c (.int .u32) 4, .c (.int .u32) 5]
noncomputable def rt102 (st : St) : Option R102 := rtG rk102 st
noncomputable def E102 (n : Nat × Nat) : Env := { T := tab, phi := noPhi, eff := fun _ => false, fuel := n.1, hold := n.2 }
noncomputable def S102 (n : Nat × Nat) (x0 : Int) (y1 : Int) : Option R102 := run (E102 n) c102 an102 rt102 (fun _ _ => none) rt102 { tm := [.c (.int .u32 x0), .c (.int .u32 y1), uu, uu, uu, uu, uu, uu, uu, uu, uu, uu, uu, uu, uu, uu, uu], hp := emp }
theorem S102_eq (n : Nat × Nat) (x0 : Int) (y1 : Int) : S102 n x0 y1 =
 (bif decide (32 < 0) then none
 else some (wr .u32 (Int.fdiv (wr .u64 ((wr .u64 x0) * (wr .u64 y1))) (2 ^ (min (Int.toNat 32) (IntKind.bits .u64)))), wr .u32 (wr .u64 ((wr .u64 x0) * (wr .u64 y1))))) := by kernel_rfl
theorem S102_run (n : Nat × Nat) (xs : pksDen pk102) : S102 n xs.1 xs.2.1 = runG (E102 n) noScope c102 an102 (rtG rk102) (fun _ _ => none) (rtG rk102) (st0 pk102 xs Tryd.f102.ntmps) := by kernel_rfl
noncomputable def P102 (n : Nat × Nat) := phiOf pk102 rk102 (fun xs => S102 n xs.1 xs.2.1)
theorem call102 : CallOK Tryd.prog 102 := callOK_of Tryd.func102 (by kernel_rfl) (by kernel_rfl)
theorem env102 (n : Nat × Nat) : EnvOK Tryd.prog (E102 n) := envOK0 noPhi_ok rfl rfl
theorem par102 (n : Nat × Nat) : EnvPar (E102 n) := envPar0 noPhi_par rfl
theorem FC102 (n : Nat × Nat) : FCs Tryd.prog 102 (P102 n) := phiOf_FCs fun xs r h vs hv => FC.of_runG tabOK eqsOK (env102 n) (par102 n) mixed (fun _ p _ => noScope_ok p.1 p.2) Tryd.func102 (c := c102) (an := an102) (pks := pk102) (rks := rk102) (by kernel_rfl) (by kernel_rfl) hv ((S102_run n xs).symm.trans h)
/- math/bits.Mul64 -/
abbrev R103 := Int × Int
noncomputable def c103 : Code := bodyOf Tryd.f103
noncomputable def an103 : Ann := .l
def pk103 : List PK := [.c (.int .u64), .c (.int .u64)]
def rk103 : List RK := [.c (.int .u64) 4, .c (.int .u64) 5]
noncomputable def rt103 (st : St) : Option R103 := rtG rk103 st
noncomputable def E103 (n : Nat × Nat) : Env := { T := tab, phi := noPhi, eff := fun _ => false, fuel := n.1, hold := n.2 }
noncomputable def S103 (n : Nat × Nat) (x0 : Int) (y1 : Int) : Option R103 := run (E103 n) c103 an103 rt103 (fun _ _ => none) rt103 { tm := [.c (.int .u64 x0), .c (.int .u64 y1), uu, uu, uu, uu, uu, uu, uu, uu, uu, uu, uu, uu, uu, uu, uu, uu, uu, uu, uu, uu, uu, uu, uu, uu, uu, uu, uu, uu, uu, uu, uu, uu, uu, uu, uu, uu, uu, uu, uu, uu, uu, uu, uu, uu, uu, uu, uu, uu, uu], hp := emp }
theorem S103_eq (n : Nat × Nat) (x0 : Int) (y1 : Int) : S103 n x0 y1 =
 (bif decide (32 < 0) then none
 else (bif decide (32 < 0) then none
 else (bif decide (32 < 0) then none
 else (bif decide (32 < 0) then none
 else (bif decide (32 < 0) then none
 else some (wr .u64 ((wr .u64 ((wr .u64 ((Int.fdiv x0 (2 ^ (min (Int.toNat 32) (IntKind.bits .u64)))) * (Int.fdiv y1 (2 ^ (min (Int.toNat 32) (IntKind.bits .u64)))))) + (Int.fdiv (wr .u64 ((wr .u64 ((Int.fdiv x0 (2 ^ (min (Int.toNat 32) (IntKind.bits .u64)))) * (wr .u64 (BitVec.ofInt (IntKind.bits .u64) y1 &&& BitVec.ofInt (IntKind.bits .u64) 4294967295).toNat))) + (Int.fdiv (wr .u64 ((wr .u64 (BitVec.ofInt (IntKind.bits .u64) x0 &&& BitVec.ofInt (IntKind.bits .u64) 4294967295).toNat) * (wr .u64 (BitVec.ofInt (IntKind.bits .u64) y1 &&& BitVec.ofInt (IntKind.bits .u64) 4294967295).toNat))) (2 ^ (min (Int.toNat 32) (IntKind.bits .u64)))))) (2 ^ (min (Int.toNat 32) (IntKind.bits .u64)))))) + (Int.fdiv (wr .u64 ((wr .u64 (BitVec.ofInt (IntKind.bits .u64) (wr .u64 ((wr .u64 ((Int.fdiv x0 (2 ^ (min (Int.toNat 32) (IntKind.bits .u64)))) * (wr .u64 (BitVec.ofInt (IntKind.bits .u64) y1 &&& BitVec.ofInt (IntKind.bits .u64) 4294967295).toNat))) + (Int.fdiv (wr .u64 ((wr .u64 (BitVec.ofInt (IntKind.bits .u64) x0 &&& BitVec.ofInt (IntKind.bits .u64) 4294967295).toNat) * (wr .u64 (BitVec.ofInt (IntKind.bits .u64) y1 &&& BitVec.ofInt (IntKind.bits .u64) 4294967295).toNat))) (2 ^ (min (Int.toNat 32) (IntKind.bits .u64)))))) &&& BitVec.ofInt (IntKind.bits .u64) 4294967295).toNat) + (wr .u64 ((wr .u64 (BitVec.ofInt (IntKind.bits .u64) x0 &&& BitVec.ofInt (IntKind.bits .u64) 4294967295).toNat) * (Int.fdiv y1 (2 ^ (min (Int.toNat 32) (IntKind.bits .u64)))))))) (2 ^ (min (Int.toNat 32) (IntKind.bits .u64))))), wr .u64 (x0 * y1))))))) := by kernel_rfl
theorem S103_run (n : Nat × Nat) (xs : pksDen pk103) : S103 n xs.1 xs.2.1 = runG (E103 n) noScope c103 an103 (rtG rk103) (fun _ _ => none) (rtG rk103) (st0 pk103 xs Tryd.f103.ntmps) := by kernel_rfl
noncomputable def P103 (n : Nat × Nat) := phiOf pk103 rk103 (fun xs => S103 n xs.1 xs.2.1)
theorem call103 : CallOK Tryd.prog 103 := callOK_of Tryd.func103 (by kernel_rfl) (by kernel_rfl)
theorem env103 (n : Nat × Nat) : EnvOK Tryd.prog (E103 n) := envOK0 noPhi_ok rfl rfl
theorem par103 (n : Nat × Nat) : EnvPar (E103 n) := envPar0 noPhi_par rfl
theorem FC103 (n : Nat × Nat) : FCs Tryd.prog 103 (P103 n) := phiOf_FCs fun xs r h vs hv => FC.of_runG tabOK eqsOK (env103 n) (par103 n) mixed (fun _ p _ => noScope_ok p.1 p.2) Tryd.func103 (c := c103) (an := an103) (pks := pk103) (rks := rk103) (by kernel_rfl) (by kernel_rfl) hv ((S103_run n xs).symm.trans h)
/- math/bits.Mul -/
abbrev R94 := Int × Int
noncomputable def c94 : Code := bodyOf Tryd.f94
noncomputable def an94 : Ann := (.s .l (.s (.j [0, 1] .l .l) .l))
def pk94 : List PK := [.c (.int .u64), .c (.int .u64)]
def rk94 : List RK := [.c (.int .u64) 4, .c (.int .u64) 5]
noncomputable def rt94 (st : St) : Option R94 := rtG rk94 st
noncomputable def E94 (n : Nat × Nat) : Env := { T := tab, phi := (consPhi 102 (fun _ => true) (P102 n) (consPhi 103 (fun _ => true) (P103 n) noPhi)), eff := fun _ => false, fuel := n.1, hold := n.2 }
noncomputable def S94 (n : Nat × Nat) (x0 : Int) (y1 : Int) : Option R94 := run (E94 n) c94 an94 rt94 (fun _ _ => none) rt94 { tm := [.c (.int .u64 x0), .c (.int .u64 y1), uu, uu, uu, uu, uu, uu, uu, uu, uu, uu, uu, uu, uu, uu, uu, uu, uu, uu, uu, uu, uu, uu, uu, uu, uu, uu, uu, uu], hp := emp }
theorem S94_eq (n : Nat × Nat) (x0 : Int) (y1 : Int) : S94 n x0 y1 =
 (bif false then (S102 n (wr .u32 x0) (wr .u32 y1)).bind fun r1' =>
 some (wr .u64 r1'.1, wr .u64 r1'.2)
 else (S103 n x0 y1).bind fun r2' =>
 some (r2'.1, r2'.2)) := by kernel_rfl
theorem S94_run (n : Nat × Nat) (xs : pksDen pk94) : S94 n xs.1 xs.2.1 = runG (E94 n) noScope c94 an94 (rtG rk94) (fun _ _ => none) (rtG rk94) (st0 pk94 xs Tryd.f94.ntmps) := by kernel_rfl
noncomputable def P94 (n : Nat × Nat) := phiOf pk94 rk94 (fun xs => S94 n xs.1 xs.2.1)
theorem call94 : CallOK Tryd.prog 94 := callOK_of Tryd.func94 (by kernel_rfl) (by kernel_rfl)
theorem env94 (n : Nat × Nat) : EnvOK Tryd.prog (E94 n) := envOK0 (consPhi_ok (FC102 n) call102 (consPhi_ok (FC103 n) call103 noPhi_ok)) rfl rfl
theorem par94 (n : Nat × Nat) : EnvPar (E94 n) := envPar0 (consPhi_par phiOf_Par1 (consPhi_par phiOf_Par1 noPhi_par)) rfl
theorem FC94 (n : Nat × Nat) : FCs Tryd.prog 94 (P94 n) := phiOf_FCs fun xs r h vs hv => FC.of_runG tabOK eqsOK (env94 n) (par94 n) mixed (fun _ p _ => noScope_ok p.1 p.2) Tryd.func94 (c := c94) (an := an94) (pks := pk94) (rks := rk94) (by kernel_rfl) (by kernel_rfl) hv ((S94_run n xs).symm.trans h)
/- slices.Repeat[[]int,int] -/
abbrev R69 := List Int
noncomputable def c69 : Code := bodyOf Tryd.f69
noncomputable def an69 : Ann := (.s .l (.s (.s .l (.j [0, 1, 24, 25] .l .l)) (.s .l (.s (.s .l (.j [0, 6] .l .l)) (.s .l (.s .l (.s (.j [7] (.j [7, 8] (.s (.s .l (.j [7, 8] .l .l)) (.j [7, 8] .l .l)) .l) .l) .l)))))))
def pk69 : List PK := [.c (.sl (.int .i64)), .c (.int .i64)]
def rk69 : List RK := [.own (.int .i64) 4]
noncomputable def rt69 (st : St) : Option R69 := rtG rk69 st
noncomputable def E69 (n : Nat × Nat) : Env := { T := tab, phi := (consPhi 94 (fun _ => true) (P94 n) noPhi), eff := fun _ => false, fuel := n.1, hold := n.2 }
noncomputable def kq69_5 (n : Nat × Nat) : St → Option R69 := run (E69 n) (cB (cB (cB (cB (cB (cB (cB c69))))))) (Ann.snd (Ann.snd (Ann.snd (Ann.snd (Ann.snd (Ann.snd (Ann.snd an69))))))) rt69 (fun _ _ => none) rt69
noncomputable def xb69_7 (n : Nat × Nat) : Nat → St → Option R69 := fun j s => bif Nat.beq j 0 then normC [7] s (kq69_5 n) else (fun _ _ => none) j s
noncomputable def F69_8 (n : Nat × Nat) : (St → Option R69) → St → Option R69 := fun K s => run (E69 n) (cA (cA (cA (cB (cB (cB (cB (cB (cB c69))))))))) (Ann.fst (Ann.fst (Ann.fst (Ann.snd (Ann.snd (Ann.snd (Ann.snd (Ann.snd (Ann.snd an69))))))))) (fun s => normC [7, 8] s K) (xb69_7 n) rt69 s
noncomputable def L69_1 (n : Nat × Nat) (m : Nat) (v8 : Int) (newslice7 : List Int) : Option R69 := loopN (F69_8 n) m { tm := [uu, uu, uu, uu, uu, uu, uu, .own 7 none false, .c (.int .i64 v8), uu, uu, uu, uu, uu, uu, uu, uu, uu, uu, uu, uu, uu, uu, uu, uu, uu, uu, uu, uu, uu, uu, uu, uu, uu, uu, uu, uu, uu, uu, uu, uu, uu, uu, uu, uu, uu, uu, uu], hp := (upd emp 7 (.arr (.int .i64) newslice7 false)) }
theorem L69_1_eq (n : Nat × Nat) (m1 : Nat) (v8 : Int) (newslice7 : List Int) : L69_1 n (m1 + 1) v8 newslice7 =
 (bif decide (v8 < (newslice7.length : Int)) then (bif bounds (some v8) none none newslice7.length then (bif bounds none (some v8) none newslice7.length then L69_1 n m1 (wr .i64 (v8 + ((min ((newslice7.drop (0 + 0)).take ((Int.toNat v8) - 0)).length ((newslice7.drop (0 + (Int.toNat v8))).take (newslice7.length - (Int.toNat v8))).length : Nat) : Int))) (newslice7.take (0 + (Int.toNat v8)) ++ ((newslice7.drop (0 + 0)).take ((Int.toNat v8) - 0)).take (min ((newslice7.drop (0 + 0)).take ((Int.toNat v8) - 0)).length ((newslice7.drop (0 + (Int.toNat v8))).take (newslice7.length - (Int.toNat v8))).length) ++ newslice7.drop ((0 + (Int.toNat v8)) + min ((newslice7.drop (0 + 0)).take ((Int.toNat v8) - 0)).length ((newslice7.drop (0 + (Int.toNat v8))).take (newslice7.length - (Int.toNat v8))).length))
 else none)
 else none)
 else some newslice7) := by kernel_rfl
noncomputable def S69 (n : Nat × Nat) (x0 : List Int) (count1 : Int) : Option R69 := run (E69 n) c69 an69 rt69 (fun _ _ => none) rt69 { tm := [.c (.sl (.int .i64) x0 false), .c (.int .i64 count1), uu, uu, uu, uu, uu, uu, uu, uu, uu, uu, uu, uu, uu, uu, uu, uu, uu, uu, uu, uu, uu, uu, uu, uu, uu, uu, uu, uu, uu, uu, uu, uu, uu, uu, uu, uu, uu, uu, uu, uu, uu, uu, uu, uu, uu, uu], hp := emp }
theorem S69_eq (n : Nat × Nat) (x0 : List Int) (count1 : Int) : S69 n x0 count1 =
 (bif decide (count1 < 0) then none
 else (S94 n (wr .u64 (x0.length : Int)) (wr .u64 count1)).bind fun r1' =>
 ((bif (decide (r1'.1 > 0) == false) then some (decide (r1'.2 > 9223372036854775807))
 else some true)).bind fun b2' =>
 (bif b2' then none
 else (bif decide (0 ≤ wr .i64 r1'.2) && decide (wr .i64 r1'.2 ≤ wr .i64 r1'.2) && decide (wr .i64 r1'.2 ≤ lim) then L69_1 n n.1 ((min x0.length (List.replicate (Int.toNat (wr .i64 r1'.2)) (0 : Int)).length : Nat) : Int) ((List.replicate (Int.toNat (wr .i64 r1'.2)) (0 : Int)).take 0 ++ x0.take (min x0.length (List.replicate (Int.toNat (wr .i64 r1'.2)) (0 : Int)).length) ++ (List.replicate (Int.toNat (wr .i64 r1'.2)) (0 : Int)).drop (0 + min x0.length (List.replicate (Int.toNat (wr .i64 r1'.2)) (0 : Int)).length))
 else none))) := by kernel_rfl
theorem S69_run (n : Nat × Nat) (xs : pksDen pk69) : S69 n xs.1 xs.2.1 = runG (E69 n) noScope c69 an69 (rtG rk69) (fun _ _ => none) (rtG rk69) (st0 pk69 xs Tryd.f69.ntmps) := by kernel_rfl
noncomputable def P69 (n : Nat × Nat) := phiOf pk69 rk69 (fun xs => S69 n xs.1 xs.2.1)
theorem call69 : CallOK Tryd.prog 69 := callOK_of Tryd.func69 (by kernel_rfl) (by kernel_rfl)
theorem env69 (n : Nat × Nat) : EnvOK Tryd.prog (E69 n) := envOK0 (consPhi_ok (FC94 n) call94 noPhi_ok) rfl rfl
theorem par69 (n : Nat × Nat) : EnvPar (E69 n) := envPar0 (consPhi_par phiOf_Par1 noPhi_par) rfl
theorem FC69 (n : Nat × Nat) : FCs Tryd.prog 69 (P69 n) := phiOf_FCs fun xs r h vs hv => FC.of_runG tabOK eqsOK (env69 n) (par69 n) mixed (fun _ p _ => noScope_ok p.1 p.2) Tryd.func69 (c := c69) (an := an69) (pks := pk69) (rks := rk69) (by kernel_rfl) (by kernel_rfl) hv ((S69_run n xs).symm.trans h)
abbrev R80 := Bool
noncomputable def c80 : Code := bodyOf Tryd.f80
noncomputable def an80 : Ann := .l
def pk80 : List PK := [.c (.int .i64), .p (.sl (.int .i64)), .p (.int .i64)]
def rk80 : List RK := [.c .bool 4]
noncomputable def rt80 (st : St) : Option R80 := rtG rk80 st
noncomputable def E80 (n : Nat × Nat) : Env := { T := tab, phi := noPhi, eff := fun _ => false, fuel := n.1, hold := n.2 }
noncomputable def S80 (n : Nat × Nat) (v0 : Int) (v1 : List Int) (v2 : Int) : Option R80 := run (E80 n) c80 an80 rt80 (fun _ _ => none) rt80 { tm := [.c (.int .i64 v0), .iptr [.sl (.int .i64) v1 false], .iptr [.int .i64 v2], uu, uu, uu, uu, uu, uu, uu, uu], hp := emp }
theorem S80_eq (n : Nat × Nat) (v0 : Int) (v1 : List Int) (v2 : Int) : S80 n v0 v1 v2 =
 (idx v1 v2).bind fun x1' =>
 some (decide (v0 ≥ x1')) := by kernel_rfl
theorem S80_run (n : Nat × Nat) (xs : pksDen pk80) : S80 n xs.1 xs.2.1 xs.2.2.1 = runG (E80 n) noScope c80 an80 (rtG rk80) (fun _ _ => none) (rtG rk80) (st0 pk80 xs Tryd.f80.ntmps) := by kernel_rfl
noncomputable def P80 (n : Nat × Nat) := phiOf pk80 rk80 (fun xs => S80 n xs.1 xs.2.1 xs.2.2.1)
theorem call80 : CallOK Tryd.prog 80 := callOK_of Tryd.func80 (by kernel_rfl) (by kernel_rfl)
theorem env80 (n : Nat × Nat) : EnvOK Tryd.prog (E80 n) := envOK0 noPhi_ok rfl rfl
theorem par80 (n : Nat × Nat) : EnvPar (E80 n) := envPar0 noPhi_par rfl
theorem FC80 (n : Nat × Nat) : FCs Tryd.prog 80 (P80 n) := phiOf_FCs fun xs r h vs hv => FC.of_runG tabOK eqsOK (env80 n) (par80 n) mixed (fun _ p _ => noScope_ok p.1 p.2) Tryd.func80 (c := c80) (an := an80) (pks := pk80) (rks := rk80) (by kernel_rfl) (by kernel_rfl) hv ((S80_run n xs).symm.trans h)
/- slices.IndexFunc[[]int,int] -/
abbrev R79c80 := Int
noncomputable def c79c80 : Code := bodyOf Tryd.f79
noncomputable def an79c80 : Ann := (.s .l (.s (.s .l (.j [] (.j [0, 1, 7, 8] (.s .l (.s (.j [0, 1, 7, 8] .l .l) (.s (.j [0, 1, 7, 8] (.s .l (.s .l (.j [0, 1, 7, 8] .l .l))) .l) .l))) .l) .l)) .l))
def pk79c80 : List PK := [.c (.sl (.int .i64)), .f 80 [(.sl (.int .i64)), (.int .i64)]]
def rk79c80 : List RK := [.c (.int .i64) 4]
noncomputable def rt79c80 (st : St) : Option R79c80 := rtG rk79c80 st
noncomputable def E79c80 (n : Nat × Nat) : Env := { T := tab, phi := (consPhi 80 (fun _ => true) (P80 n) noPhi), eff := fun _ => false, fuel := n.1, hold := n.2, pcl := [11] }
noncomputable def kq79c80_1 (n : Nat × Nat) : St → Option R79c80 := run (E79c80 n) (cB (cB c79c80)) (Ann.snd (Ann.snd an79c80)) rt79c80 (fun _ _ => none) rt79c80
noncomputable def xb79c80_3 (n : Nat × Nat) : Nat → St → Option R79c80 := fun j s => bif Nat.beq j 0 then normC [] s (kq79c80_1 n) else (fun _ _ => none) j s
noncomputable def F79c80_4 (n : Nat × Nat) : (St → Option R79c80) → St → Option R79c80 := fun K s => run (E79c80 n) (cA (cA (cB (cA (cB c79c80))))) (Ann.fst (Ann.fst (Ann.snd (Ann.fst (Ann.snd an79c80))))) (fun s => normC [0, 1, 7, 8] s K) (xb79c80_3 n) rt79c80 s
noncomputable def L79c80_1 (n : Nat × Nat) (m : Nat) (s0 : List Int) (f1_0 : List Int) (f1_0x : Int) (v7 : Int) (v8 : Int) : Option R79c80 := loopN (F79c80_4 n) m { tm := [.c (.sl (.int .i64) s0 false), .fn 80 [.iptr [.sl (.int .i64) f1_0 false], .iptr [.int .i64 f1_0x]], uu, uu, uu, uu, uu, .c (.int .i64 v7), .c (.int .i64 v8), uu, uu, uu, uu, uu, uu, uu, uu, uu, uu], hp := emp }
theorem L79c80_1_eq (n : Nat × Nat) (m1 : Nat) (s0 : List Int) (f1_0 : List Int) (f1_0x : Int) (v7 : Int) (v8 : Int) : L79c80_1 n (m1 + 1) s0 f1_0 f1_0x v7 v8 =
 (bif decide (v8 < v7) then (idx s0 v8).bind fun x1' =>
 (S80 n x1' f1_0 f1_0x).bind fun r2' =>
 (bif r2' then some v8
 else L79c80_1 n m1 s0 f1_0 f1_0x v7 (wr .i64 (v8 + 1)))
 else some (-1)) := by kernel_rfl
noncomputable def S79c80 (n : Nat × Nat) (s0 : List Int) (cp_1_0 : List Int) (cp_1_1 : Int) : Option R79c80 := run (E79c80 n) c79c80 an79c80 rt79c80 (fun _ _ => none) rt79c80 { tm := [.c (.sl (.int .i64) s0 false), .fn 80 [.iptr [.sl (.int .i64) cp_1_0 false], .iptr [.int .i64 cp_1_1]], uu, uu, uu, uu, uu, uu, uu, uu, uu, uu, uu, uu, uu, uu, uu, uu, uu], hp := emp }
theorem S79c80_eq (n : Nat × Nat) (s0 : List Int) (cp_1_0 : List Int) (cp_1_1 : Int) : S79c80 n s0 cp_1_0 cp_1_1 =
    L79c80_1 n n.1 s0 cp_1_0 cp_1_1 (s0.length : Int) 0 := by kernel_rfl
theorem S79c80_run (n : Nat × Nat) (xs : pksDen pk79c80) : S79c80 n xs.1 xs.2.1.1 xs.2.1.2.1 = runG (E79c80 n) noScope c79c80 an79c80 (rtG rk79c80) (fun _ _ => none) (rtG rk79c80) (st0 pk79c80 xs Tryd.f79.ntmps) := by kernel_rfl
noncomputable def P79c80 (n : Nat × Nat) := phiOf pk79c80 rk79c80 (fun xs => S79c80 n xs.1 xs.2.1.1 xs.2.1.2.1)
theorem env79c80 (n : Nat × Nat) : EnvOK Tryd.prog (E79c80 n) := envOK0 (consPhi_ok (FC80 n) call80 noPhi_ok) rfl rfl
theorem par79c80 (n : Nat × Nat) : EnvPar (E79c80 n) := envPar0 (consPhi_par phiOf_Par1 noPhi_par) rfl
theorem FC79c80 (n : Nat × Nat) : FCs Tryd.prog 79 (P79c80 n) := phiOf_FCs fun xs r h vs hv => FC.of_runG tabOK eqsOK (env79c80 n) (par79c80 n) mixed (fun _ p _ => noScope_ok p.1 p.2) Tryd.func79 (c := c79c80) (an := an79c80) (pks := pk79c80) (rks := rk79c80) (by kernel_rfl) (by kernel_rfl) hv ((S79c80_run n xs).symm.trans h)
/- slices.Index[[]int,int] -/
abbrev R95 := Int
noncomputable def c95 : Code := bodyOf Tryd.f95
noncomputable def an95 : Ann := (.s .l (.s (.s .l (.j [] (.j [0, 1, 7, 8] (.s .l (.s (.j [0, 1, 7, 8] .l .l) (.s (.j [0, 1, 7, 8] (.s .l (.s .l (.j [0, 1, 7, 8] .l .l))) .l) .l))) .l) .l)) .l))
def pk95 : List PK := [.c (.sl (.int .i64)), .c (.int .i64)]
def rk95 : List RK := [.c (.int .i64) 4]
noncomputable def rt95 (st : St) : Option R95 := rtG rk95 st
noncomputable def E95 (n : Nat × Nat) : Env := { T := tab, phi := noPhi, eff := fun _ => false, fuel := n.1, hold := n.2 }
noncomputable def kq95_1 (n : Nat × Nat) : St → Option R95 := run (E95 n) (cB (cB c95)) (Ann.snd (Ann.snd an95)) rt95 (fun _ _ => none) rt95
noncomputable def xb95_3 (n : Nat × Nat) : Nat → St → Option R95 := fun j s => bif Nat.beq j 0 then normC [] s (kq95_1 n) else (fun _ _ => none) j s
noncomputable def F95_4 (n : Nat × Nat) : (St → Option R95) → St → Option R95 := fun K s => run (E95 n) (cA (cA (cB (cA (cB c95))))) (Ann.fst (Ann.fst (Ann.snd (Ann.fst (Ann.snd an95))))) (fun s => normC [0, 1, 7, 8] s K) (xb95_3 n) rt95 s
noncomputable def L95_1 (n : Nat × Nat) (m : Nat) (s0 : List Int) (v1 : Int) (v7 : Int) (v8 : Int) : Option R95 := loopN (F95_4 n) m { tm := [.c (.sl (.int .i64) s0 false), .c (.int .i64 v1), uu, uu, uu, uu, uu, .c (.int .i64 v7), .c (.int .i64 v8), uu, uu, uu, uu, uu, uu, uu, uu, uu, uu], hp := emp }
theorem L95_1_eq (n : Nat × Nat) (m1 : Nat) (s0 : List Int) (v1 : Int) (v7 : Int) (v8 : Int) : L95_1 n (m1 + 1) s0 v1 v7 v8 =
 (bif decide (v8 < v7) then (idx s0 v8).bind fun x1' =>
 (bif (v1 == x1') then some v8
 else L95_1 n m1 s0 v1 v7 (wr .i64 (v8 + 1)))
 else some (-1)) := by kernel_rfl
noncomputable def S95 (n : Nat × Nat) (s0 : List Int) (v1 : Int) : Option R95 := run (E95 n) c95 an95 rt95 (fun _ _ => none) rt95 { tm := [.c (.sl (.int .i64) s0 false), .c (.int .i64 v1), uu, uu, uu, uu, uu, uu, uu, uu, uu, uu, uu, uu, uu, uu, uu, uu, uu], hp := emp }
theorem S95_eq (n : Nat × Nat) (s0 : List Int) (v1 : Int) : S95 n s0 v1 =
    L95_1 n n.1 s0 v1 (s0.length : Int) 0 := by kernel_rfl
theorem S95_run (n : Nat × Nat) (xs : pksDen pk95) : S95 n xs.1 xs.2.1 = runG (E95 n) noScope c95 an95 (rtG rk95) (fun _ _ => none) (rtG rk95) (st0 pk95 xs Tryd.f95.ntmps) := by kernel_rfl
noncomputable def P95 (n : Nat × Nat) := phiOf pk95 rk95 (fun xs => S95 n xs.1 xs.2.1)
theorem call95 : CallOK Tryd.prog 95 := callOK_of Tryd.func95 (by kernel_rfl) (by kernel_rfl)
theorem env95 (n : Nat × Nat) : EnvOK Tryd.prog (E95 n) := envOK0 noPhi_ok rfl rfl
theorem par95 (n : Nat × Nat) : EnvPar (E95 n) := envPar0 noPhi_par rfl
theorem FC95 (n : Nat × Nat) : FCs Tryd.prog 95 (P95 n) := phiOf_FCs fun xs r h vs hv => FC.of_runG tabOK eqsOK (env95 n) (par95 n) mixed (fun _ p _ => noScope_ok p.1 p.2) Tryd.func95 (c := c95) (an := an95) (pks := pk95) (rks := rk95) (by kernel_rfl) (by kernel_rfl) hv ((S95_run n xs).symm.trans h)
abbrev R71 := List Int
noncomputable def c71 : Code := bodyOf Tryd.f71
noncomputable def an71 : Ann := (.s .l (.s .l (.s (.s .l (.j [4] (.j [3, 4, 8, 9, 10] (.s .l (.s (.j [3, 4, 8, 9, 10] .l .l) (.s (.j [3, 4, 8, 9, 10] (.s .l (.s .l (.s (.s .l (.j [3, 4, 7, 8, 9, 10] .l .l)) .l))) .l) .l))) .l) .l)) .l)))
def pk71 : List PK := [.c (.sl (.int .i64))]
def rk71 : List RK := [.own (.int .i64) 2]
noncomputable def rt71 (st : St) : Option R71 := rtG rk71 st
noncomputable def E71 (n : Nat × Nat) : Env := { T := tab, phi := (consPhi 95 (fun _ => true) (P95 n) noPhi), eff := fun _ => false, fuel := n.1, hold := n.2 }
noncomputable def kq71_1 (n : Nat × Nat) : St → Option R71 := run (E71 n) (cB (cB (cB c71))) (Ann.snd (Ann.snd (Ann.snd an71))) rt71 (fun _ _ => none) rt71
noncomputable def xb71_3 (n : Nat × Nat) : Nat → St → Option R71 := fun j s => bif Nat.beq j 0 then normC [4] s (kq71_1 n) else (fun _ _ => none) j s
noncomputable def F71_4 (n : Nat × Nat) : (St → Option R71) → St → Option R71 := fun K s => run (E71 n) (cA (cA (cB (cA (cB (cB c71)))))) (Ann.fst (Ann.fst (Ann.snd (Ann.fst (Ann.snd (Ann.snd an71)))))) (fun s => normC [3, 4, 8, 9, 10] s K) (xb71_3 n) rt71 s
noncomputable def L71_1 (n : Nat × Nat) (m : Nat) (v8 : List Int) (v9 : Int) (v10 : Int) (met3 : List Int) (out4 : List Int) : Option R71 := loopN (F71_4 n) m { tm := [uu, uu, uu, .own 3 none false, .own 4 none false, uu, uu, uu, .c (.sl (.int .i64) v8 false), .c (.int .i64 v9), .c (.int .i64 v10), uu, uu, uu, uu, uu, uu, uu, uu, uu, uu, uu, uu, uu, uu, uu, uu, uu, uu, uu, uu], hp := (upd (upd emp 4 (.arr (.int .i64) out4 false)) 3 (.arr (.int .i64) met3 false)) }
theorem L71_1_eq (n : Nat × Nat) (m1 : Nat) (v8 : List Int) (v9 : Int) (v10 : Int) (met3 : List Int) (out4 : List Int) : L71_1 n (m1 + 1) v8 v9 v10 met3 out4 =
 (bif decide (v10 < v9) then (idx v8 v10).bind fun x1' =>
 (S95 n met3 x1').bind fun r2' =>
 (bif decide (r2' < 0) then (bif decide (met3.length + [x1'].length ≤ lim) then (bif decide (out4.length + [(met3.length : Int)].length ≤ lim) then L71_1 n m1 v8 v9 (wr .i64 (v10 + 1)) (met3 ++ [x1']) (out4 ++ [(met3.length : Int)])
 else none)
 else none)
 else (bif decide (out4.length + [r2'].length ≤ lim) then L71_1 n m1 v8 v9 (wr .i64 (v10 + 1)) met3 (out4 ++ [r2'])
 else none))
 else some out4) := by kernel_rfl
noncomputable def S71 (n : Nat × Nat) (plan0 : List Int) : Option R71 := run (E71 n) c71 an71 rt71 (fun _ _ => none) rt71 { tm := [.c (.sl (.int .i64) plan0 false), uu, uu, uu, uu, uu, uu, uu, uu, uu, uu, uu, uu, uu, uu, uu, uu, uu, uu, uu, uu, uu, uu, uu, uu, uu, uu, uu, uu, uu, uu], hp := emp }
theorem S71_eq (n : Nat × Nat) (plan0 : List Int) : S71 n plan0 =
    L71_1 n n.1 plan0 (plan0.length : Int) 0 [] [] := by kernel_rfl
theorem S71_run (n : Nat × Nat) (xs : pksDen pk71) : S71 n xs.1 = runG (E71 n) noScope c71 an71 (rtG rk71) (fun _ _ => none) (rtG rk71) (st0 pk71 xs Tryd.f71.ntmps) := by kernel_rfl
noncomputable def P71 (n : Nat × Nat) := phiOf pk71 rk71 (fun xs => S71 n xs.1)
theorem call71 : CallOK Tryd.prog 71 := callOK_of Tryd.func71 (by kernel_rfl) (by kernel_rfl)
theorem env71 (n : Nat × Nat) : EnvOK Tryd.prog (E71 n) := envOK0 (consPhi_ok (FC95 n) call95 noPhi_ok) rfl rfl
theorem par71 (n : Nat × Nat) : EnvPar (E71 n) := envPar0 (consPhi_par phiOf_Par1 noPhi_par) rfl
theorem FC71 (n : Nat × Nat) : FCs Tryd.prog 71 (P71 n) := phiOf_FCs fun xs r h vs hv => FC.of_runG tabOK eqsOK (env71 n) (par71 n) mixed (fun _ p _ => noScope_ok p.1 p.2) Tryd.func71 (c := c71) (an := an71) (pks := pk71) (rks := rk71) (by kernel_rfl) (by kernel_rfl) hv ((S71_run n xs).symm.trans h)
abbrev R32 := List Int × Int
noncomputable def c32 : Code := bodyOf Tryd.f32
noncomputable def an32 : Ann := (.s .l (.s (.s .l (.j [0, 2, 4, 41, 42, 43, 44] (.s .l (.j [0, 2, 4, 41, 42, 43, 44] .l (.s .l (.j [0, 2, 4, 41, 42, 43, 44] .l .l)))) .l)) (.s .l (.s .l (.s (.s .l (.j [9] (.j [0, 4, 9, 10, 31, 32, 33, 41, 42, 43, 44] (.s .l (.s (.j [0, 4, 9, 10, 31, 32, 33, 41, 42, 43, 44] .l .l) (.s (.j [0, 4, 9, 10, 31, 32, 33, 41, 42, 43, 44] (.s .l (.s (.j [0, 4, 9, 10, 12, 31, 32, 33, 41, 42, 43, 44] (.s .l (.j [0, 4, 9, 10, 12, 31, 32, 33, 41, 42, 43, 44] .l (.s .l (.j [0, 4, 9, 10, 12, 31, 32, 33, 41, 42, 43, 44] .l .l)))) .l) (.s .l (.s (.s .l (.j [0, 4, 9, 10, 12, 13, 31, 32, 33, 41, 42, 43, 44] .l .l)) .l)))) .l) .l))) .l) .l)) .l)))))
def pk32 : List PK := [.c (.int .i64), .c (.sl (.int .i64)), .c (.sl (.int .i64))]
def rk32 : List RK := [.own (.int .i64) 6, .c (.int .i64) 7]
noncomputable def rt32 (st : St) : Option R32 := rtG rk32 st
noncomputable def E32 (n : Nat × Nat) : Env := { T := tab, phi := (consPhi 26 (fun _ => true) (P26 n) (consPhi 69 (fun _ => true) (P69 n) (consPhi 71 (fun _ => true) (P71 n) (consPhi 79 (isFns [none, some 80]) (P79c80 n) noPhi)))), eff := fun _ => false, fuel := n.1, hold := n.2 }
noncomputable def kq32_6 (n : Nat × Nat) : St → Option R32 := run (E32 n) (cB (cB (cB (cB (cB c32))))) (Ann.snd (Ann.snd (Ann.snd (Ann.snd (Ann.snd an32))))) rt32 (fun _ _ => none) rt32
noncomputable def xb32_8 (n : Nat × Nat) : Nat → St → Option R32 := fun j s => bif Nat.beq j 1 then normC [9] s (kq32_6 n) else (fun _ _ => none) j s
noncomputable def F32_9 (n : Nat × Nat) : (St → Option R32) → St → Option R32 := fun K s => run (E32 n) (cA (cA (cB (cA (cB (cB (cB (cB c32)))))))) (Ann.fst (Ann.fst (Ann.snd (Ann.fst (Ann.snd (Ann.snd (Ann.snd (Ann.snd an32)))))))) (fun s => normC [0, 4, 9, 10, 31, 32, 33, 41, 42, 43, 44] s K) (xb32_8 n) rt32 s
noncomputable def L32_1 (n : Nat × Nat) (m : Nat) (size0 : Int) (v31 : List Int) (v32 : Int) (v33 : Int) (pieces4 : List Int) (out9 : List Int) (left10 : List Int) : Option R32 := loopN (F32_9 n) m { tm := [.c (.int .i64 size0), uu, uu, uu, .ptr 4 0, uu, uu, uu, uu, .own 9 none false, .own 10 none false, uu, uu, uu, uu, uu, uu, uu, uu, uu, uu, uu, uu, uu, uu, uu, uu, uu, uu, uu, uu, .c (.sl (.int .i64) v31 false), .c (.int .i64 v32), .c (.int .i64 v33), uu, uu, uu, uu, uu, uu, uu, uu, uu, uu, uu, uu, uu, uu, uu, uu, uu, uu, uu, uu, uu, uu, uu, uu, uu, uu, uu, uu, uu, uu, uu, uu, uu, uu, uu, uu, uu, uu, uu, uu, uu, uu, uu, uu, uu, uu], hp := (upd (upd (upd emp 10 (.arr (.int .i64) left10 false)) 9 (.arr (.int .i64) out9 false)) 4 (.box [.sl (.int .i64) pieces4 false])) }
theorem L32_1_eq (n : Nat × Nat) (m1 : Nat) (size0 : Int) (v31 : List Int) (v32 : Int) (v33 : Int) (pieces4 : List Int) (out9 : List Int) (left10 : List Int) : L32_1 n (m1 + 1) size0 v31 v32 v33 pieces4 out9 left10 =
 (bif decide (v33 < v32) then (idx v31 v33).bind fun x3' =>
 ((bif (decide (x3' < 0) == false) then some (decide (x3' ≥ (pieces4.length : Int)))
 else some true)).bind fun b4' =>
 (bif b4' then some ([], 2)
 else (bif inB x3' out9.length then (idx out9 x3').bind fun x5' =>
 (bif decide (x5' ≥ 0) then some ([], 6)
 else (S79c80 n left10 pieces4 x3').bind fun r6' =>
 (bif decide (r6' < 0) then (bif decide (left10.length + [size0].length ≤ lim) then (bif inB (left10.length : Int) (left10 ++ [size0]).length then (idx (left10 ++ [size0]) (left10.length : Int)).bind fun x7' =>
 (idx pieces4 x3').bind fun x8' =>
 (bif inB (left10.length : Int) (left10 ++ [size0]).length then (idx (left10 ++ [size0]) (left10.length : Int)).bind fun x9' =>
 (bif inB x3' out9.length then (idx out9 x3').bind fun x10' =>
                      L32_1 n m1 size0 v31 v32 (wr .i64 (v33 + 1)) pieces4 (out9.set (Int.toNat x3') (left10.length : Int)) ((left10 ++ [size0]).set (Int.toNat (left10.length : Int)) (wr .i64 (x7' - x8')))
 else none)
 else none)
 else none)
 else none)
 else (bif inB r6' left10.length then (idx left10 r6').bind fun x11' =>
 (idx pieces4 x3').bind fun x12' =>
 (bif inB r6' left10.length then (idx left10 r6').bind fun x13' =>
 (bif inB x3' out9.length then (idx out9 x3').bind fun x14' =>
                    L32_1 n m1 size0 v31 v32 (wr .i64 (v33 + 1)) pieces4 (out9.set (Int.toNat x3') r6') (left10.set (Int.toNat r6') (wr .i64 (x11' - x12')))
 else none)
 else none)
 else none)))
 else none))
 else (S71 n out9).bind fun r15' =>
 some (r15', 0)) := by kernel_rfl
noncomputable def S32 (n : Nat × Nat) (size0 : Int) (pieces1 : List Int) (order2 : List Int) : Option R32 := run (E32 n) c32 an32 rt32 (fun _ _ => none) rt32 { tm := [.c (.int .i64 size0), .c (.sl (.int .i64) pieces1 false), .c (.sl (.int .i64) order2 false), uu, uu, uu, uu, uu, uu, uu, uu, uu, uu, uu, uu, uu, uu, uu, uu, uu, uu, uu, uu, uu, uu, uu, uu, uu, uu, uu, uu, uu, uu, uu, uu, uu, uu, uu, uu, uu, uu, uu, uu, uu, uu, uu, uu, uu, uu, uu, uu, uu, uu, uu, uu, uu, uu, uu, uu, uu, uu, uu, uu, uu, uu, uu, uu, uu, uu, uu, uu, uu, uu, uu, uu, uu, uu, uu, uu, uu], hp := emp }
theorem S32_eq (n : Nat × Nat) (size0 : Int) (pieces1 : List Int) (order2 : List Int) : S32 n size0 pieces1 order2 =
 (S26 n size0 pieces1).bind fun r1' =>
 (bif (r1' != 0) then some ([], r1')
 else (bif ((order2.length : Int) != (pieces1.length : Int)) then some ([], 5)
 else (S69 n [-1] (pieces1.length : Int)).bind fun r2' =>
        L32_1 n n.1 size0 order2 (order2.length : Int) 0 pieces1 r2' [])) := by kernel_rfl
theorem S32_run (n : Nat × Nat) (xs : pksDen pk32) : S32 n xs.1 xs.2.1 xs.2.2.1 = runG (E32 n) noScope c32 an32 (rtG rk32) (fun _ _ => none) (rtG rk32) (st0 pk32 xs Tryd.f32.ntmps) := by kernel_rfl
noncomputable def P32 (n : Nat × Nat) := phiOf pk32 rk32 (fun xs => S32 n xs.1 xs.2.1 xs.2.2.1)
theorem call32 : CallOK Tryd.prog 32 := callOK_of Tryd.func32 (by kernel_rfl) (by kernel_rfl)
theorem env32 (n : Nat × Nat) : EnvOK Tryd.prog (E32 n) := envOK0 (consPhi_ok (FC26 n) call26 (consPhi_ok (FC69 n) call69 (consPhi_ok (FC71 n) call71 (consPhi_ok (FC79c80 n) call79 noPhi_ok)))) rfl rfl
theorem par32 (n : Nat × Nat) : EnvPar (E32 n) := envPar0 (consPhi_par phiOf_Par1 (consPhi_par phiOf_Par1 (consPhi_par phiOf_Par1 (consPhi_par phiOf_Par1 noPhi_par)))) rfl
theorem FC32 (n : Nat × Nat) : FCs Tryd.prog 32 (P32 n) := phiOf_FCs fun xs r h vs hv => FC.of_runG tabOK eqsOK (env32 n) (par32 n) mixed (fun _ p _ => noScope_ok p.1 p.2) Tryd.func32 (c := c32) (an := an32) (pks := pk32) (rks := rk32) (by kernel_rfl) (by kernel_rfl) hv ((S32_run n xs).symm.trans h)
abbrev R98io11 := (Bool) × (List Int) × Bool × Unit
noncomputable def c98io11 : Code := bodyOf Tryd.f98
noncomputable def an98io11 : Ann := .l
def pk98io11 : List QK := [.oa (.int .i64), .ob .bool]
def rk98io11 : List RK := [.c .bool 3]
noncomputable def rt98io11 (st : St) : Option R98io11 := rtIO rk98io11 (pk98io11.flatMap QK.ods) st
noncomputable def E98io11 (n : Nat × Nat) : Env := { T := tab, phi := noPhi, eff := fun _ => false, fuel := n.1, hold := n.2 }
noncomputable def S98io11 (n : Nat × Nat) (v0 : List Int) (v1 : Bool) : Option R98io11 := run (E98io11 n) c98io11 an98io11 rt98io11 (fun _ _ => none) rt98io11 { tm := [.own 1000000000 none false, .ptr 1000000001 0, uu, uu], hp := (upd (upd emp 1000000001 (.box [.bool v1])) 1000000000 (.arr (.int .i64) v0 false)) }
theorem S98io11_eq (n : Nat × Nat) (v0 : List Int) (v1 : Bool) : S98io11 n v0 v1 =
 some (false, v0, true, ()) := by kernel_rfl
theorem S98io11_run (n : Nat × Nat) (xs : qksDen pk98io11) : S98io11 n xs.1 xs.2.1 = runG (E98io11 n) noScope c98io11 an98io11 (rtIO rk98io11 (pk98io11.flatMap QK.ods)) (fun _ _ => none) (rtIO rk98io11 (pk98io11.flatMap QK.ods)) (st1 pk98io11 xs Tryd.f98.ntmps) := by kernel_rfl
noncomputable def P98io11 (n : Nat × Nat) := phioOf pk98io11 rk98io11 (pk98io11.flatMap QK.ods) (fun xs => S98io11 n xs.1 xs.2.1)
theorem call98 : CallOK Tryd.prog 98 := callOK_of Tryd.func98 (by kernel_rfl) (by kernel_rfl)
theorem env98io11 (n : Nat × Nat) : EnvOK Tryd.prog (E98io11 n) := envOK0 noPhi_ok rfl rfl
theorem par98io11 (n : Nat × Nat) : EnvPar (E98io11 n) := envPar0 noPhi_par rfl
theorem FC98io11 (n : Nat × Nat) : FCios Tryd.prog 98 (pk98io11.map QK.flag) (P98io11 n) := phioOf_FCios fun xs r h vs hv => FCio.of_runG tabOK eqsOK (env98io11 n) (par98io11 n) mixed (fun _ p _ => noScope_ok p.1 p.2) Tryd.func98 (c := c98io11) (an := an98io11) (qks := pk98io11) (rks := rk98io11) (by kernel_rfl) (by kernel_rfl) hv ((S98io11_run n xs).symm.trans h)
abbrev R84c98io0001 := (Unit) × Bool × Unit
noncomputable def c84c98io0001 : Code := bodyOf Tryd.f84
noncomputable def an84c98io0001 : Ann := (.s (.s .l (.s .l (.s .l (.s .l (.s (.s .l (.j [0, 1, 2, 3, 8, 9, 10, 42, 43, 44, 45, 46, 47, 48, 49, 50, 51, 52, 1000000000] (.s (.s .l (.j [0, 1, 2, 3, 8, 9, 10, 42, 43, 44, 45, 46, 47, 48, 49, 50, 51, 52, 1000000000] .l .l)) .l) .l)) (.s (.j [0, 1, 2, 3, 8, 9, 10, 42, 43, 44, 45, 46, 47, 48, 49, 50, 51, 52, 1000000000] (.j [0, 1, 2, 3, 8, 9, 10, 42, 43, 44, 45, 46, 47, 48, 49, 50, 51, 52, 1000000000] (.j [0, 1, 2, 3, 8, 9, 10, 42, 43, 44, 45, 46, 47, 48, 49, 50, 51, 52, 1000000000] (.s .l (.s .l (.s (.s .l (.j [0, 1, 2, 3, 8, 9, 10, 11, 42, 43, 44, 45, 46, 47, 48, 49, 50, 51, 52, 1000000000] .l .l)) (.s .l (.j [0, 1, 2, 3, 8, 9, 10, 42, 43, 44, 45, 46, 47, 48, 49, 50, 51, 52, 1000000000] .l .l))))) .l) .l) .l) (.s .l (.s (.s .l (.s .l (.j [0, 1, 2, 3, 8, 9, 10, 42, 43, 44, 45, 46, 47, 48, 49, 50, 51, 52, 1000000000] .l .l))) .l)))))))) (.g 0 [0, 1, 2, 3, 8, 9, 10, 42, 43, 44, 45, 46, 47, 48, 49, 50, 51, 52, 1000000000] (.s .l (.s (.s .l (.s .l (.j [0, 1, 2, 3, 8, 9, 10, 42, 43, 44, 45, 46, 47, 48, 49, 50, 51, 52, 1000000000] .l .l))) .l)) (.g 1 [0, 1, 2, 3, 8, 9, 10, 42, 43, 44, 45, 46, 47, 48, 49, 50, 51, 52, 1000000000] (.s .l (.s (.s .l (.j [0, 1, 2, 3, 8, 9, 10, 42, 43, 44, 45, 46, 47, 48, 49, 50, 51, 52, 1000000000] (.s (.s .l (.j [0, 1, 2, 3, 8, 9, 10, 42, 43, 44, 45, 46, 47, 48, 49, 50, 51, 52, 1000000000] .l .l)) .l) .l)) (.s (.j [0, 1, 2, 3, 8, 9, 10, 42, 43, 44, 45, 46, 47, 48, 49, 50, 51, 52, 1000000000] (.j [0, 1, 2, 3, 8, 9, 10, 42, 43, 44, 45, 46, 47, 48, 49, 50, 51, 52, 1000000000] (.j [0, 1, 2, 3, 8, 9, 10, 42, 43, 44, 45, 46, 47, 48, 49, 50, 51, 52, 1000000000] (.s .l (.s .l (.s (.s .l (.j [0, 1, 2, 3, 8, 9, 10, 11, 42, 43, 44, 45, 46, 47, 48, 49, 50, 51, 52, 1000000000] .l .l)) (.s .l (.j [0, 1, 2, 3, 8, 9, 10, 42, 43, 44, 45, 46, 47, 48, 49, 50, 51, 52, 1000000000] .l .l))))) .l) .l) .l) (.s .l (.s (.s .l (.s .l (.j [0, 1, 2, 3, 8, 9, 10, 42, 43, 44, 45, 46, 47, 48, 49, 50, 51, 52, 1000000000] .l .l))) .l))))) .l)))
def pk84c98io0001 : List QK := [.pl (.c (.int .i64)), .pl (.c (.sl (.int .i64))), .pl (.c (.int .i64)), .of 98 [.bool]]
def rk84c98io0001 : List RK := []
noncomputable def rt84c98io0001 (st : St) : Option R84c98io0001 := rtIO rk84c98io0001 (pk84c98io0001.flatMap QK.ods) st
noncomputable def io84c98io0001 (n : Nat × Nat) : List IoE := [⟨98, (fun _ => true), pk98io11.map QK.flag, P98io11 n⟩]
noncomputable def E84c98io0001 (n : Nat × Nat) : Env := { T := tab, phi := (consPhi 69 (fun _ => true) (P69 n) noPhi), eff := fun _ => false, fuel := n.1, hold := n.2, phio := phioL (io84c98io0001 n), iop := iopL (io84c98io0001 n) }
noncomputable def PF84c98io0001_1 (n : Nat × Nat) : (Nat × St → Option R84c98io0001) → Nat × St → Option R84c98io0001 := passF (E84c98io0001 n) (cA c84c98io0001) (Ann.labels (Ann.snd an84c98io0001)) rt84c98io0001 (fun _ _ => none) rt84c98io0001
noncomputable def kq84c98io0001_6 (n : Nat × Nat) : St → Option R84c98io0001 := run (E84c98io0001 n) (cB (cB (cB (cB (cB (cB (cA c84c98io0001))))))) (Ann.snd (Ann.snd (Ann.snd (Ann.snd (Ann.snd (Ann.snd (Ann.fst an84c98io0001))))))) rt84c98io0001 (jumpTo (Ann.labels (Ann.snd an84c98io0001)) (loopN (PF84c98io0001_1 n) n.1) (fun _ _ => none)) rt84c98io0001
noncomputable def xb84c98io0001_8 (n : Nat × Nat) : Nat → St → Option R84c98io0001 := fun j s => bif Nat.beq j 0 then normC [0, 1, 2, 3, 8, 9, 10, 42, 43, 44, 45, 46, 47, 48, 49, 50, 51, 52, 1000000000] s (kq84c98io0001_6 n) else (jumpTo (Ann.labels (Ann.snd an84c98io0001)) (loopN (PF84c98io0001_1 n) n.1) (fun _ _ => none)) j s
noncomputable def F84c98io0001_9 (n : Nat × Nat) : (St → Option R84c98io0001) → St → Option R84c98io0001 := fun K s => run (E84c98io0001 n) (cA (cA (cA (cB (cB (cB (cB (cB (cA c84c98io0001))))))))) (Ann.fst (Ann.fst (Ann.fst (Ann.snd (Ann.snd (Ann.snd (Ann.snd (Ann.snd (Ann.fst an84c98io0001))))))))) (fun s => normC [0, 1, 2, 3, 8, 9, 10, 42, 43, 44, 45, 46, 47, 48, 49, 50, 51, 52, 1000000000] s K) (xb84c98io0001_8 n) rt84c98io0001 s
noncomputable def kq84c98io0001_21 (n : Nat × Nat) (m1 : Nat) : St → Option R84c98io0001 := run (E84c98io0001 n) (cB (cB (cB (labOf 1 (cA c84c98io0001))))) (Ann.snd (Ann.snd (Ann.snd (annOf (Ann.labels (Ann.snd an84c98io0001)) 1)))) rt84c98io0001 (jumpTo (Ann.labels (Ann.snd an84c98io0001)) (loopN (PF84c98io0001_1 n) m1) (fun _ _ => none)) rt84c98io0001
noncomputable def xb84c98io0001_23 (n : Nat × Nat) (m1 : Nat) : Nat → St → Option R84c98io0001 := fun j s => bif Nat.beq j 0 then normC [0, 1, 2, 3, 8, 9, 10, 42, 43, 44, 45, 46, 47, 48, 49, 50, 51, 52, 1000000000] s (kq84c98io0001_21 n m1) else (jumpTo (Ann.labels (Ann.snd an84c98io0001)) (loopN (PF84c98io0001_1 n) m1) (fun _ _ => none)) j s
noncomputable def F84c98io0001_24 (n : Nat × Nat) (m1 : Nat) : (St → Option R84c98io0001) → St → Option R84c98io0001 := fun K s => run (E84c98io0001 n) (cA (cA (cA (cB (cB (labOf 1 (cA c84c98io0001))))))) (Ann.fst (Ann.fst (Ann.fst (Ann.snd (Ann.snd (annOf (Ann.labels (Ann.snd an84c98io0001)) 1)))))) (fun s => normC [0, 1, 2, 3, 8, 9, 10, 42, 43, 44, 45, 46, 47, 48, 49, 50, 51, 52, 1000000000] s K) (xb84c98io0001_23 n m1) rt84c98io0001 s
noncomputable def L84c98io0001_1 (n : Nat × Nat) (m : Nat) (size0 : Int) (pieces1 : List Int) (most2 : Int) (i10 : Int) (u0 : Bool) (plan8 : List Int) (left9 : List Int) : Option R84c98io0001 := loopN (PF84c98io0001_1 n) m (0, { tm := [.c (.int .i64 size0), .c (.sl (.int .i64) pieces1 false), .c (.int .i64 most2), .fn 98 [.ptr 1000000000 0], uu, uu, uu, uu, .own 8 none false, .own 9 none false, .c (.int .i64 i10), uu, uu, uu, uu, uu, uu, uu, uu, uu, uu, uu, uu, uu, uu, uu, uu, uu, uu, uu, uu, uu, uu, uu, uu, uu, uu, uu, uu, uu, uu, uu, uu, uu, uu, uu, uu, uu, uu, uu, uu, uu, uu, uu, uu, uu, uu, uu, uu, uu, uu, uu, uu, uu, uu, uu, uu, uu, uu, uu, uu, uu, uu, uu, uu, uu, uu, uu, uu, uu, uu, uu, uu, uu, uu, uu, uu, uu, uu, uu, uu, uu, uu, uu, uu], hp := (upd (upd (upd emp 9 (.arr (.int .i64) left9 false)) 8 (.arr (.int .i64) plan8 false)) 1000000000 (.box [.bool u0])) })
noncomputable def L84c98io0001_2 (n : Nat × Nat) (m : Nat) (size0 : Int) (pieces1 : List Int) (most2 : Int) (i10 : Int) (u0 : Bool) (plan8 : List Int) (left9 : List Int) : Option R84c98io0001 := loopN (F84c98io0001_9 n) m { tm := [.c (.int .i64 size0), .c (.sl (.int .i64) pieces1 false), .c (.int .i64 most2), .fn 98 [.ptr 1000000000 0], uu, uu, uu, uu, .own 8 none false, .own 9 none false, .c (.int .i64 i10), uu, uu, uu, uu, uu, uu, uu, uu, uu, uu, uu, uu, uu, uu, uu, uu, uu, uu, uu, uu, uu, uu, uu, uu, uu, uu, uu, uu, uu, uu, uu, uu, uu, uu, uu, uu, uu, uu, uu, uu, uu, uu, uu, uu, uu, uu, uu, uu, uu, uu, uu, uu, uu, uu, uu, uu, uu, uu, uu, uu, uu, uu, uu, uu, uu, uu, uu, uu, uu, uu, uu, uu, uu, uu, uu, uu, uu, uu, uu, uu, uu, uu, uu, uu], hp := (upd (upd (upd emp 9 (.arr (.int .i64) left9 false)) 8 (.arr (.int .i64) plan8 false)) 1000000000 (.box [.bool u0])) }
noncomputable def L84c98io0001_3 (n : Nat × Nat) (m : Nat) (size0 : Int) (pieces1 : List Int) (most2 : Int) (i10 : Int) (u0 : Bool) (plan8 : List Int) (left9 : List Int) : Option R84c98io0001 := loopN (PF84c98io0001_1 n) m (1, { tm := [.c (.int .i64 size0), .c (.sl (.int .i64) pieces1 false), .c (.int .i64 most2), .fn 98 [.ptr 1000000000 0], uu, uu, uu, uu, .own 8 none false, .own 9 none false, .c (.int .i64 i10), uu, uu, uu, uu, uu, uu, uu, uu, uu, uu, uu, uu, uu, uu, uu, uu, uu, uu, uu, uu, uu, uu, uu, uu, uu, uu, uu, uu, uu, uu, uu, uu, uu, uu, uu, uu, uu, uu, uu, uu, uu, uu, uu, uu, uu, uu, uu, uu, uu, uu, uu, uu, uu, uu, uu, uu, uu, uu, uu, uu, uu, uu, uu, uu, uu, uu, uu, uu, uu, uu, uu, uu, uu, uu, uu, uu, uu, uu, uu, uu, uu, uu, uu, uu], hp := (upd (upd (upd emp 9 (.arr (.int .i64) left9 false)) 8 (.arr (.int .i64) plan8 false)) 1000000000 (.box [.bool u0])) })
noncomputable def L84c98io0001_4 (n : Nat × Nat) (m1 : Nat) (m : Nat) (size0 : Int) (pieces1 : List Int) (most2 : Int) (i10 : Int) (u0 : Bool) (plan8 : List Int) (left9 : List Int) : Option R84c98io0001 := loopN (F84c98io0001_24 n m1) m { tm := [.c (.int .i64 size0), .c (.sl (.int .i64) pieces1 false), .c (.int .i64 most2), .fn 98 [.ptr 1000000000 0], uu, uu, uu, uu, .own 8 none false, .own 9 none false, .c (.int .i64 i10), uu, uu, uu, uu, uu, uu, uu, uu, uu, uu, uu, uu, uu, uu, uu, uu, uu, uu, uu, uu, uu, uu, uu, uu, uu, uu, uu, uu, uu, uu, uu, uu, uu, uu, uu, uu, uu, uu, uu, uu, uu, uu, uu, uu, uu, uu, uu, uu, uu, uu, uu, uu, uu, uu, uu, uu, uu, uu, uu, uu, uu, uu, uu, uu, uu, uu, uu, uu, uu, uu, uu, uu, uu, uu, uu, uu, uu, uu, uu, uu, uu, uu, uu, uu], hp := (upd (upd (upd emp 9 (.arr (.int .i64) left9 false)) 8 (.arr (.int .i64) plan8 false)) 1000000000 (.box [.bool u0])) }
theorem L84c98io0001_1_eq (n : Nat × Nat) (m1 : Nat) (size0 : Int) (pieces1 : List Int) (most2 : Int) (i10 : Int) (u0 : Bool) (plan8 : List Int) (left9 : List Int) : L84c98io0001_1 n (m1 + 1) size0 pieces1 most2 i10 u0 plan8 left9 =
 (bif decide (wr .i64 (i10 - 1) < 0) then some ((), u0, ())
 else (bif inB (wr .i64 (i10 - 1)) plan8.length then (idx plan8 (wr .i64 (i10 - 1))).bind fun x4' =>
 (bif inB x4' left9.length then (idx left9 x4').bind fun x5' =>
 (idx pieces1 (wr .i64 (i10 - 1))).bind fun x6' =>
 (bif inB x4' left9.length then (idx left9 x4').bind fun x7' =>
            L84c98io0001_3 n m1 size0 pieces1 most2 (wr .i64 (i10 - 1)) u0 plan8 (left9.set (Int.toNat x4') (wr .i64 (x5' + x6')))
 else none)
 else none)
 else none)) := by kernel_rfl
theorem L84c98io0001_2_eq (n : Nat × Nat) (m1 : Nat) (size0 : Int) (pieces1 : List Int) (most2 : Int) (i10 : Int) (u0 : Bool) (plan8 : List Int) (left9 : List Int) : L84c98io0001_2 n (m1 + 1) size0 pieces1 most2 i10 u0 plan8 left9 =
 (bif inB i10 plan8.length then (idx plan8 i10).bind fun x8' =>
 (bif inB i10 plan8.length then (idx plan8 i10).bind fun x9' =>
 (bif inB i10 (plan8.set (Int.toNat i10) (wr .i64 (x8' + 1))).length then (idx (plan8.set (Int.toNat i10) (wr .i64 (x8' + 1))) i10).bind fun x10' =>
 ((bif (decide (x10' ≥ most2) == false) then ((bif (decide (x10' > 0) == true) then (bif inB (wr .i64 (x10' - 1)) left9.length then (idx left9 (wr .i64 (x10' - 1))).bind fun x11' =>
 some (x11' == size0)
 else none)
 else some false)).bind fun b12' =>
 some b12'
 else some true)).bind fun b13' =>
 (bif b13' then (bif inB i10 (plan8.set (Int.toNat i10) (wr .i64 (x8' + 1))).length then (idx (plan8.set (Int.toNat i10) (wr .i64 (x8' + 1))) i10).bind fun x14' =>
              L84c98io0001_1 n n.1 size0 pieces1 most2 i10 u0 ((plan8.set (Int.toNat i10) (wr .i64 (x8' + 1))).set (Int.toNat i10) (-1)) left9
 else none)
 else (bif inB x10' left9.length then (idx left9 x10').bind fun x15' =>
 (idx pieces1 i10).bind fun x16' =>
 (bif decide (x15' ≥ x16') then (bif inB x10' left9.length then (idx left9 x10').bind fun x17' =>
 (idx pieces1 i10).bind fun x18' =>
 (bif inB x10' left9.length then (idx left9 x10').bind fun x19' =>
                    L84c98io0001_3 n n.1 size0 pieces1 most2 (wr .i64 (i10 + 1)) u0 (plan8.set (Int.toNat i10) (wr .i64 (x8' + 1))) (left9.set (Int.toNat x10') (wr .i64 (x17' - x18')))
 else none)
 else none)
 else L84c98io0001_2 n m1 size0 pieces1 most2 i10 u0 (plan8.set (Int.toNat i10) (wr .i64 (x8' + 1))) left9)
 else none))
 else none)
 else none)
 else none) := by kernel_rfl
theorem L84c98io0001_3_eq (n : Nat × Nat) (m1 : Nat) (size0 : Int) (pieces1 : List Int) (most2 : Int) (i10 : Int) (u0 : Bool) (plan8 : List Int) (left9 : List Int) : L84c98io0001_3 n (m1 + 1) size0 pieces1 most2 i10 u0 plan8 left9 =
 (bif (i10 == (pieces1.length : Int)) then (S98io11 n plan8 u0).bind fun r20' =>
 (bif Nat.beq r20'.2.1.length plan8.length then (bif (!r20'.1) then some ((), r20'.2.2.1, ())
 else L84c98io0001_1 n m1 size0 pieces1 most2 i10 r20'.2.2.1 r20'.2.1 left9)
 else none)
 else L84c98io0001_4 n m1 n.1 size0 pieces1 most2 i10 u0 plan8 left9) := by kernel_rfl
theorem L84c98io0001_4_eq (n : Nat × Nat) (m1 m2 : Nat) (size0 : Int) (pieces1 : List Int) (most2 : Int) (i10 : Int) (u0 : Bool) (plan8 : List Int) (left9 : List Int) : L84c98io0001_4 n m1 (m2 + 1) size0 pieces1 most2 i10 u0 plan8 left9 =
 (bif inB i10 plan8.length then (idx plan8 i10).bind fun x21' =>
 (bif inB i10 plan8.length then (idx plan8 i10).bind fun x22' =>
 (bif inB i10 (plan8.set (Int.toNat i10) (wr .i64 (x21' + 1))).length then (idx (plan8.set (Int.toNat i10) (wr .i64 (x21' + 1))) i10).bind fun x23' =>
 ((bif (decide (x23' ≥ most2) == false) then ((bif (decide (x23' > 0) == true) then (bif inB (wr .i64 (x23' - 1)) left9.length then (idx left9 (wr .i64 (x23' - 1))).bind fun x24' =>
 some (x24' == size0)
 else none)
 else some false)).bind fun b25' =>
 some b25'
 else some true)).bind fun b26' =>
 (bif b26' then (bif inB i10 (plan8.set (Int.toNat i10) (wr .i64 (x21' + 1))).length then (idx (plan8.set (Int.toNat i10) (wr .i64 (x21' + 1))) i10).bind fun x27' =>
              L84c98io0001_1 n m1 size0 pieces1 most2 i10 u0 ((plan8.set (Int.toNat i10) (wr .i64 (x21' + 1))).set (Int.toNat i10) (-1)) left9
 else none)
 else (bif inB x23' left9.length then (idx left9 x23').bind fun x28' =>
 (idx pieces1 i10).bind fun x29' =>
 (bif decide (x28' ≥ x29') then (bif inB x23' left9.length then (idx left9 x23').bind fun x30' =>
 (idx pieces1 i10).bind fun x31' =>
 (bif inB x23' left9.length then (idx left9 x23').bind fun x32' =>
                    L84c98io0001_3 n m1 size0 pieces1 most2 (wr .i64 (i10 + 1)) u0 (plan8.set (Int.toNat i10) (wr .i64 (x21' + 1))) (left9.set (Int.toNat x23') (wr .i64 (x30' - x31')))
 else none)
 else none)
 else L84c98io0001_4 n m1 m2 size0 pieces1 most2 i10 u0 (plan8.set (Int.toNat i10) (wr .i64 (x21' + 1))) left9)
 else none))
 else none)
 else none)
 else none) := by kernel_rfl
noncomputable def S84c98io0001 (n : Nat × Nat) (size0 : Int) (pieces1 : List Int) (most2 : Int) (cp_3_0 : Bool) : Option R84c98io0001 := run1 (E84c98io0001 n) c84c98io0001 an84c98io0001 rt84c98io0001 (fun _ _ => none) rt84c98io0001 { tm := [.c (.int .i64 size0), .c (.sl (.int .i64) pieces1 false), .c (.int .i64 most2), .fn 98 [.ptr 1000000000 0], uu, uu, uu, uu, uu, uu, uu, uu, uu, uu, uu, uu, uu, uu, uu, uu, uu, uu, uu, uu, uu, uu, uu, uu, uu, uu, uu, uu, uu, uu, uu, uu, uu, uu, uu, uu, uu, uu, uu, uu, uu, uu, uu, uu, uu, uu, uu, uu, uu, uu, uu, uu, uu, uu, uu, uu, uu, uu, uu, uu, uu, uu, uu, uu, uu, uu, uu, uu, uu, uu, uu, uu, uu, uu, uu, uu, uu, uu, uu, uu, uu, uu, uu, uu, uu, uu, uu, uu, uu, uu, uu], hp := (upd emp 1000000000 (.box [.bool cp_3_0])) }
theorem S84c98io0001_eq (n : Nat × Nat) (size0 : Int) (pieces1 : List Int) (most2 : Int) (cp_3_0 : Bool) : S84c98io0001 n size0 pieces1 most2 cp_3_0 =
 (S69 n [-1] (pieces1.length : Int)).bind fun r1' =>
 (S69 n [size0] most2).bind fun r2' =>
 (bif (0 == (pieces1.length : Int)) then (S98io11 n r1' cp_3_0).bind fun r3' =>
 (bif Nat.beq r3'.2.1.length r1'.length then (bif (!r3'.1) then some ((), r3'.2.2.1, ())
 else L84c98io0001_1 n n.1 size0 pieces1 most2 0 r3'.2.2.1 r3'.2.1 r2')
 else none)
 else L84c98io0001_2 n n.1 size0 pieces1 most2 0 cp_3_0 r1' r2') := by kernel_rfl
theorem S84c98io0001_run (n : Nat × Nat) (xs : qksDen pk84c98io0001) : S84c98io0001 n xs.1 xs.2.1 xs.2.2.1 xs.2.2.2.1.1 = runG (E84c98io0001 n) (scope1 (E84c98io0001 n)) c84c98io0001 an84c98io0001 (rtIO rk84c98io0001 (pk84c98io0001.flatMap QK.ods)) (fun _ _ => none) (rtIO rk84c98io0001 (pk84c98io0001.flatMap QK.ods)) (st1 pk84c98io0001 xs Tryd.f84.ntmps) := by kernel_rfl
noncomputable def P84c98io0001 (n : Nat × Nat) := phioOf pk84c98io0001 rk84c98io0001 (pk84c98io0001.flatMap QK.ods) (fun xs => S84c98io0001 n xs.1 xs.2.1 xs.2.2.1 xs.2.2.2.1.1)
theorem call84 : CallOK Tryd.prog 84 := callOK_of Tryd.func84 (by kernel_rfl) (by kernel_rfl)
theorem env84c98io0001 (n : Nat × Nat) : EnvOK Tryd.prog (E84c98io0001 n) := envOK (l := io84c98io0001 n) (consPhi_ok (FC69 n) call69 noPhi_ok) rfl rfl (by kernel_rfl) ⟨FC98io11 n, call98, trivial⟩
theorem par84c98io0001 (n : Nat × Nat) : EnvPar (E84c98io0001 n) := envPar (l := io84c98io0001 n) (consPhi_par phiOf_Par1 noPhi_par) rfl ⟨phioOf_Pario1, trivial⟩
theorem FC84c98io0001 (n : Nat × Nat) : FCios Tryd.prog 84 (pk84c98io0001.map QK.flag) (P84c98io0001 n) := phioOf_FCios fun xs r h vs hv => FCio.of_runG tabOK eqsOK (env84c98io0001 n) (par84c98io0001 n) mixed (fun _ p _ => scope1_ok tabOK eqsOK (env84c98io0001 n) (par84c98io0001 n) mixed p.1 p.2) Tryd.func84 (c := c84c98io0001) (an := an84c98io0001) (qks := pk84c98io0001) (rks := rk84c98io0001) (by kernel_rfl) (by kernel_rfl) hv ((S84c98io0001_run n xs).symm.trans h)
abbrev R82 := Int
noncomputable def c82 : Code := bodyOf Tryd.f82
noncomputable def an82 : Ann := (.s .l (.s .l (.j [4] (.j [0, 1, 5, 16, 17, 18, 19] (.s (.j [0, 1, 5, 16, 17, 18, 19] (.s .l (.s .l (.s .l (.j [0, 1, 5, 16, 17, 18, 19] .l .l)))) .l) .l) .l) .l)))
def pk82 : List PK := [.c (.int .i64), .c (.sl (.int .i64))]
def rk82 : List RK := [.c (.int .i64) 4]
noncomputable def rt82 (st : St) : Option R82 := rtG rk82 st
noncomputable def io82 (n : Nat × Nat) : List IoE := [⟨84, (isFns [none, none, none, some 98]), pk84c98io0001.map QK.flag, P84c98io0001 n⟩]
noncomputable def E82 (n : Nat × Nat) : Env := { T := tab, phi := noPhi, eff := fun _ => false, fuel := n.1, hold := n.2, phio := phioL (io82 n), iop := iopL (io82 n) }
noncomputable def xb82_2 (n : Nat × Nat) : Nat → St → Option R82 := fun j s => bif Nat.beq j 0 then normC [4] s rt82 else (fun _ _ => none) j s
noncomputable def F82_3 (n : Nat × Nat) : (St → Option R82) → St → Option R82 := fun K s => run (E82 n) (cA (cA (cB (cB c82)))) (Ann.fst (Ann.fst (Ann.snd (Ann.snd an82)))) (fun s => normC [0, 1, 5, 16, 17, 18, 19] s K) (xb82_2 n) rt82 s
noncomputable def L82_1 (n : Nat × Nat) (m : Nat) (size0 : Int) (pieces1 : List Int) (most5 : Int) : Option R82 := loopN (F82_3 n) m { tm := [.c (.int .i64 size0), .c (.sl (.int .i64) pieces1 false), uu, uu, uu, .c (.int .i64 most5), uu, uu, uu, uu, uu, uu, uu, uu, uu, uu, uu, uu, uu, uu, uu, uu], hp := emp }
theorem L82_1_eq (n : Nat × Nat) (m1 : Nat) (size0 : Int) (pieces1 : List Int) (most5 : Int) : L82_1 n (m1 + 1) size0 pieces1 most5 =
 (S84c98io0001 n size0 pieces1 most5 false).bind fun r1' =>
 ((bif (r1'.2.1 == false) then some (most5 == (pieces1.length : Int))
 else some true)).bind fun b2' =>
 (bif b2' then some most5
 else L82_1 n m1 size0 pieces1 (wr .i64 (most5 + 1))) := by kernel_rfl
noncomputable def S82 (n : Nat × Nat) (size0 : Int) (pieces1 : List Int) : Option R82 := run (E82 n) c82 an82 rt82 (fun _ _ => none) rt82 { tm := [.c (.int .i64 size0), .c (.sl (.int .i64) pieces1 false), uu, uu, uu, uu, uu, uu, uu, uu, uu, uu, uu, uu, uu, uu, uu, uu, uu, uu, uu, uu], hp := emp }
theorem S82_eq (n : Nat × Nat) (size0 : Int) (pieces1 : List Int) : S82 n size0 pieces1 =
    L82_1 n n.1 size0 pieces1 0 := by kernel_rfl
theorem S82_run (n : Nat × Nat) (xs : pksDen pk82) : S82 n xs.1 xs.2.1 = runG (E82 n) noScope c82 an82 (rtG rk82) (fun _ _ => none) (rtG rk82) (st0 pk82 xs Tryd.f82.ntmps) := by kernel_rfl
noncomputable def P82 (n : Nat × Nat) := phiOf pk82 rk82 (fun xs => S82 n xs.1 xs.2.1)
theorem call82 : CallOK Tryd.prog 82 := callOK_of Tryd.func82 (by kernel_rfl) (by kernel_rfl)
theorem env82 (n : Nat × Nat) : EnvOK Tryd.prog (E82 n) := envOK (l := io82 n) noPhi_ok rfl rfl (by kernel_rfl) ⟨FC84c98io0001 n, call84, trivial⟩
theorem par82 (n : Nat × Nat) : EnvPar (E82 n) := envPar (l := io82 n) noPhi_par rfl ⟨phioOf_Pario1, trivial⟩
theorem FC82 (n : Nat × Nat) : FCs Tryd.prog 82 (P82 n) := phiOf_FCs fun xs r h vs hv => FC.of_runG tabOK eqsOK (env82 n) (par82 n) mixed (fun _ p _ => noScope_ok p.1 p.2) Tryd.func82 (c := c82) (an := an82) (pks := pk82) (rks := rk82) (by kernel_rfl) (by kernel_rfl) hv ((S82_run n xs).symm.trans h)
abbrev R34 := Int × Int
noncomputable def c34 : Code := bodyOf Tryd.f34
noncomputable def an34 : Ann := (.s .l (.s (.s .l (.s .l (.j [0, 1] .l .l))) .l))
def pk34 : List PK := [.c (.int .i64), .c (.sl (.int .i64))]
def rk34 : List RK := [.c (.int .i64) 4, .c (.int .i64) 5]
noncomputable def rt34 (st : St) : Option R34 := rtG rk34 st
noncomputable def E34 (n : Nat × Nat) : Env := { T := tab, phi := (consPhi 26 (fun _ => true) (P26 n) (consPhi 82 (fun _ => true) (P82 n) noPhi)), eff := fun _ => false, fuel := n.1, hold := n.2 }
noncomputable def S34 (n : Nat × Nat) (size0 : Int) (pieces1 : List Int) : Option R34 := run (E34 n) c34 an34 rt34 (fun _ _ => none) rt34 { tm := [.c (.int .i64 size0), .c (.sl (.int .i64) pieces1 false), uu, uu, uu, uu, uu, uu, uu, uu, uu, uu, uu, uu, uu, uu], hp := emp }
theorem S34_eq (n : Nat × Nat) (size0 : Int) (pieces1 : List Int) : S34 n size0 pieces1 =
 (S26 n size0 pieces1).bind fun r1' =>
 (bif (r1' != 0) then some (0, r1')
 else (S82 n size0 pieces1).bind fun r2' =>
 some (r2', 0)) := by kernel_rfl
theorem S34_run (n : Nat × Nat) (xs : pksDen pk34) : S34 n xs.1 xs.2.1 = runG (E34 n) noScope c34 an34 (rtG rk34) (fun _ _ => none) (rtG rk34) (st0 pk34 xs Tryd.f34.ntmps) := by kernel_rfl
noncomputable def P34 (n : Nat × Nat) := phiOf pk34 rk34 (fun xs => S34 n xs.1 xs.2.1)
theorem call34 : CallOK Tryd.prog 34 := callOK_of Tryd.func34 (by kernel_rfl) (by kernel_rfl)
theorem env34 (n : Nat × Nat) : EnvOK Tryd.prog (E34 n) := envOK0 (consPhi_ok (FC26 n) call26 (consPhi_ok (FC82 n) call82 noPhi_ok)) rfl rfl
theorem par34 (n : Nat × Nat) : EnvPar (E34 n) := envPar0 (consPhi_par phiOf_Par1 (consPhi_par phiOf_Par1 noPhi_par)) rfl
theorem FC34 (n : Nat × Nat) : FCs Tryd.prog 34 (P34 n) := phiOf_FCs fun xs r h vs hv => FC.of_runG tabOK eqsOK (env34 n) (par34 n) mixed (fun _ p _ => noScope_ok p.1 p.2) Tryd.func34 (c := c34) (an := an34) (pks := pk34) (rks := rk34) (by kernel_rfl) (by kernel_rfl) hv ((S34_run n xs).symm.trans h)
abbrev R57 := List Int
noncomputable def c57 : Code := bodyOf Tryd.f57
noncomputable def an57 : Ann := .l
def pk57 : List PK := []
def rk57 : List RK := [.own (.int .i64) 0]
noncomputable def rt57 (st : St) : Option R57 := rtG rk57 st
noncomputable def E57 (n : Nat × Nat) : Env := { T := tab, phi := noPhi, eff := fun _ => false, fuel := n.1, hold := n.2 }
noncomputable def S57 (n : Nat × Nat) : Option R57 := run (E57 n) c57 an57 rt57 (fun _ _ => none) rt57 { tm := [uu, uu, uu], hp := emp }
theorem S57_eq (n : Nat × Nat) : S57 n =
 some [6, 3, 6, 1, 3, 3] := by kernel_rfl
theorem S57_run (n : Nat × Nat) (xs : pksDen pk57) : S57 n = runG (E57 n) noScope c57 an57 (rtG rk57) (fun _ _ => none) (rtG rk57) (st0 pk57 xs Tryd.f57.ntmps) := by kernel_rfl
noncomputable def P57 (n : Nat × Nat) := phiOf pk57 rk57 (fun xs => S57 n)
theorem call57 : CallOK Tryd.prog 57 := callOK_of Tryd.func57 (by kernel_rfl) (by kernel_rfl)
theorem env57 (n : Nat × Nat) : EnvOK Tryd.prog (E57 n) := envOK0 noPhi_ok rfl rfl
theorem par57 (n : Nat × Nat) : EnvPar (E57 n) := envPar0 noPhi_par rfl
theorem FC57 (n : Nat × Nat) : FCs Tryd.prog 57 (P57 n) := phiOf_FCs fun xs r h vs hv => FC.of_runG tabOK eqsOK (env57 n) (par57 n) mixed (fun _ p _ => noScope_ok p.1 p.2) Tryd.func57 (c := c57) (an := an57) (pks := pk57) (rks := rk57) (by kernel_rfl) (by kernel_rfl) hv ((S57_run n xs).symm.trans h)
/- slices.Clone[[]int,int] -/
abbrev R56b := List Int
noncomputable def c56b : Code := bodyOf Tryd.f56
noncomputable def an56b : Ann := (.s .l (.s (.s .l (.j [0] .l .l)) .l))
def pk56b : List PK := [.c (.sl (.int .i64))]
def rk56b : List RK := [.own (.int .i64) 2]
noncomputable def rt56b (st : St) : Option R56b := rtG rk56b st
noncomputable def E56b (n : Nat × Nat) : Env := { T := tab, phi := noPhi, eff := fun _ => false, fuel := n.1, hold := n.2 }
noncomputable def S56b (n : Nat × Nat) (s0 : List Int) : Option R56b := run (E56b n) c56b an56b rt56b (fun _ _ => none) rt56b { tm := [.c (.sl (.int .i64) s0 false), uu, uu, uu, uu, uu, uu, uu], hp := emp }
theorem S56b_eq (n : Nat × Nat) (s0 : List Int) : S56b n s0 =
    (bif !s0.isEmpty then (bif false then some []
      else (bif decide (([] : List Int).length + s0.length ≤ lim) then some ([] ++ s0)
        else none))
    else none) := by kernel_rfl
theorem S56b_run (n : Nat × Nat) (xs : pksDen pk56b) : S56b n xs.1 = runG (E56b n) noScope c56b an56b (rtG rk56b) (fun _ _ => none) (rtG rk56b) (st0 pk56b xs Tryd.f56.ntmps) := by kernel_rfl
noncomputable def P56b (n : Nat × Nat) := phiOf pk56b rk56b (fun xs => S56b n xs.1)
theorem env56b (n : Nat × Nat) : EnvOK Tryd.prog (E56b n) := envOK0 noPhi_ok rfl rfl
theorem par56b (n : Nat × Nat) : EnvPar (E56b n) := envPar0 noPhi_par rfl
theorem FC56b (n : Nat × Nat) : FCs Tryd.prog 56 (P56b n) := phiOf_FCs fun xs r h vs hv => FC.of_runG tabOK eqsOK (env56b n) (par56b n) mixed (fun _ p _ => noScope_ok p.1 p.2) Tryd.func56 (c := c56b) (an := an56b) (pks := pk56b) (rks := rk56b) (by kernel_rfl) (by kernel_rfl) hv ((S56b_run n xs).symm.trans h)
end Go.Proofs.YtgmonagekfjnmaaDoor
set_option linter.unusedVariables false
set_option linter.unusedSimpArgs false
set_option maxRecDepth 100000
namespace Go.Proofs.YtgmonagekfjnmaaDoor
open Go.RowKit Go.Shelf Go.Vi
def HF56 (l : List Int) : Option (List Int) := bif decide (l.length ≤ lim) then some l else none
theorem nil_eq (ad : Option Addr) (c : Nat) (w : World) : (binOp .eql 22 (.slice ad 0 c) (.slice none 0 0)).run Tryd.prog w = .ok (.bool ad.isNone) w := by
  have hu : Tryd.prog.underlying 22 = some (.slice 3) := by kernel_rfl
  simp only [binOp, Sem.run_bind, run_equal_slice_nil w 22 3 ad 0 c hu, Result.andThen_ok, Sem.run_pure]
section
attribute [local go_sem] Oper.semAt_some
set_option maxHeartbeats 2000000 in
theorem clone_none (w : World) (cap : Nat) : CallsIn Fence.wide 2 Tryd.prog 56 #[.slice none 0 cap] w fun e w' => e = .returned (.slice none 0 0) ∧ Below w.heap.size w w' := by
  refine callsIn_of_wp Tryd.func56 rfl trivial ?_ rfl
  simp only [Tryd.ntmps56, List.size_toArray, List.length_cons, List.length_nil, Nat.reduceAdd, Nat.reduceSub, Array.replicate_succ, Array.replicate_zero, List.push_toArray, List.append_toArray, List.nil_append, List.cons_append]
  have heq := nil_eq none cap
  gi_wp2
  go_ret
  exact ⟨rfl, Below.refl _ _⟩
set_option maxHeartbeats 2000000 in
theorem clone_some (w : World) (a : Addr) (cap : Nat) : CallsIn Fence.wide 2 Tryd.prog 56 #[.slice (some a) 0 cap] w fun e w' => ∃ b, e = .returned (.slice b 0 0) ∧ Below w.heap.size w w' := by
  refine callsIn_of_wp Tryd.func56 rfl trivial ?_ rfl
  simp only [Tryd.ntmps56, List.size_toArray, List.length_cons, List.length_nil, Nat.reduceAdd, Nat.reduceSub, Array.replicate_succ, Array.replicate_zero, List.push_toArray, List.append_toArray, List.nil_append, List.cons_append]
  have heq := nil_eq (some a) cap
  gi_wp2
  go_ret
  exact ⟨_, rfl, (Below.refl _ w).alloc (Nat.le_refl _) _⟩
end
theorem FCs.fc {P : Program} {g : FuncId} {pks : List PK} {rks : List RK} {S : pksDen pks → Option (rksDen rks)} (h : FCs P g (phiOf pks rks S)) {vs : List V} {xs : pksDen pks} {r : rksDen rks} (hv : pksArg pks vs = some xs) (hS : S xs = some r) : FC P g vs (rets rks r) := by
  obtain ⟨ret, h1, h2⟩ := h vs _ some (rets rks r) (by
    show (pksArg pks vs).bind (fun xs => (S xs).bind fun r => some (rets rks r)) = _
    rw [hv, Option.bind_some, hS, Option.bind_some])
  cases h1
  exact h2
theorem HC56 (n : Nat × Nat) (xs : pksDen [.c (.sl (.int .i64))]) (r : rksDen [.own (.int .i64) 0]) (h : HF56 xs.1 = some r) (vs : List V) (hv : pksArg [.c (.sl (.int .i64))] vs = some xs) :
    FC Tryd.prog 56 vs (rets [.own (.int .i64) 0] r) := by
  obtain ⟨l, ⟨⟩⟩ := xs
  unfold HF56 at h
  obtain ⟨hl, h⟩ := cond_some h rfl
  cases h
  have hl := of_decide_eq_true hl
  cases l with
  | cons x l =>
    refine FCs.fc (FC56b n) (xs := ((x :: l), ())) hv ?_
    show S56b n (x :: l) = some (x :: l)
    rw [S56b_eq]
    simp only [List.isEmpty_cons, Bool.not_false, cond_true, cond_false, List.length_nil, Nat.zero_add, List.nil_append]
    rw [decide_eq_true hl, cond_true]
  | nil =>
    intro w A0 args hA hargs _
    have hv2 := pksArg_VR _ _ _ _ hv hargs
    match args, hv2 with
    | [v0], ⟨g0, _⟩ =>
      obtain ⟨ad, cap, rfl, _⟩ := g0
      have key : CallsIn Fence.wide 2 Tryd.prog 56 #[.slice ad 0 cap] w fun e w' => ∃ b, e = .returned (.slice b 0 0) ∧ Below w.heap.size w w' := by
        cases ad with
        | none => exact (clone_none w cap).mono fun e w' ⟨h1, h2⟩ => ⟨none, h1, h2⟩
        | some a => exact clone_some w a cap
      refine (callsIn_wide.1 key).mono ?_
      rintro x W' ⟨b, rfl, hB⟩
      exact ⟨Grows.of_below hB, [.emp], [_], rfl, ⟨rfl, ⟨b, rfl, fun h => (by cases h), rfl, fun p l h => (by cases h)⟩, fun b c h => (by cases h)⟩, fun b c h => (by cases h), trivial⟩
end Go.Proofs.YtgmonagekfjnmaaDoor
set_option linter.unusedVariables false
set_option linter.unusedSimpArgs false
set_option maxRecDepth 100000
namespace Go.Proofs.YtgmonagekfjnmaaDoor
open Go.Vi
/- slices.Clone[[]int,int] -/
abbrev R56 := List Int
def pk56 : List PK := [.c (.sl (.int .i64))]
def rk56 : List RK := [.own (.int .i64) 0]
noncomputable def S56 (n : Nat × Nat) (s0 : List Int) : Option R56 := HF56 s0
noncomputable def P56 (n : Nat × Nat) := phiOf pk56 rk56 (fun xs => S56 n xs.1)
theorem call56 : CallOK Tryd.prog 56 := callOK_of Tryd.func56 (by kernel_rfl) (by kernel_rfl)
theorem FC56 (n : Nat × Nat) : FCs Tryd.prog 56 (P56 n) := phiOf_FCs fun xs r h vs hv => HC56 n xs r h vs hv
/- slices.Clone[[]int,int] -/
noncomputable def S56v (n : Nat × Nat) := S56 n
noncomputable def P56v (n : Nat × Nat) := phiOf pk56 [.lay (.int .i64) 2] (fun xs => S56v n xs.1)
theorem FC56v (n : Nat × Nat) : FCs Tryd.prog 56 (P56v n) := FCs_lay rfl (FC56 n)
abbrev R85io11 := (Bool) × (List Int) × (List Int) × Unit
noncomputable def c85io11 : Code := bodyOf Tryd.f85
noncomputable def an85io11 : Ann := .l
def pk85io11 : List QK := [.oa (.int .i64), .ob (.sl (.int .i64))]
def rk85io11 : List RK := [.c .bool 3]
noncomputable def rt85io11 (st : St) : Option R85io11 := rtIO rk85io11 (pk85io11.flatMap QK.ods) st
noncomputable def E85io11 (n : Nat × Nat) : Env := { T := tab, phi := (consPhi 56 (fun _ => true) (P56v n) noPhi), eff := fun _ => false, fuel := n.1, hold := n.2 }
noncomputable def S85io11 (n : Nat × Nat) (plan0 : List Int) (v1 : List Int) : Option R85io11 := run (E85io11 n) c85io11 an85io11 rt85io11 (fun _ _ => none) rt85io11 { tm := [.own 1000000000 none false, .ptr 1000000001 0, uu, uu, uu, uu], hp := (upd (upd emp 1000000001 (.box [.sl (.int .i64) v1 false])) 1000000000 (.arr (.int .i64) plan0 false)) }
theorem S85io11_eq (n : Nat × Nat) (plan0 : List Int) (v1 : List Int) : S85io11 n plan0 v1 =
 (S56v n plan0).bind fun r1' =>
 some (false, plan0, r1', ()) := by kernel_rfl
theorem S85io11_run (n : Nat × Nat) (xs : qksDen pk85io11) : S85io11 n xs.1 xs.2.1 = runG (E85io11 n) noScope c85io11 an85io11 (rtIO rk85io11 (pk85io11.flatMap QK.ods)) (fun _ _ => none) (rtIO rk85io11 (pk85io11.flatMap QK.ods)) (st1 pk85io11 xs Tryd.f85.ntmps) := by kernel_rfl
noncomputable def P85io11 (n : Nat × Nat) := phioOf pk85io11 rk85io11 (pk85io11.flatMap QK.ods) (fun xs => S85io11 n xs.1 xs.2.1)
theorem call85 : CallOK Tryd.prog 85 := callOK_of Tryd.func85 (by kernel_rfl) (by kernel_rfl)
theorem env85io11 (n : Nat × Nat) : EnvOK Tryd.prog (E85io11 n) := envOK0 (consPhi_ok (FC56v n) call56 noPhi_ok) rfl rfl
theorem par85io11 (n : Nat × Nat) : EnvPar (E85io11 n) := envPar0 (consPhi_par phiOf_Par1 noPhi_par) rfl
theorem FC85io11 (n : Nat × Nat) : FCios Tryd.prog 85 (pk85io11.map QK.flag) (P85io11 n) := phioOf_FCios fun xs r h vs hv => FCio.of_runG tabOK eqsOK (env85io11 n) (par85io11 n) mixed (fun _ p _ => noScope_ok p.1 p.2) Tryd.func85 (c := c85io11) (an := an85io11) (qks := pk85io11) (rks := rk85io11) (by kernel_rfl) (by kernel_rfl) hv ((S85io11_run n xs).symm.trans h)
abbrev R84c85io0001 := (Unit) × (List Int) × Unit
noncomputable def c84c85io0001 : Code := bodyOf Tryd.f84
noncomputable def an84c85io0001 : Ann := (.s (.s .l (.s .l (.s .l (.s .l (.s (.s .l (.j [0, 1, 2, 3, 8, 9, 10, 42, 43, 44, 45, 46, 47, 48, 49, 50, 51, 52, 1000000000] (.s (.s .l (.j [0, 1, 2, 3, 8, 9, 10, 42, 43, 44, 45, 46, 47, 48, 49, 50, 51, 52, 1000000000] .l .l)) .l) .l)) (.s (.j [0, 1, 2, 3, 8, 9, 10, 42, 43, 44, 45, 46, 47, 48, 49, 50, 51, 52, 1000000000] (.j [0, 1, 2, 3, 8, 9, 10, 42, 43, 44, 45, 46, 47, 48, 49, 50, 51, 52, 1000000000] (.j [0, 1, 2, 3, 8, 9, 10, 42, 43, 44, 45, 46, 47, 48, 49, 50, 51, 52, 1000000000] (.s .l (.s .l (.s (.s .l (.j [0, 1, 2, 3, 8, 9, 10, 11, 42, 43, 44, 45, 46, 47, 48, 49, 50, 51, 52, 1000000000] .l .l)) (.s .l (.j [0, 1, 2, 3, 8, 9, 10, 42, 43, 44, 45, 46, 47, 48, 49, 50, 51, 52, 1000000000] .l .l))))) .l) .l) .l) (.s .l (.s (.s .l (.s .l (.j [0, 1, 2, 3, 8, 9, 10, 42, 43, 44, 45, 46, 47, 48, 49, 50, 51, 52, 1000000000] .l .l))) .l)))))))) (.g 0 [0, 1, 2, 3, 8, 9, 10, 42, 43, 44, 45, 46, 47, 48, 49, 50, 51, 52, 1000000000] (.s .l (.s (.s .l (.s .l (.j [0, 1, 2, 3, 8, 9, 10, 42, 43, 44, 45, 46, 47, 48, 49, 50, 51, 52, 1000000000] .l .l))) .l)) (.g 1 [0, 1, 2, 3, 8, 9, 10, 42, 43, 44, 45, 46, 47, 48, 49, 50, 51, 52, 1000000000] (.s .l (.s (.s .l (.j [0, 1, 2, 3, 8, 9, 10, 42, 43, 44, 45, 46, 47, 48, 49, 50, 51, 52, 1000000000] (.s (.s .l (.j [0, 1, 2, 3, 8, 9, 10, 42, 43, 44, 45, 46, 47, 48, 49, 50, 51, 52, 1000000000] .l .l)) .l) .l)) (.s (.j [0, 1, 2, 3, 8, 9, 10, 42, 43, 44, 45, 46, 47, 48, 49, 50, 51, 52, 1000000000] (.j [0, 1, 2, 3, 8, 9, 10, 42, 43, 44, 45, 46, 47, 48, 49, 50, 51, 52, 1000000000] (.j [0, 1, 2, 3, 8, 9, 10, 42, 43, 44, 45, 46, 47, 48, 49, 50, 51, 52, 1000000000] (.s .l (.s .l (.s (.s .l (.j [0, 1, 2, 3, 8, 9, 10, 11, 42, 43, 44, 45, 46, 47, 48, 49, 50, 51, 52, 1000000000] .l .l)) (.s .l (.j [0, 1, 2, 3, 8, 9, 10, 42, 43, 44, 45, 46, 47, 48, 49, 50, 51, 52, 1000000000] .l .l))))) .l) .l) .l) (.s .l (.s (.s .l (.s .l (.j [0, 1, 2, 3, 8, 9, 10, 42, 43, 44, 45, 46, 47, 48, 49, 50, 51, 52, 1000000000] .l .l))) .l))))) .l)))
def pk84c85io0001 : List QK := [.pl (.c (.int .i64)), .pl (.c (.sl (.int .i64))), .pl (.c (.int .i64)), .of 85 [(.sl (.int .i64))]]
def rk84c85io0001 : List RK := []
noncomputable def rt84c85io0001 (st : St) : Option R84c85io0001 := rtIO rk84c85io0001 (pk84c85io0001.flatMap QK.ods) st
noncomputable def io84c85io0001 (n : Nat × Nat) : List IoE := [⟨85, (fun _ => true), pk85io11.map QK.flag, P85io11 n⟩]
noncomputable def E84c85io0001 (n : Nat × Nat) : Env := { T := tab, phi := (consPhi 69 (fun _ => true) (P69 n) noPhi), eff := fun _ => false, fuel := n.1, hold := n.2, phio := phioL (io84c85io0001 n), iop := iopL (io84c85io0001 n) }
noncomputable def PF84c85io0001_1 (n : Nat × Nat) : (Nat × St → Option R84c85io0001) → Nat × St → Option R84c85io0001 := passF (E84c85io0001 n) (cA c84c85io0001) (Ann.labels (Ann.snd an84c85io0001)) rt84c85io0001 (fun _ _ => none) rt84c85io0001
noncomputable def kq84c85io0001_6 (n : Nat × Nat) : St → Option R84c85io0001 := run (E84c85io0001 n) (cB (cB (cB (cB (cB (cB (cA c84c85io0001))))))) (Ann.snd (Ann.snd (Ann.snd (Ann.snd (Ann.snd (Ann.snd (Ann.fst an84c85io0001))))))) rt84c85io0001 (jumpTo (Ann.labels (Ann.snd an84c85io0001)) (loopN (PF84c85io0001_1 n) n.1) (fun _ _ => none)) rt84c85io0001
noncomputable def xb84c85io0001_8 (n : Nat × Nat) : Nat → St → Option R84c85io0001 := fun j s => bif Nat.beq j 0 then normC [0, 1, 2, 3, 8, 9, 10, 42, 43, 44, 45, 46, 47, 48, 49, 50, 51, 52, 1000000000] s (kq84c85io0001_6 n) else (jumpTo (Ann.labels (Ann.snd an84c85io0001)) (loopN (PF84c85io0001_1 n) n.1) (fun _ _ => none)) j s
noncomputable def F84c85io0001_9 (n : Nat × Nat) : (St → Option R84c85io0001) → St → Option R84c85io0001 := fun K s => run (E84c85io0001 n) (cA (cA (cA (cB (cB (cB (cB (cB (cA c84c85io0001))))))))) (Ann.fst (Ann.fst (Ann.fst (Ann.snd (Ann.snd (Ann.snd (Ann.snd (Ann.snd (Ann.fst an84c85io0001))))))))) (fun s => normC [0, 1, 2, 3, 8, 9, 10, 42, 43, 44, 45, 46, 47, 48, 49, 50, 51, 52, 1000000000] s K) (xb84c85io0001_8 n) rt84c85io0001 s
noncomputable def kq84c85io0001_21 (n : Nat × Nat) (m1 : Nat) : St → Option R84c85io0001 := run (E84c85io0001 n) (cB (cB (cB (labOf 1 (cA c84c85io0001))))) (Ann.snd (Ann.snd (Ann.snd (annOf (Ann.labels (Ann.snd an84c85io0001)) 1)))) rt84c85io0001 (jumpTo (Ann.labels (Ann.snd an84c85io0001)) (loopN (PF84c85io0001_1 n) m1) (fun _ _ => none)) rt84c85io0001
noncomputable def xb84c85io0001_23 (n : Nat × Nat) (m1 : Nat) : Nat → St → Option R84c85io0001 := fun j s => bif Nat.beq j 0 then normC [0, 1, 2, 3, 8, 9, 10, 42, 43, 44, 45, 46, 47, 48, 49, 50, 51, 52, 1000000000] s (kq84c85io0001_21 n m1) else (jumpTo (Ann.labels (Ann.snd an84c85io0001)) (loopN (PF84c85io0001_1 n) m1) (fun _ _ => none)) j s
noncomputable def F84c85io0001_24 (n : Nat × Nat) (m1 : Nat) : (St → Option R84c85io0001) → St → Option R84c85io0001 := fun K s => run (E84c85io0001 n) (cA (cA (cA (cB (cB (labOf 1 (cA c84c85io0001))))))) (Ann.fst (Ann.fst (Ann.fst (Ann.snd (Ann.snd (annOf (Ann.labels (Ann.snd an84c85io0001)) 1)))))) (fun s => normC [0, 1, 2, 3, 8, 9, 10, 42, 43, 44, 45, 46, 47, 48, 49, 50, 51, 52, 1000000000] s K) (xb84c85io0001_23 n m1) rt84c85io0001 s
noncomputable def L84c85io0001_1 (n : Nat × Nat) (m : Nat) (size0 : Int) (pieces1 : List Int) (most2 : Int) (i10 : Int) (u0 : List Int) (plan8 : List Int) (left9 : List Int) : Option R84c85io0001 := loopN (PF84c85io0001_1 n) m (0, { tm := [.c (.int .i64 size0), .c (.sl (.int .i64) pieces1 false), .c (.int .i64 most2), .fn 85 [.ptr 1000000000 0], uu, uu, uu, uu, .own 8 none false, .own 9 none false, .c (.int .i64 i10), uu, uu, uu, uu, uu, uu, uu, uu, uu, uu, uu, uu, uu, uu, uu, uu, uu, uu, uu, uu, uu, uu, uu, uu, uu, uu, uu, uu, uu, uu, uu, uu, uu, uu, uu, uu, uu, uu, uu, uu, uu, uu, uu, uu, uu, uu, uu, uu, uu, uu, uu, uu, uu, uu, uu, uu, uu, uu, uu, uu, uu, uu, uu, uu, uu, uu, uu, uu, uu, uu, uu, uu, uu, uu, uu, uu, uu, uu, uu, uu, uu, uu, uu, uu], hp := (upd (upd (upd emp 9 (.arr (.int .i64) left9 false)) 8 (.arr (.int .i64) plan8 false)) 1000000000 (.box [.sl (.int .i64) u0 false])) })
noncomputable def L84c85io0001_2 (n : Nat × Nat) (m : Nat) (size0 : Int) (pieces1 : List Int) (most2 : Int) (i10 : Int) (u0 : List Int) (plan8 : List Int) (left9 : List Int) : Option R84c85io0001 := loopN (F84c85io0001_9 n) m { tm := [.c (.int .i64 size0), .c (.sl (.int .i64) pieces1 false), .c (.int .i64 most2), .fn 85 [.ptr 1000000000 0], uu, uu, uu, uu, .own 8 none false, .own 9 none false, .c (.int .i64 i10), uu, uu, uu, uu, uu, uu, uu, uu, uu, uu, uu, uu, uu, uu, uu, uu, uu, uu, uu, uu, uu, uu, uu, uu, uu, uu, uu, uu, uu, uu, uu, uu, uu, uu, uu, uu, uu, uu, uu, uu, uu, uu, uu, uu, uu, uu, uu, uu, uu, uu, uu, uu, uu, uu, uu, uu, uu, uu, uu, uu, uu, uu, uu, uu, uu, uu, uu, uu, uu, uu, uu, uu, uu, uu, uu, uu, uu, uu, uu, uu, uu, uu, uu, uu], hp := (upd (upd (upd emp 9 (.arr (.int .i64) left9 false)) 8 (.arr (.int .i64) plan8 false)) 1000000000 (.box [.sl (.int .i64) u0 false])) }
noncomputable def L84c85io0001_3 (n : Nat × Nat) (m : Nat) (size0 : Int) (pieces1 : List Int) (most2 : Int) (i10 : Int) (u0 : List Int) (plan8 : List Int) (left9 : List Int) : Option R84c85io0001 := loopN (PF84c85io0001_1 n) m (1, { tm := [.c (.int .i64 size0), .c (.sl (.int .i64) pieces1 false), .c (.int .i64 most2), .fn 85 [.ptr 1000000000 0], uu, uu, uu, uu, .own 8 none false, .own 9 none false, .c (.int .i64 i10), uu, uu, uu, uu, uu, uu, uu, uu, uu, uu, uu, uu, uu, uu, uu, uu, uu, uu, uu, uu, uu, uu, uu, uu, uu, uu, uu, uu, uu, uu, uu, uu, uu, uu, uu, uu, uu, uu, uu, uu, uu, uu, uu, uu, uu, uu, uu, uu, uu, uu, uu, uu, uu, uu, uu, uu, uu, uu, uu, uu, uu, uu, uu, uu, uu, uu, uu, uu, uu, uu, uu, uu, uu, uu, uu, uu, uu, uu, uu, uu, uu, uu, uu, uu], hp := (upd (upd (upd emp 9 (.arr (.int .i64) left9 false)) 8 (.arr (.int .i64) plan8 false)) 1000000000 (.box [.sl (.int .i64) u0 false])) })
noncomputable def L84c85io0001_4 (n : Nat × Nat) (m1 : Nat) (m : Nat) (size0 : Int) (pieces1 : List Int) (most2 : Int) (i10 : Int) (u0 : List Int) (plan8 : List Int) (left9 : List Int) : Option R84c85io0001 := loopN (F84c85io0001_24 n m1) m { tm := [.c (.int .i64 size0), .c (.sl (.int .i64) pieces1 false), .c (.int .i64 most2), .fn 85 [.ptr 1000000000 0], uu, uu, uu, uu, .own 8 none false, .own 9 none false, .c (.int .i64 i10), uu, uu, uu, uu, uu, uu, uu, uu, uu, uu, uu, uu, uu, uu, uu, uu, uu, uu, uu, uu, uu, uu, uu, uu, uu, uu, uu, uu, uu, uu, uu, uu, uu, uu, uu, uu, uu, uu, uu, uu, uu, uu, uu, uu, uu, uu, uu, uu, uu, uu, uu, uu, uu, uu, uu, uu, uu, uu, uu, uu, uu, uu, uu, uu, uu, uu, uu, uu, uu, uu, uu, uu, uu, uu, uu, uu, uu, uu, uu, uu, uu, uu, uu, uu], hp := (upd (upd (upd emp 9 (.arr (.int .i64) left9 false)) 8 (.arr (.int .i64) plan8 false)) 1000000000 (.box [.sl (.int .i64) u0 false])) }
theorem L84c85io0001_1_eq (n : Nat × Nat) (m1 : Nat) (size0 : Int) (pieces1 : List Int) (most2 : Int) (i10 : Int) (u0 : List Int) (plan8 : List Int) (left9 : List Int) : L84c85io0001_1 n (m1 + 1) size0 pieces1 most2 i10 u0 plan8 left9 =
 (bif decide (wr .i64 (i10 - 1) < 0) then some ((), u0, ())
 else (bif inB (wr .i64 (i10 - 1)) plan8.length then (idx plan8 (wr .i64 (i10 - 1))).bind fun x4' =>
 (bif inB x4' left9.length then (idx left9 x4').bind fun x5' =>
 (idx pieces1 (wr .i64 (i10 - 1))).bind fun x6' =>
 (bif inB x4' left9.length then (idx left9 x4').bind fun x7' =>
            L84c85io0001_3 n m1 size0 pieces1 most2 (wr .i64 (i10 - 1)) u0 plan8 (left9.set (Int.toNat x4') (wr .i64 (x5' + x6')))
 else none)
 else none)
 else none)) := by kernel_rfl
theorem L84c85io0001_2_eq (n : Nat × Nat) (m1 : Nat) (size0 : Int) (pieces1 : List Int) (most2 : Int) (i10 : Int) (u0 : List Int) (plan8 : List Int) (left9 : List Int) : L84c85io0001_2 n (m1 + 1) size0 pieces1 most2 i10 u0 plan8 left9 =
 (bif inB i10 plan8.length then (idx plan8 i10).bind fun x8' =>
 (bif inB i10 plan8.length then (idx plan8 i10).bind fun x9' =>
 (bif inB i10 (plan8.set (Int.toNat i10) (wr .i64 (x8' + 1))).length then (idx (plan8.set (Int.toNat i10) (wr .i64 (x8' + 1))) i10).bind fun x10' =>
 ((bif (decide (x10' ≥ most2) == false) then ((bif (decide (x10' > 0) == true) then (bif inB (wr .i64 (x10' - 1)) left9.length then (idx left9 (wr .i64 (x10' - 1))).bind fun x11' =>
 some (x11' == size0)
 else none)
 else some false)).bind fun b12' =>
 some b12'
 else some true)).bind fun b13' =>
 (bif b13' then (bif inB i10 (plan8.set (Int.toNat i10) (wr .i64 (x8' + 1))).length then (idx (plan8.set (Int.toNat i10) (wr .i64 (x8' + 1))) i10).bind fun x14' =>
              L84c85io0001_1 n n.1 size0 pieces1 most2 i10 u0 ((plan8.set (Int.toNat i10) (wr .i64 (x8' + 1))).set (Int.toNat i10) (-1)) left9
 else none)
 else (bif inB x10' left9.length then (idx left9 x10').bind fun x15' =>
 (idx pieces1 i10).bind fun x16' =>
 (bif decide (x15' ≥ x16') then (bif inB x10' left9.length then (idx left9 x10').bind fun x17' =>
 (idx pieces1 i10).bind fun x18' =>
 (bif inB x10' left9.length then (idx left9 x10').bind fun x19' =>
                    L84c85io0001_3 n n.1 size0 pieces1 most2 (wr .i64 (i10 + 1)) u0 (plan8.set (Int.toNat i10) (wr .i64 (x8' + 1))) (left9.set (Int.toNat x10') (wr .i64 (x17' - x18')))
 else none)
 else none)
 else L84c85io0001_2 n m1 size0 pieces1 most2 i10 u0 (plan8.set (Int.toNat i10) (wr .i64 (x8' + 1))) left9)
 else none))
 else none)
 else none)
 else none) := by kernel_rfl
theorem L84c85io0001_3_eq (n : Nat × Nat) (m1 : Nat) (size0 : Int) (pieces1 : List Int) (most2 : Int) (i10 : Int) (u0 : List Int) (plan8 : List Int) (left9 : List Int) : L84c85io0001_3 n (m1 + 1) size0 pieces1 most2 i10 u0 plan8 left9 =
 (bif (i10 == (pieces1.length : Int)) then (S85io11 n plan8 u0).bind fun r20' =>
 (bif Nat.beq r20'.2.1.length plan8.length then (bif (!r20'.1) then some ((), r20'.2.2.1, ())
 else L84c85io0001_1 n m1 size0 pieces1 most2 i10 r20'.2.2.1 r20'.2.1 left9)
 else none)
 else L84c85io0001_4 n m1 n.1 size0 pieces1 most2 i10 u0 plan8 left9) := by kernel_rfl
theorem L84c85io0001_4_eq (n : Nat × Nat) (m1 m2 : Nat) (size0 : Int) (pieces1 : List Int) (most2 : Int) (i10 : Int) (u0 : List Int) (plan8 : List Int) (left9 : List Int) : L84c85io0001_4 n m1 (m2 + 1) size0 pieces1 most2 i10 u0 plan8 left9 =
 (bif inB i10 plan8.length then (idx plan8 i10).bind fun x21' =>
 (bif inB i10 plan8.length then (idx plan8 i10).bind fun x22' =>
 (bif inB i10 (plan8.set (Int.toNat i10) (wr .i64 (x21' + 1))).length then (idx (plan8.set (Int.toNat i10) (wr .i64 (x21' + 1))) i10).bind fun x23' =>
 ((bif (decide (x23' ≥ most2) == false) then ((bif (decide (x23' > 0) == true) then (bif inB (wr .i64 (x23' - 1)) left9.length then (idx left9 (wr .i64 (x23' - 1))).bind fun x24' =>
 some (x24' == size0)
 else none)
 else some false)).bind fun b25' =>
 some b25'
 else some true)).bind fun b26' =>
 (bif b26' then (bif inB i10 (plan8.set (Int.toNat i10) (wr .i64 (x21' + 1))).length then (idx (plan8.set (Int.toNat i10) (wr .i64 (x21' + 1))) i10).bind fun x27' =>
              L84c85io0001_1 n m1 size0 pieces1 most2 i10 u0 ((plan8.set (Int.toNat i10) (wr .i64 (x21' + 1))).set (Int.toNat i10) (-1)) left9
 else none)
 else (bif inB x23' left9.length then (idx left9 x23').bind fun x28' =>
 (idx pieces1 i10).bind fun x29' =>
 (bif decide (x28' ≥ x29') then (bif inB x23' left9.length then (idx left9 x23').bind fun x30' =>
 (idx pieces1 i10).bind fun x31' =>
 (bif inB x23' left9.length then (idx left9 x23').bind fun x32' =>
                    L84c85io0001_3 n m1 size0 pieces1 most2 (wr .i64 (i10 + 1)) u0 (plan8.set (Int.toNat i10) (wr .i64 (x21' + 1))) (left9.set (Int.toNat x23') (wr .i64 (x30' - x31')))
 else none)
 else none)
 else L84c85io0001_4 n m1 m2 size0 pieces1 most2 i10 u0 (plan8.set (Int.toNat i10) (wr .i64 (x21' + 1))) left9)
 else none))
 else none)
 else none)
 else none) := by kernel_rfl
noncomputable def S84c85io0001 (n : Nat × Nat) (size0 : Int) (pieces1 : List Int) (most2 : Int) (cp_3_0 : List Int) : Option R84c85io0001 := run1 (E84c85io0001 n) c84c85io0001 an84c85io0001 rt84c85io0001 (fun _ _ => none) rt84c85io0001 { tm := [.c (.int .i64 size0), .c (.sl (.int .i64) pieces1 false), .c (.int .i64 most2), .fn 85 [.ptr 1000000000 0], uu, uu, uu, uu, uu, uu, uu, uu, uu, uu, uu, uu, uu, uu, uu, uu, uu, uu, uu, uu, uu, uu, uu, uu, uu, uu, uu, uu, uu, uu, uu, uu, uu, uu, uu, uu, uu, uu, uu, uu, uu, uu, uu, uu, uu, uu, uu, uu, uu, uu, uu, uu, uu, uu, uu, uu, uu, uu, uu, uu, uu, uu, uu, uu, uu, uu, uu, uu, uu, uu, uu, uu, uu, uu, uu, uu, uu, uu, uu, uu, uu, uu, uu, uu, uu, uu, uu, uu, uu, uu, uu], hp := (upd emp 1000000000 (.box [.sl (.int .i64) cp_3_0 false])) }
theorem S84c85io0001_eq (n : Nat × Nat) (size0 : Int) (pieces1 : List Int) (most2 : Int) (cp_3_0 : List Int) : S84c85io0001 n size0 pieces1 most2 cp_3_0 =
 (S69 n [-1] (pieces1.length : Int)).bind fun r1' =>
 (S69 n [size0] most2).bind fun r2' =>
 (bif (0 == (pieces1.length : Int)) then (S85io11 n r1' cp_3_0).bind fun r3' =>
 (bif Nat.beq r3'.2.1.length r1'.length then (bif (!r3'.1) then some ((), r3'.2.2.1, ())
 else L84c85io0001_1 n n.1 size0 pieces1 most2 0 r3'.2.2.1 r3'.2.1 r2')
 else none)
 else L84c85io0001_2 n n.1 size0 pieces1 most2 0 cp_3_0 r1' r2') := by kernel_rfl
theorem S84c85io0001_run (n : Nat × Nat) (xs : qksDen pk84c85io0001) : S84c85io0001 n xs.1 xs.2.1 xs.2.2.1 xs.2.2.2.1.1 = runG (E84c85io0001 n) (scope1 (E84c85io0001 n)) c84c85io0001 an84c85io0001 (rtIO rk84c85io0001 (pk84c85io0001.flatMap QK.ods)) (fun _ _ => none) (rtIO rk84c85io0001 (pk84c85io0001.flatMap QK.ods)) (st1 pk84c85io0001 xs Tryd.f84.ntmps) := by kernel_rfl
noncomputable def P84c85io0001 (n : Nat × Nat) := phioOf pk84c85io0001 rk84c85io0001 (pk84c85io0001.flatMap QK.ods) (fun xs => S84c85io0001 n xs.1 xs.2.1 xs.2.2.1 xs.2.2.2.1.1)
theorem env84c85io0001 (n : Nat × Nat) : EnvOK Tryd.prog (E84c85io0001 n) := envOK (l := io84c85io0001 n) (consPhi_ok (FC69 n) call69 noPhi_ok) rfl rfl (by kernel_rfl) ⟨FC85io11 n, call85, trivial⟩
theorem par84c85io0001 (n : Nat × Nat) : EnvPar (E84c85io0001 n) := envPar (l := io84c85io0001 n) (consPhi_par phiOf_Par1 noPhi_par) rfl ⟨phioOf_Pario1, trivial⟩
theorem FC84c85io0001 (n : Nat × Nat) : FCios Tryd.prog 84 (pk84c85io0001.map QK.flag) (P84c85io0001 n) := phioOf_FCios fun xs r h vs hv => FCio.of_runG tabOK eqsOK (env84c85io0001 n) (par84c85io0001 n) mixed (fun _ p _ => scope1_ok tabOK eqsOK (env84c85io0001 n) (par84c85io0001 n) mixed p.1 p.2) Tryd.func84 (c := c84c85io0001) (an := an84c85io0001) (qks := pk84c85io0001) (rks := rk84c85io0001) (by kernel_rfl) (by kernel_rfl) hv ((S84c85io0001_run n xs).symm.trans h)
abbrev R36 := List Int × Int
noncomputable def c36 : Code := bodyOf Tryd.f36
noncomputable def an36 : Ann := (.s .l (.s (.s .l (.s .l (.j [0, 1] .l .l))) .l))
def pk36 : List PK := [.c (.int .i64), .c (.sl (.int .i64))]
def rk36 : List RK := [.sl (.int .i64) 4, .c (.int .i64) 5]
noncomputable def rt36 (st : St) : Option R36 := rtG rk36 st
noncomputable def io36 (n : Nat × Nat) : List IoE := [⟨84, (isFns [none, none, none, some 85]), pk84c85io0001.map QK.flag, P84c85io0001 n⟩]
noncomputable def E36 (n : Nat × Nat) : Env := { T := tab, phi := (consPhi 26 (fun _ => true) (P26 n) (consPhi 82 (fun _ => true) (P82 n) noPhi)), eff := fun _ => false, fuel := n.1, hold := n.2, phio := phioL (io36 n), iop := iopL (io36 n) }
noncomputable def S36 (n : Nat × Nat) (size0 : Int) (pieces1 : List Int) : Option R36 := run (E36 n) c36 an36 rt36 (fun _ _ => none) rt36 { tm := [.c (.int .i64 size0), .c (.sl (.int .i64) pieces1 false), uu, uu, uu, uu, uu, uu, uu, uu, uu, uu, uu, uu, uu, uu, uu, uu, uu, uu, uu, uu], hp := emp }
theorem S36_eq (n : Nat × Nat) (size0 : Int) (pieces1 : List Int) : S36 n size0 pieces1 =
 (S26 n size0 pieces1).bind fun r1' =>
 (bif (r1' != 0) then some ([], r1')
 else (S82 n size0 pieces1).bind fun r2' =>
 (S84c85io0001 n size0 pieces1 r2' []).bind fun r3' =>
 some (r3'.2.1, 0)) := by kernel_rfl
theorem S36_run (n : Nat × Nat) (xs : pksDen pk36) : S36 n xs.1 xs.2.1 = runG (E36 n) noScope c36 an36 (rtG rk36) (fun _ _ => none) (rtG rk36) (st0 pk36 xs Tryd.f36.ntmps) := by kernel_rfl
noncomputable def P36 (n : Nat × Nat) := phiOf pk36 rk36 (fun xs => S36 n xs.1 xs.2.1)
theorem call36 : CallOK Tryd.prog 36 := callOK_of Tryd.func36 (by kernel_rfl) (by kernel_rfl)
theorem env36 (n : Nat × Nat) : EnvOK Tryd.prog (E36 n) := envOK (l := io36 n) (consPhi_ok (FC26 n) call26 (consPhi_ok (FC82 n) call82 noPhi_ok)) rfl rfl (by kernel_rfl) ⟨FC84c85io0001 n, call84, trivial⟩
theorem par36 (n : Nat × Nat) : EnvPar (E36 n) := envPar (l := io36 n) (consPhi_par phiOf_Par1 (consPhi_par phiOf_Par1 noPhi_par)) rfl ⟨phioOf_Pario1, trivial⟩
theorem FC36 (n : Nat × Nat) : FCs Tryd.prog 36 (P36 n) := phiOf_FCs fun xs r h vs hv => FC.of_runG tabOK eqsOK (env36 n) (par36 n) mixed (fun _ p _ => noScope_ok p.1 p.2) Tryd.func36 (c := c36) (an := an36) (pks := pk36) (rks := rk36) (by kernel_rfl) (by kernel_rfl) hv ((S36_run n xs).symm.trans h)
abbrev R60 := List Int
noncomputable def c60 : Code := bodyOf Tryd.f60
noncomputable def an60 : Ann := .l
def pk60 : List PK := []
def rk60 : List RK := [.own (.int .i64) 0]
noncomputable def rt60 (st : St) : Option R60 := rtG rk60 st
noncomputable def E60 (n : Nat × Nat) : Env := { T := tab, phi := noPhi, eff := fun _ => false, fuel := n.1, hold := n.2 }
noncomputable def S60 (n : Nat × Nat) : Option R60 := run (E60 n) c60 an60 rt60 (fun _ _ => none) rt60 { tm := [uu, uu, uu], hp := emp }
theorem S60_eq (n : Nat × Nat) : S60 n =
 some [4, 4, 4, 4, 4] := by kernel_rfl
theorem S60_run (n : Nat × Nat) (xs : pksDen pk60) : S60 n = runG (E60 n) noScope c60 an60 (rtG rk60) (fun _ _ => none) (rtG rk60) (st0 pk60 xs Tryd.f60.ntmps) := by kernel_rfl
noncomputable def P60 (n : Nat × Nat) := phiOf pk60 rk60 (fun xs => S60 n)
theorem call60 : CallOK Tryd.prog 60 := callOK_of Tryd.func60 (by kernel_rfl) (by kernel_rfl)
theorem env60 (n : Nat × Nat) : EnvOK Tryd.prog (E60 n) := envOK0 noPhi_ok rfl rfl
theorem par60 (n : Nat × Nat) : EnvPar (E60 n) := envPar0 noPhi_par rfl
theorem FC60 (n : Nat × Nat) : FCs Tryd.prog 60 (P60 n) := phiOf_FCs fun xs r h vs hv => FC.of_runG tabOK eqsOK (env60 n) (par60 n) mixed (fun _ p _ => noScope_ok p.1 p.2) Tryd.func60 (c := c60) (an := an60) (pks := pk60) (rks := rk60) (by kernel_rfl) (by kernel_rfl) hv ((S60_run n xs).symm.trans h)
abbrev R86io11 := (Bool) × (List Int) × Int × Unit
noncomputable def c86io11 : Code := bodyOf Tryd.f86
noncomputable def an86io11 : Ann := .l
def pk86io11 : List QK := [.oa (.int .i64), .ob (.int .i64)]
def rk86io11 : List RK := [.c .bool 3]
noncomputable def rt86io11 (st : St) : Option R86io11 := rtIO rk86io11 (pk86io11.flatMap QK.ods) st
noncomputable def E86io11 (n : Nat × Nat) : Env := { T := tab, phi := noPhi, eff := fun _ => false, fuel := n.1, hold := n.2 }
noncomputable def S86io11 (n : Nat × Nat) (v0 : List Int) (v1 : Int) : Option R86io11 := run (E86io11 n) c86io11 an86io11 rt86io11 (fun _ _ => none) rt86io11 { tm := [.own 1000000000 none false, .ptr 1000000001 0, uu, uu, uu, uu], hp := (upd (upd emp 1000000001 (.box [.int .i64 v1])) 1000000000 (.arr (.int .i64) v0 false)) }
theorem S86io11_eq (n : Nat × Nat) (v0 : List Int) (v1 : Int) : S86io11 n v0 v1 =
 some (true, v0, wr .i64 (v1 + 1), ()) := by kernel_rfl
theorem S86io11_run (n : Nat × Nat) (xs : qksDen pk86io11) : S86io11 n xs.1 xs.2.1 = runG (E86io11 n) noScope c86io11 an86io11 (rtIO rk86io11 (pk86io11.flatMap QK.ods)) (fun _ _ => none) (rtIO rk86io11 (pk86io11.flatMap QK.ods)) (st1 pk86io11 xs Tryd.f86.ntmps) := by kernel_rfl
noncomputable def P86io11 (n : Nat × Nat) := phioOf pk86io11 rk86io11 (pk86io11.flatMap QK.ods) (fun xs => S86io11 n xs.1 xs.2.1)
theorem call86 : CallOK Tryd.prog 86 := callOK_of Tryd.func86 (by kernel_rfl) (by kernel_rfl)
theorem env86io11 (n : Nat × Nat) : EnvOK Tryd.prog (E86io11 n) := envOK0 noPhi_ok rfl rfl
theorem par86io11 (n : Nat × Nat) : EnvPar (E86io11 n) := envPar0 noPhi_par rfl
theorem FC86io11 (n : Nat × Nat) : FCios Tryd.prog 86 (pk86io11.map QK.flag) (P86io11 n) := phioOf_FCios fun xs r h vs hv => FCio.of_runG tabOK eqsOK (env86io11 n) (par86io11 n) mixed (fun _ p _ => noScope_ok p.1 p.2) Tryd.func86 (c := c86io11) (an := an86io11) (qks := pk86io11) (rks := rk86io11) (by kernel_rfl) (by kernel_rfl) hv ((S86io11_run n xs).symm.trans h)
abbrev R84c86io0001 := (Unit) × Int × Unit
noncomputable def c84c86io0001 : Code := bodyOf Tryd.f84
noncomputable def an84c86io0001 : Ann := (.s (.s .l (.s .l (.s .l (.s .l (.s (.s .l (.j [0, 1, 2, 3, 8, 9, 10, 42, 43, 44, 45, 46, 47, 48, 49, 50, 51, 52, 1000000000] (.s (.s .l (.j [0, 1, 2, 3, 8, 9, 10, 42, 43, 44, 45, 46, 47, 48, 49, 50, 51, 52, 1000000000] .l .l)) .l) .l)) (.s (.j [0, 1, 2, 3, 8, 9, 10, 42, 43, 44, 45, 46, 47, 48, 49, 50, 51, 52, 1000000000] (.j [0, 1, 2, 3, 8, 9, 10, 42, 43, 44, 45, 46, 47, 48, 49, 50, 51, 52, 1000000000] (.j [0, 1, 2, 3, 8, 9, 10, 42, 43, 44, 45, 46, 47, 48, 49, 50, 51, 52, 1000000000] (.s .l (.s .l (.s (.s .l (.j [0, 1, 2, 3, 8, 9, 10, 11, 42, 43, 44, 45, 46, 47, 48, 49, 50, 51, 52, 1000000000] .l .l)) (.s .l (.j [0, 1, 2, 3, 8, 9, 10, 42, 43, 44, 45, 46, 47, 48, 49, 50, 51, 52, 1000000000] .l .l))))) .l) .l) .l) (.s .l (.s (.s .l (.s .l (.j [0, 1, 2, 3, 8, 9, 10, 42, 43, 44, 45, 46, 47, 48, 49, 50, 51, 52, 1000000000] .l .l))) .l)))))))) (.g 0 [0, 1, 2, 3, 8, 9, 10, 42, 43, 44, 45, 46, 47, 48, 49, 50, 51, 52, 1000000000] (.s .l (.s (.s .l (.s .l (.j [0, 1, 2, 3, 8, 9, 10, 42, 43, 44, 45, 46, 47, 48, 49, 50, 51, 52, 1000000000] .l .l))) .l)) (.g 1 [0, 1, 2, 3, 8, 9, 10, 42, 43, 44, 45, 46, 47, 48, 49, 50, 51, 52, 1000000000] (.s .l (.s (.s .l (.j [0, 1, 2, 3, 8, 9, 10, 42, 43, 44, 45, 46, 47, 48, 49, 50, 51, 52, 1000000000] (.s (.s .l (.j [0, 1, 2, 3, 8, 9, 10, 42, 43, 44, 45, 46, 47, 48, 49, 50, 51, 52, 1000000000] .l .l)) .l) .l)) (.s (.j [0, 1, 2, 3, 8, 9, 10, 42, 43, 44, 45, 46, 47, 48, 49, 50, 51, 52, 1000000000] (.j [0, 1, 2, 3, 8, 9, 10, 42, 43, 44, 45, 46, 47, 48, 49, 50, 51, 52, 1000000000] (.j [0, 1, 2, 3, 8, 9, 10, 42, 43, 44, 45, 46, 47, 48, 49, 50, 51, 52, 1000000000] (.s .l (.s .l (.s (.s .l (.j [0, 1, 2, 3, 8, 9, 10, 11, 42, 43, 44, 45, 46, 47, 48, 49, 50, 51, 52, 1000000000] .l .l)) (.s .l (.j [0, 1, 2, 3, 8, 9, 10, 42, 43, 44, 45, 46, 47, 48, 49, 50, 51, 52, 1000000000] .l .l))))) .l) .l) .l) (.s .l (.s (.s .l (.s .l (.j [0, 1, 2, 3, 8, 9, 10, 42, 43, 44, 45, 46, 47, 48, 49, 50, 51, 52, 1000000000] .l .l))) .l))))) .l)))
def pk84c86io0001 : List QK := [.pl (.c (.int .i64)), .pl (.c (.sl (.int .i64))), .pl (.c (.int .i64)), .of 86 [(.int .i64)]]
def rk84c86io0001 : List RK := []
noncomputable def rt84c86io0001 (st : St) : Option R84c86io0001 := rtIO rk84c86io0001 (pk84c86io0001.flatMap QK.ods) st
noncomputable def io84c86io0001 (n : Nat × Nat) : List IoE := [⟨86, (fun _ => true), pk86io11.map QK.flag, P86io11 n⟩]
noncomputable def E84c86io0001 (n : Nat × Nat) : Env := { T := tab, phi := (consPhi 69 (fun _ => true) (P69 n) noPhi), eff := fun _ => false, fuel := n.1, hold := n.2, phio := phioL (io84c86io0001 n), iop := iopL (io84c86io0001 n) }
noncomputable def PF84c86io0001_1 (n : Nat × Nat) : (Nat × St → Option R84c86io0001) → Nat × St → Option R84c86io0001 := passF (E84c86io0001 n) (cA c84c86io0001) (Ann.labels (Ann.snd an84c86io0001)) rt84c86io0001 (fun _ _ => none) rt84c86io0001
noncomputable def kq84c86io0001_6 (n : Nat × Nat) : St → Option R84c86io0001 := run (E84c86io0001 n) (cB (cB (cB (cB (cB (cB (cA c84c86io0001))))))) (Ann.snd (Ann.snd (Ann.snd (Ann.snd (Ann.snd (Ann.snd (Ann.fst an84c86io0001))))))) rt84c86io0001 (jumpTo (Ann.labels (Ann.snd an84c86io0001)) (loopN (PF84c86io0001_1 n) n.1) (fun _ _ => none)) rt84c86io0001
noncomputable def xb84c86io0001_8 (n : Nat × Nat) : Nat → St → Option R84c86io0001 := fun j s => bif Nat.beq j 0 then normC [0, 1, 2, 3, 8, 9, 10, 42, 43, 44, 45, 46, 47, 48, 49, 50, 51, 52, 1000000000] s (kq84c86io0001_6 n) else (jumpTo (Ann.labels (Ann.snd an84c86io0001)) (loopN (PF84c86io0001_1 n) n.1) (fun _ _ => none)) j s
noncomputable def F84c86io0001_9 (n : Nat × Nat) : (St → Option R84c86io0001) → St → Option R84c86io0001 := fun K s => run (E84c86io0001 n) (cA (cA (cA (cB (cB (cB (cB (cB (cA c84c86io0001))))))))) (Ann.fst (Ann.fst (Ann.fst (Ann.snd (Ann.snd (Ann.snd (Ann.snd (Ann.snd (Ann.fst an84c86io0001))))))))) (fun s => normC [0, 1, 2, 3, 8, 9, 10, 42, 43, 44, 45, 46, 47, 48, 49, 50, 51, 52, 1000000000] s K) (xb84c86io0001_8 n) rt84c86io0001 s
noncomputable def kq84c86io0001_21 (n : Nat × Nat) (m1 : Nat) : St → Option R84c86io0001 := run (E84c86io0001 n) (cB (cB (cB (labOf 1 (cA c84c86io0001))))) (Ann.snd (Ann.snd (Ann.snd (annOf (Ann.labels (Ann.snd an84c86io0001)) 1)))) rt84c86io0001 (jumpTo (Ann.labels (Ann.snd an84c86io0001)) (loopN (PF84c86io0001_1 n) m1) (fun _ _ => none)) rt84c86io0001
noncomputable def xb84c86io0001_23 (n : Nat × Nat) (m1 : Nat) : Nat → St → Option R84c86io0001 := fun j s => bif Nat.beq j 0 then normC [0, 1, 2, 3, 8, 9, 10, 42, 43, 44, 45, 46, 47, 48, 49, 50, 51, 52, 1000000000] s (kq84c86io0001_21 n m1) else (jumpTo (Ann.labels (Ann.snd an84c86io0001)) (loopN (PF84c86io0001_1 n) m1) (fun _ _ => none)) j s
noncomputable def F84c86io0001_24 (n : Nat × Nat) (m1 : Nat) : (St → Option R84c86io0001) → St → Option R84c86io0001 := fun K s => run (E84c86io0001 n) (cA (cA (cA (cB (cB (labOf 1 (cA c84c86io0001))))))) (Ann.fst (Ann.fst (Ann.fst (Ann.snd (Ann.snd (annOf (Ann.labels (Ann.snd an84c86io0001)) 1)))))) (fun s => normC [0, 1, 2, 3, 8, 9, 10, 42, 43, 44, 45, 46, 47, 48, 49, 50, 51, 52, 1000000000] s K) (xb84c86io0001_23 n m1) rt84c86io0001 s
noncomputable def L84c86io0001_1 (n : Nat × Nat) (m : Nat) (size0 : Int) (pieces1 : List Int) (most2 : Int) (i10 : Int) (u0 : Int) (plan8 : List Int) (left9 : List Int) : Option R84c86io0001 := loopN (PF84c86io0001_1 n) m (0, { tm := [.c (.int .i64 size0), .c (.sl (.int .i64) pieces1 false), .c (.int .i64 most2), .fn 86 [.ptr 1000000000 0], uu, uu, uu, uu, .own 8 none false, .own 9 none false, .c (.int .i64 i10), uu, uu, uu, uu, uu, uu, uu, uu, uu, uu, uu, uu, uu, uu, uu, uu, uu, uu, uu, uu, uu, uu, uu, uu, uu, uu, uu, uu, uu, uu, uu, uu, uu, uu, uu, uu, uu, uu, uu, uu, uu, uu, uu, uu, uu, uu, uu, uu, uu, uu, uu, uu, uu, uu, uu, uu, uu, uu, uu, uu, uu, uu, uu, uu, uu, uu, uu, uu, uu, uu, uu, uu, uu, uu, uu, uu, uu, uu, uu, uu, uu, uu, uu, uu], hp := (upd (upd (upd emp 9 (.arr (.int .i64) left9 false)) 8 (.arr (.int .i64) plan8 false)) 1000000000 (.box [.int .i64 u0])) })
noncomputable def L84c86io0001_2 (n : Nat × Nat) (m : Nat) (size0 : Int) (pieces1 : List Int) (most2 : Int) (i10 : Int) (u0 : Int) (plan8 : List Int) (left9 : List Int) : Option R84c86io0001 := loopN (F84c86io0001_9 n) m { tm := [.c (.int .i64 size0), .c (.sl (.int .i64) pieces1 false), .c (.int .i64 most2), .fn 86 [.ptr 1000000000 0], uu, uu, uu, uu, .own 8 none false, .own 9 none false, .c (.int .i64 i10), uu, uu, uu, uu, uu, uu, uu, uu, uu, uu, uu, uu, uu, uu, uu, uu, uu, uu, uu, uu, uu, uu, uu, uu, uu, uu, uu, uu, uu, uu, uu, uu, uu, uu, uu, uu, uu, uu, uu, uu, uu, uu, uu, uu, uu, uu, uu, uu, uu, uu, uu, uu, uu, uu, uu, uu, uu, uu, uu, uu, uu, uu, uu, uu, uu, uu, uu, uu, uu, uu, uu, uu, uu, uu, uu, uu, uu, uu, uu, uu, uu, uu, uu, uu], hp := (upd (upd (upd emp 9 (.arr (.int .i64) left9 false)) 8 (.arr (.int .i64) plan8 false)) 1000000000 (.box [.int .i64 u0])) }
noncomputable def L84c86io0001_3 (n : Nat × Nat) (m : Nat) (size0 : Int) (pieces1 : List Int) (most2 : Int) (i10 : Int) (u0 : Int) (plan8 : List Int) (left9 : List Int) : Option R84c86io0001 := loopN (PF84c86io0001_1 n) m (1, { tm := [.c (.int .i64 size0), .c (.sl (.int .i64) pieces1 false), .c (.int .i64 most2), .fn 86 [.ptr 1000000000 0], uu, uu, uu, uu, .own 8 none false, .own 9 none false, .c (.int .i64 i10), uu, uu, uu, uu, uu, uu, uu, uu, uu, uu, uu, uu, uu, uu, uu, uu, uu, uu, uu, uu, uu, uu, uu, uu, uu, uu, uu, uu, uu, uu, uu, uu, uu, uu, uu, uu, uu, uu, uu, uu, uu, uu, uu, uu, uu, uu, uu, uu, uu, uu, uu, uu, uu, uu, uu, uu, uu, uu, uu, uu, uu, uu, uu, uu, uu, uu, uu, uu, uu, uu, uu, uu, uu, uu, uu, uu, uu, uu, uu, uu, uu, uu, uu, uu], hp := (upd (upd (upd emp 9 (.arr (.int .i64) left9 false)) 8 (.arr (.int .i64) plan8 false)) 1000000000 (.box [.int .i64 u0])) })
noncomputable def L84c86io0001_4 (n : Nat × Nat) (m1 : Nat) (m : Nat) (size0 : Int) (pieces1 : List Int) (most2 : Int) (i10 : Int) (u0 : Int) (plan8 : List Int) (left9 : List Int) : Option R84c86io0001 := loopN (F84c86io0001_24 n m1) m { tm := [.c (.int .i64 size0), .c (.sl (.int .i64) pieces1 false), .c (.int .i64 most2), .fn 86 [.ptr 1000000000 0], uu, uu, uu, uu, .own 8 none false, .own 9 none false, .c (.int .i64 i10), uu, uu, uu, uu, uu, uu, uu, uu, uu, uu, uu, uu, uu, uu, uu, uu, uu, uu, uu, uu, uu, uu, uu, uu, uu, uu, uu, uu, uu, uu, uu, uu, uu, uu, uu, uu, uu, uu, uu, uu, uu, uu, uu, uu, uu, uu, uu, uu, uu, uu, uu, uu, uu, uu, uu, uu, uu, uu, uu, uu, uu, uu, uu, uu, uu, uu, uu, uu, uu, uu, uu, uu, uu, uu, uu, uu, uu, uu, uu, uu, uu, uu, uu, uu], hp := (upd (upd (upd emp 9 (.arr (.int .i64) left9 false)) 8 (.arr (.int .i64) plan8 false)) 1000000000 (.box [.int .i64 u0])) }
theorem L84c86io0001_1_eq (n : Nat × Nat) (m1 : Nat) (size0 : Int) (pieces1 : List Int) (most2 : Int) (i10 : Int) (u0 : Int) (plan8 : List Int) (left9 : List Int) : L84c86io0001_1 n (m1 + 1) size0 pieces1 most2 i10 u0 plan8 left9 =
 (bif decide (wr .i64 (i10 - 1) < 0) then some ((), u0, ())
 else (bif inB (wr .i64 (i10 - 1)) plan8.length then (idx plan8 (wr .i64 (i10 - 1))).bind fun x4' =>
 (bif inB x4' left9.length then (idx left9 x4').bind fun x5' =>
 (idx pieces1 (wr .i64 (i10 - 1))).bind fun x6' =>
 (bif inB x4' left9.length then (idx left9 x4').bind fun x7' =>
            L84c86io0001_3 n m1 size0 pieces1 most2 (wr .i64 (i10 - 1)) u0 plan8 (left9.set (Int.toNat x4') (wr .i64 (x5' + x6')))
 else none)
 else none)
 else none)) := by kernel_rfl
theorem L84c86io0001_2_eq (n : Nat × Nat) (m1 : Nat) (size0 : Int) (pieces1 : List Int) (most2 : Int) (i10 : Int) (u0 : Int) (plan8 : List Int) (left9 : List Int) : L84c86io0001_2 n (m1 + 1) size0 pieces1 most2 i10 u0 plan8 left9 =
 (bif inB i10 plan8.length then (idx plan8 i10).bind fun x8' =>
 (bif inB i10 plan8.length then (idx plan8 i10).bind fun x9' =>
 (bif inB i10 (plan8.set (Int.toNat i10) (wr .i64 (x8' + 1))).length then (idx (plan8.set (Int.toNat i10) (wr .i64 (x8' + 1))) i10).bind fun x10' =>
 ((bif (decide (x10' ≥ most2) == false) then ((bif (decide (x10' > 0) == true) then (bif inB (wr .i64 (x10' - 1)) left9.length then (idx left9 (wr .i64 (x10' - 1))).bind fun x11' =>
 some (x11' == size0)
 else none)
 else some false)).bind fun b12' =>
 some b12'
 else some true)).bind fun b13' =>
 (bif b13' then (bif inB i10 (plan8.set (Int.toNat i10) (wr .i64 (x8' + 1))).length then (idx (plan8.set (Int.toNat i10) (wr .i64 (x8' + 1))) i10).bind fun x14' =>
              L84c86io0001_1 n n.1 size0 pieces1 most2 i10 u0 ((plan8.set (Int.toNat i10) (wr .i64 (x8' + 1))).set (Int.toNat i10) (-1)) left9
 else none)
 else (bif inB x10' left9.length then (idx left9 x10').bind fun x15' =>
 (idx pieces1 i10).bind fun x16' =>
 (bif decide (x15' ≥ x16') then (bif inB x10' left9.length then (idx left9 x10').bind fun x17' =>
 (idx pieces1 i10).bind fun x18' =>
 (bif inB x10' left9.length then (idx left9 x10').bind fun x19' =>
                    L84c86io0001_3 n n.1 size0 pieces1 most2 (wr .i64 (i10 + 1)) u0 (plan8.set (Int.toNat i10) (wr .i64 (x8' + 1))) (left9.set (Int.toNat x10') (wr .i64 (x17' - x18')))
 else none)
 else none)
 else L84c86io0001_2 n m1 size0 pieces1 most2 i10 u0 (plan8.set (Int.toNat i10) (wr .i64 (x8' + 1))) left9)
 else none))
 else none)
 else none)
 else none) := by kernel_rfl
theorem L84c86io0001_3_eq (n : Nat × Nat) (m1 : Nat) (size0 : Int) (pieces1 : List Int) (most2 : Int) (i10 : Int) (u0 : Int) (plan8 : List Int) (left9 : List Int) : L84c86io0001_3 n (m1 + 1) size0 pieces1 most2 i10 u0 plan8 left9 =
 (bif (i10 == (pieces1.length : Int)) then (S86io11 n plan8 u0).bind fun r20' =>
 (bif Nat.beq r20'.2.1.length plan8.length then (bif (!r20'.1) then some ((), r20'.2.2.1, ())
 else L84c86io0001_1 n m1 size0 pieces1 most2 i10 r20'.2.2.1 r20'.2.1 left9)
 else none)
 else L84c86io0001_4 n m1 n.1 size0 pieces1 most2 i10 u0 plan8 left9) := by kernel_rfl
theorem L84c86io0001_4_eq (n : Nat × Nat) (m1 m2 : Nat) (size0 : Int) (pieces1 : List Int) (most2 : Int) (i10 : Int) (u0 : Int) (plan8 : List Int) (left9 : List Int) : L84c86io0001_4 n m1 (m2 + 1) size0 pieces1 most2 i10 u0 plan8 left9 =
 (bif inB i10 plan8.length then (idx plan8 i10).bind fun x21' =>
 (bif inB i10 plan8.length then (idx plan8 i10).bind fun x22' =>
 (bif inB i10 (plan8.set (Int.toNat i10) (wr .i64 (x21' + 1))).length then (idx (plan8.set (Int.toNat i10) (wr .i64 (x21' + 1))) i10).bind fun x23' =>
 ((bif (decide (x23' ≥ most2) == false) then ((bif (decide (x23' > 0) == true) then (bif inB (wr .i64 (x23' - 1)) left9.length then (idx left9 (wr .i64 (x23' - 1))).bind fun x24' =>
 some (x24' == size0)
 else none)
 else some false)).bind fun b25' =>
 some b25'
 else some true)).bind fun b26' =>
 (bif b26' then (bif inB i10 (plan8.set (Int.toNat i10) (wr .i64 (x21' + 1))).length then (idx (plan8.set (Int.toNat i10) (wr .i64 (x21' + 1))) i10).bind fun x27' =>
              L84c86io0001_1 n m1 size0 pieces1 most2 i10 u0 ((plan8.set (Int.toNat i10) (wr .i64 (x21' + 1))).set (Int.toNat i10) (-1)) left9
 else none)
 else (bif inB x23' left9.length then (idx left9 x23').bind fun x28' =>
 (idx pieces1 i10).bind fun x29' =>
 (bif decide (x28' ≥ x29') then (bif inB x23' left9.length then (idx left9 x23').bind fun x30' =>
 (idx pieces1 i10).bind fun x31' =>
 (bif inB x23' left9.length then (idx left9 x23').bind fun x32' =>
                    L84c86io0001_3 n m1 size0 pieces1 most2 (wr .i64 (i10 + 1)) u0 (plan8.set (Int.toNat i10) (wr .i64 (x21' + 1))) (left9.set (Int.toNat x23') (wr .i64 (x30' - x31')))
 else none)
 else none)
 else L84c86io0001_4 n m1 m2 size0 pieces1 most2 i10 u0 (plan8.set (Int.toNat i10) (wr .i64 (x21' + 1))) left9)
 else none))
 else none)
 else none)
 else none) := by kernel_rfl
noncomputable def S84c86io0001 (n : Nat × Nat) (size0 : Int) (pieces1 : List Int) (most2 : Int) (cp_3_0 : Int) : Option R84c86io0001 := run1 (E84c86io0001 n) c84c86io0001 an84c86io0001 rt84c86io0001 (fun _ _ => none) rt84c86io0001 { tm := [.c (.int .i64 size0), .c (.sl (.int .i64) pieces1 false), .c (.int .i64 most2), .fn 86 [.ptr 1000000000 0], uu, uu, uu, uu, uu, uu, uu, uu, uu, uu, uu, uu, uu, uu, uu, uu, uu, uu, uu, uu, uu, uu, uu, uu, uu, uu, uu, uu, uu, uu, uu, uu, uu, uu, uu, uu, uu, uu, uu, uu, uu, uu, uu, uu, uu, uu, uu, uu, uu, uu, uu, uu, uu, uu, uu, uu, uu, uu, uu, uu, uu, uu, uu, uu, uu, uu, uu, uu, uu, uu, uu, uu, uu, uu, uu, uu, uu, uu, uu, uu, uu, uu, uu, uu, uu, uu, uu, uu, uu, uu, uu], hp := (upd emp 1000000000 (.box [.int .i64 cp_3_0])) }
theorem S84c86io0001_eq (n : Nat × Nat) (size0 : Int) (pieces1 : List Int) (most2 : Int) (cp_3_0 : Int) : S84c86io0001 n size0 pieces1 most2 cp_3_0 =
 (S69 n [-1] (pieces1.length : Int)).bind fun r1' =>
 (S69 n [size0] most2).bind fun r2' =>
 (bif (0 == (pieces1.length : Int)) then (S86io11 n r1' cp_3_0).bind fun r3' =>
 (bif Nat.beq r3'.2.1.length r1'.length then (bif (!r3'.1) then some ((), r3'.2.2.1, ())
 else L84c86io0001_1 n n.1 size0 pieces1 most2 0 r3'.2.2.1 r3'.2.1 r2')
 else none)
 else L84c86io0001_2 n n.1 size0 pieces1 most2 0 cp_3_0 r1' r2') := by kernel_rfl
theorem S84c86io0001_run (n : Nat × Nat) (xs : qksDen pk84c86io0001) : S84c86io0001 n xs.1 xs.2.1 xs.2.2.1 xs.2.2.2.1.1 = runG (E84c86io0001 n) (scope1 (E84c86io0001 n)) c84c86io0001 an84c86io0001 (rtIO rk84c86io0001 (pk84c86io0001.flatMap QK.ods)) (fun _ _ => none) (rtIO rk84c86io0001 (pk84c86io0001.flatMap QK.ods)) (st1 pk84c86io0001 xs Tryd.f84.ntmps) := by kernel_rfl
noncomputable def P84c86io0001 (n : Nat × Nat) := phioOf pk84c86io0001 rk84c86io0001 (pk84c86io0001.flatMap QK.ods) (fun xs => S84c86io0001 n xs.1 xs.2.1 xs.2.2.1 xs.2.2.2.1.1)
theorem env84c86io0001 (n : Nat × Nat) : EnvOK Tryd.prog (E84c86io0001 n) := envOK (l := io84c86io0001 n) (consPhi_ok (FC69 n) call69 noPhi_ok) rfl rfl (by kernel_rfl) ⟨FC86io11 n, call86, trivial⟩
theorem par84c86io0001 (n : Nat × Nat) : EnvPar (E84c86io0001 n) := envPar (l := io84c86io0001 n) (consPhi_par phiOf_Par1 noPhi_par) rfl ⟨phioOf_Pario1, trivial⟩
theorem FC84c86io0001 (n : Nat × Nat) : FCios Tryd.prog 84 (pk84c86io0001.map QK.flag) (P84c86io0001 n) := phioOf_FCios fun xs r h vs hv => FCio.of_runG tabOK eqsOK (env84c86io0001 n) (par84c86io0001 n) mixed (fun _ p _ => scope1_ok tabOK eqsOK (env84c86io0001 n) (par84c86io0001 n) mixed p.1 p.2) Tryd.func84 (c := c84c86io0001) (an := an84c86io0001) (qks := pk84c86io0001) (rks := rk84c86io0001) (by kernel_rfl) (by kernel_rfl) hv ((S84c86io0001_run n xs).symm.trans h)
abbrev R38 := Int × Int
noncomputable def c38 : Code := bodyOf Tryd.f38
noncomputable def an38 : Ann := (.s .l (.s (.s .l (.s .l (.j [0, 1] .l .l))) .l))
def pk38 : List PK := [.c (.int .i64), .c (.sl (.int .i64))]
def rk38 : List RK := [.c (.int .i64) 4, .c (.int .i64) 5]
noncomputable def rt38 (st : St) : Option R38 := rtG rk38 st
noncomputable def io38 (n : Nat × Nat) : List IoE := [⟨84, (isFns [none, none, none, some 86]), pk84c86io0001.map QK.flag, P84c86io0001 n⟩]
noncomputable def E38 (n : Nat × Nat) : Env := { T := tab, phi := (consPhi 26 (fun _ => true) (P26 n) (consPhi 82 (fun _ => true) (P82 n) noPhi)), eff := fun _ => false, fuel := n.1, hold := n.2, phio := phioL (io38 n), iop := iopL (io38 n) }
noncomputable def S38 (n : Nat × Nat) (size0 : Int) (pieces1 : List Int) : Option R38 := run (E38 n) c38 an38 rt38 (fun _ _ => none) rt38 { tm := [.c (.int .i64 size0), .c (.sl (.int .i64) pieces1 false), uu, uu, uu, uu, uu, uu, uu, uu, uu, uu, uu, uu, uu, uu, uu, uu, uu, uu, uu, uu], hp := emp }
theorem S38_eq (n : Nat × Nat) (size0 : Int) (pieces1 : List Int) : S38 n size0 pieces1 =
 (S26 n size0 pieces1).bind fun r1' =>
 (bif (r1' != 0) then some (0, r1')
 else (S82 n size0 pieces1).bind fun r2' =>
 (S84c86io0001 n size0 pieces1 r2' 0).bind fun r3' =>
 some (r3'.2.1, 0)) := by kernel_rfl
theorem S38_run (n : Nat × Nat) (xs : pksDen pk38) : S38 n xs.1 xs.2.1 = runG (E38 n) noScope c38 an38 (rtG rk38) (fun _ _ => none) (rtG rk38) (st0 pk38 xs Tryd.f38.ntmps) := by kernel_rfl
noncomputable def P38 (n : Nat × Nat) := phiOf pk38 rk38 (fun xs => S38 n xs.1 xs.2.1)
theorem call38 : CallOK Tryd.prog 38 := callOK_of Tryd.func38 (by kernel_rfl) (by kernel_rfl)
theorem env38 (n : Nat × Nat) : EnvOK Tryd.prog (E38 n) := envOK (l := io38 n) (consPhi_ok (FC26 n) call26 (consPhi_ok (FC82 n) call82 noPhi_ok)) rfl rfl (by kernel_rfl) ⟨FC84c86io0001 n, call84, trivial⟩
theorem par38 (n : Nat × Nat) : EnvPar (E38 n) := envPar (l := io38 n) (consPhi_par phiOf_Par1 (consPhi_par phiOf_Par1 noPhi_par)) rfl ⟨phioOf_Pario1, trivial⟩
theorem FC38 (n : Nat × Nat) : FCs Tryd.prog 38 (P38 n) := phiOf_FCs fun xs r h vs hv => FC.of_runG tabOK eqsOK (env38 n) (par38 n) mixed (fun _ p _ => noScope_ok p.1 p.2) Tryd.func38 (c := c38) (an := an38) (pks := pk38) (rks := rk38) (by kernel_rfl) (by kernel_rfl) hv ((S38_run n xs).symm.trans h)
abbrev R93 := Bool
noncomputable def c93 : Code := bodyOf Tryd.f93
noncomputable def an93 : Ann := .l
def pk93 : List PK := [.c (.int .i64)]
def rk93 : List RK := [.c .bool 2]
noncomputable def rt93 (st : St) : Option R93 := rtG rk93 st
noncomputable def E93 (n : Nat × Nat) : Env := { T := tab, phi := noPhi, eff := fun _ => false, fuel := n.1, hold := n.2 }
noncomputable def S93 (n : Nat × Nat) (v0 : Int) : Option R93 := run (E93 n) c93 an93 rt93 (fun _ _ => none) rt93 { tm := [.c (.int .i64 v0), uu, uu, uu, uu], hp := emp }
theorem S93_eq (n : Nat × Nat) (v0 : Int) : S93 n v0 =
 some (decide (v0 < 0)) := by kernel_rfl
theorem S93_run (n : Nat × Nat) (xs : pksDen pk93) : S93 n xs.1 = runG (E93 n) noScope c93 an93 (rtG rk93) (fun _ _ => none) (rtG rk93) (st0 pk93 xs Tryd.f93.ntmps) := by kernel_rfl
noncomputable def P93 (n : Nat × Nat) := phiOf pk93 rk93 (fun xs => S93 n xs.1)
theorem call93 : CallOK Tryd.prog 93 := callOK_of Tryd.func93 (by kernel_rfl) (by kernel_rfl)
theorem env93 (n : Nat × Nat) : EnvOK Tryd.prog (E93 n) := envOK0 noPhi_ok rfl rfl
theorem par93 (n : Nat × Nat) : EnvPar (E93 n) := envPar0 noPhi_par rfl
theorem FC93 (n : Nat × Nat) : FCs Tryd.prog 93 (P93 n) := phiOf_FCs fun xs r h vs hv => FC.of_runG tabOK eqsOK (env93 n) (par93 n) mixed (fun _ p _ => noScope_ok p.1 p.2) Tryd.func93 (c := c93) (an := an93) (pks := pk93) (rks := rk93) (by kernel_rfl) (by kernel_rfl) hv ((S93_run n xs).symm.trans h)
/- slices.IndexFunc[[]int,int] -/
abbrev R79c93 := Int
noncomputable def c79c93 : Code := bodyOf Tryd.f79
noncomputable def an79c93 : Ann := (.s .l (.s (.s .l (.j [] (.j [0, 1, 7, 8] (.s .l (.s (.j [0, 1, 7, 8] .l .l) (.s (.j [0, 1, 7, 8] (.s .l (.s .l (.j [0, 1, 7, 8] .l .l))) .l) .l))) .l) .l)) .l))
def pk79c93 : List PK := [.c (.sl (.int .i64)), .f 93 []]
def rk79c93 : List RK := [.c (.int .i64) 4]
noncomputable def rt79c93 (st : St) : Option R79c93 := rtG rk79c93 st
noncomputable def E79c93 (n : Nat × Nat) : Env := { T := tab, phi := (consPhi 93 (fun _ => true) (P93 n) noPhi), eff := fun _ => false, fuel := n.1, hold := n.2, pcl := [11] }
noncomputable def kq79c93_1 (n : Nat × Nat) : St → Option R79c93 := run (E79c93 n) (cB (cB c79c93)) (Ann.snd (Ann.snd an79c93)) rt79c93 (fun _ _ => none) rt79c93
noncomputable def xb79c93_3 (n : Nat × Nat) : Nat → St → Option R79c93 := fun j s => bif Nat.beq j 0 then normC [] s (kq79c93_1 n) else (fun _ _ => none) j s
noncomputable def F79c93_4 (n : Nat × Nat) : (St → Option R79c93) → St → Option R79c93 := fun K s => run (E79c93 n) (cA (cA (cB (cA (cB c79c93))))) (Ann.fst (Ann.fst (Ann.snd (Ann.fst (Ann.snd an79c93))))) (fun s => normC [0, 1, 7, 8] s K) (xb79c93_3 n) rt79c93 s
noncomputable def L79c93_1 (n : Nat × Nat) (m : Nat) (s0 : List Int) (v7 : Int) (v8 : Int) : Option R79c93 := loopN (F79c93_4 n) m { tm := [.c (.sl (.int .i64) s0 false), .fn 93 [], uu, uu, uu, uu, uu, .c (.int .i64 v7), .c (.int .i64 v8), uu, uu, uu, uu, uu, uu, uu, uu, uu, uu], hp := emp }
theorem L79c93_1_eq (n : Nat × Nat) (m1 : Nat) (s0 : List Int) (v7 : Int) (v8 : Int) : L79c93_1 n (m1 + 1) s0 v7 v8 =
 (bif decide (v8 < v7) then (idx s0 v8).bind fun x1' =>
 (S93 n x1').bind fun r2' =>
 (bif r2' then some v8
 else L79c93_1 n m1 s0 v7 (wr .i64 (v8 + 1)))
 else some (-1)) := by kernel_rfl
noncomputable def S79c93 (n : Nat × Nat) (s0 : List Int) : Option R79c93 := run (E79c93 n) c79c93 an79c93 rt79c93 (fun _ _ => none) rt79c93 { tm := [.c (.sl (.int .i64) s0 false), .fn 93 [], uu, uu, uu, uu, uu, uu, uu, uu, uu, uu, uu, uu, uu, uu, uu, uu, uu], hp := emp }
theorem S79c93_eq (n : Nat × Nat) (s0 : List Int) : S79c93 n s0 =
    L79c93_1 n n.1 s0 (s0.length : Int) 0 := by kernel_rfl
theorem S79c93_run (n : Nat × Nat) (xs : pksDen pk79c93) : S79c93 n xs.1 = runG (E79c93 n) noScope c79c93 an79c93 (rtG rk79c93) (fun _ _ => none) (rtG rk79c93) (st0 pk79c93 xs Tryd.f79.ntmps) := by kernel_rfl
noncomputable def P79c93 (n : Nat × Nat) := phiOf pk79c93 rk79c93 (fun xs => S79c93 n xs.1)
theorem env79c93 (n : Nat × Nat) : EnvOK Tryd.prog (E79c93 n) := envOK0 (consPhi_ok (FC93 n) call93 noPhi_ok) rfl rfl
theorem par79c93 (n : Nat × Nat) : EnvPar (E79c93 n) := envPar0 (consPhi_par phiOf_Par1 noPhi_par) rfl
theorem FC79c93 (n : Nat × Nat) : FCs Tryd.prog 79 (P79c93 n) := phiOf_FCs fun xs r h vs hv => FC.of_runG tabOK eqsOK (env79c93 n) (par79c93 n) mixed (fun _ p _ => noScope_ok p.1 p.2) Tryd.func79 (c := c79c93) (an := an79c93) (pks := pk79c93) (rks := rk79c93) (by kernel_rfl) (by kernel_rfl) hv ((S79c93_run n xs).symm.trans h)
/- slices.ContainsFunc[[]int,int] -/
abbrev R75c93 := Bool
noncomputable def c75c93 : Code := bodyOf Tryd.f75
noncomputable def an75c93 : Ann := .l
def pk75c93 : List PK := [.c (.sl (.int .i64)), .f 93 []]
def rk75c93 : List RK := [.c .bool 4]
noncomputable def rt75c93 (st : St) : Option R75c93 := rtG rk75c93 st
noncomputable def E75c93 (n : Nat × Nat) : Env := { T := tab, phi := (consPhi 79 (isFns [none, some 93]) (P79c93 n) noPhi), eff := fun _ => false, fuel := n.1, hold := n.2 }
noncomputable def S75c93 (n : Nat × Nat) (s0 : List Int) : Option R75c93 := run (E75c93 n) c75c93 an75c93 rt75c93 (fun _ _ => none) rt75c93 { tm := [.c (.sl (.int .i64) s0 false), .fn 93 [], uu, uu, uu, uu, uu, uu, uu], hp := emp }
theorem S75c93_eq (n : Nat × Nat) (s0 : List Int) : S75c93 n s0 =
 (S79c93 n s0).bind fun r1' =>
 some (decide (r1' ≥ 0)) := by kernel_rfl
theorem S75c93_run (n : Nat × Nat) (xs : pksDen pk75c93) : S75c93 n xs.1 = runG (E75c93 n) noScope c75c93 an75c93 (rtG rk75c93) (fun _ _ => none) (rtG rk75c93) (st0 pk75c93 xs Tryd.f75.ntmps) := by kernel_rfl
noncomputable def P75c93 (n : Nat × Nat) := phiOf pk75c93 rk75c93 (fun xs => S75c93 n xs.1)
theorem env75c93 (n : Nat × Nat) : EnvOK Tryd.prog (E75c93 n) := envOK0 (consPhi_ok (FC79c93 n) call79 noPhi_ok) rfl rfl
theorem par75c93 (n : Nat × Nat) : EnvPar (E75c93 n) := envPar0 (consPhi_par phiOf_Par1 noPhi_par) rfl
theorem FC75c93 (n : Nat × Nat) : FCs Tryd.prog 75 (P75c93 n) := phiOf_FCs fun xs r h vs hv => FC.of_runG tabOK eqsOK (env75c93 n) (par75c93 n) mixed (fun _ p _ => noScope_ok p.1 p.2) Tryd.func75 (c := c75c93) (an := an75c93) (pks := pk75c93) (rks := rk75c93) (by kernel_rfl) (by kernel_rfl) hv ((S75c93_run n xs).symm.trans h)
abbrev R66 := List Int × Int
noncomputable def c66 : Code := bodyOf Tryd.f66
noncomputable def an66 : Ann := (.s .l (.s (.s .l (.j [0, 1, 2] (.s .l (.j [0, 1, 2] .l (.s .l (.j [0, 1, 2] .l .l)))) .l)) (.s .l (.s (.s .l (.j [9] (.j [0, 1, 9, 25, 26, 27] (.s .l (.s (.j [0, 1, 9, 25, 26, 27] .l .l) (.s (.j [0, 1, 9, 25, 26, 27] (.s .l (.j [] (.j [0, 1, 9, 10, 11, 25, 26, 27] (.s .l (.j [0, 1, 9, 10, 11, 25, 26, 27] .l (.s .l (.j [0, 1, 9, 10, 11, 25, 26, 27] .l (.s .l (.j [0, 1, 9, 10, 11, 25, 26, 27] .l .l)))))) .l) .l)) .l) .l))) .l) .l)) (.s (.s .l (.j [9] .l .l)) .l)))))
def pk66 : List PK := [.c (.int .i64), .c (.sl (.int .i64)), .c (.sl (.int .i64))]
def rk66 : List RK := [.own (.int .i64) 6, .c (.int .i64) 7]
noncomputable def rt66 (st : St) : Option R66 := rtG rk66 st
noncomputable def E66 (n : Nat × Nat) : Env := { T := tab, phi := (consPhi 26 (fun _ => true) (P26 n) (consPhi 75 (isFns [none, some 93]) (P75c93 n) noPhi)), eff := fun _ => false, fuel := n.1, hold := n.2 }
noncomputable def kq66_6 (n : Nat × Nat) : St → Option R66 := run (E66 n) (cB (cB (cB (cB c66)))) (Ann.snd (Ann.snd (Ann.snd (Ann.snd an66)))) rt66 (fun _ _ => none) rt66
noncomputable def xb66_8 (n : Nat × Nat) : Nat → St → Option R66 := fun j s => bif Nat.beq j 1 then normC [9] s (kq66_6 n) else (fun _ _ => none) j s
noncomputable def F66_9 (n : Nat × Nat) : (St → Option R66) → St → Option R66 := fun K s => run (E66 n) (cA (cA (cB (cA (cB (cB (cB c66))))))) (Ann.fst (Ann.fst (Ann.snd (Ann.fst (Ann.snd (Ann.snd (Ann.snd an66))))))) (fun s => normC [0, 1, 9, 25, 26, 27] s K) (xb66_8 n) rt66 s
noncomputable def kq66_12 (n : Nat × Nat) (m1 : Nat) : St → Option R66 := run (E66 n) (cB (cB (cB (cA (cA (cB (cA (cB (cB (cB c66)))))))))) (Ann.snd (Ann.snd (Ann.snd (Ann.fst (Ann.fst (Ann.snd (Ann.fst (Ann.snd (Ann.snd (Ann.snd an66)))))))))) (fun s => normC [0, 1, 9, 25, 26, 27] s (loopN (F66_9 n) m1)) (xb66_8 n) rt66
noncomputable def kc66_13 (n : Nat × Nat) (m1 : Nat) : St → Option R66 := fun s => normC [0, 1, 9, 25, 26, 27] s (kq66_12 n m1)
noncomputable def xb66_14 (n : Nat × Nat) (m1 : Nat) : Nat → St → Option R66 := fun j s => bif Nat.beq j 2 then normC [0, 1, 9, 25, 26, 27] s (kq66_12 n m1) else (xb66_8 n) j s
noncomputable def kq66_15 (n : Nat × Nat) (m1 : Nat) : St → Option R66 := run (E66 n) (cB (cB (cA (cA (cB (cB (cA (cA (cB (cA (cB (cB (cB c66))))))))))))) (Ann.snd (Ann.snd (Ann.fst (Ann.fst (Ann.snd (Ann.snd (Ann.fst (Ann.fst (Ann.snd (Ann.fst (Ann.snd (Ann.snd (Ann.snd an66))))))))))))) (kc66_13 n m1) (xb66_14 n m1) rt66
noncomputable def L66_1 (n : Nat × Nat) (m : Nat) (size0 : Int) (pieces1 : List Int) (v25 : List Int) (v26 : Int) (v27 : Int) (left9 : List Int) : Option R66 := loopN (F66_9 n) m { tm := [.c (.int .i64 size0), .c (.sl (.int .i64) pieces1 false), uu, uu, uu, uu, uu, uu, uu, .own 9 none false, uu, uu, uu, uu, uu, uu, uu, uu, uu, uu, uu, uu, uu, uu, uu, .c (.sl (.int .i64) v25 false), .c (.int .i64 v26), .c (.int .i64 v27), uu, uu, uu, uu, uu, uu, uu, uu, uu, uu, uu, uu, uu, uu, uu, uu, uu, uu, uu, uu, uu, uu, uu, uu, uu, uu, uu, uu, uu, uu, uu, uu, uu, uu, uu], hp := (upd emp 9 (.arr (.int .i64) left9 false)) }
noncomputable def L66_2 (n : Nat × Nat) (m1 : Nat) (size0 : Int) (pieces1 : List Int) (i10 : Int) (s11 : Int) (v25 : List Int) (v26 : Int) (v27 : Int) (left9 : List Int) : Option R66 := loopN (fun _ => (kq66_15 n m1)) n.2 { tm := [.c (.int .i64 size0), .c (.sl (.int .i64) pieces1 false), uu, uu, uu, uu, uu, uu, uu, .own 9 none false, .c (.int .i64 i10), .c (.int .i64 s11), uu, uu, uu, uu, uu, uu, uu, uu, uu, uu, uu, uu, uu, .c (.sl (.int .i64) v25 false), .c (.int .i64 v26), .c (.int .i64 v27), uu, uu, uu, uu, uu, uu, uu, uu, uu, uu, uu, uu, uu, uu, uu, uu, uu, uu, uu, uu, uu, uu, uu, uu, uu, uu, uu, uu, uu, uu, uu, uu, uu, uu, uu], hp := (upd emp 9 (.arr (.int .i64) left9 false)) }
theorem L66_1_eq (n : Nat × Nat) (m1 : Nat) (size0 : Int) (pieces1 : List Int) (v25 : List Int) (v26 : Int) (v27 : Int) (left9 : List Int) : L66_1 n (m1 + 1) size0 pieces1 v25 v26 v27 left9 =
 (bif decide (v27 < v26) then (idx v25 v27).bind fun x2' =>
 (bif decide (x2' < 0) then some ([], 2)
 else (bif decide (x2' > (left9.length : Int)) then some ([], 7)
 else (bif (x2' == (left9.length : Int)) then (bif decide (left9.length + [size0].length ≤ lim) then L66_2 n m1 size0 pieces1 v27 x2' v25 v26 v27 (left9 ++ [size0])
 else none)
 else L66_2 n m1 size0 pieces1 v27 x2' v25 v26 v27 left9)))
 else (S75c93 n left9).bind fun r3' =>
 (bif r3' then some ([], 15)
 else some (left9, 0))) := by kernel_rfl
theorem L66_2_raw (n : Nat × Nat) (m1 : Nat) (size0 : Int) (pieces1 : List Int) (i10 : Int) (s11 : Int) (v25 : List Int) (v26 : Int) (v27 : Int) (left9 : List Int) : (kq66_15 n m1) { tm := [.c (.int .i64 size0), .c (.sl (.int .i64) pieces1 false), uu, uu, uu, uu, uu, uu, uu, .own 9 none false, .c (.int .i64 i10), .c (.int .i64 s11), uu, uu, uu, uu, uu, uu, uu, uu, uu, uu, uu, uu, uu, .c (.sl (.int .i64) v25 false), .c (.int .i64 v26), .c (.int .i64 v27), uu, uu, uu, uu, uu, uu, uu, uu, uu, uu, uu, uu, uu, uu, uu, uu, uu, uu, uu, uu, uu, uu, uu, uu, uu, uu, uu, uu, uu, uu, uu, uu, uu, uu, uu], hp := (upd emp 9 (.arr (.int .i64) left9 false)) } =
 (bif inB s11 left9.length then (idx left9 s11).bind fun x4' =>
 (idx pieces1 i10).bind fun x5' =>
 (bif inB s11 left9.length then (idx left9 s11).bind fun x6' =>
        L66_1 n m1 size0 pieces1 v25 v26 (wr .i64 (v27 + 1)) (left9.set (Int.toNat s11) (wr .i64 (x4' - x5')))
 else none)
 else none) := by kernel_rfl
noncomputable def S66 (n : Nat × Nat) (size0 : Int) (pieces1 : List Int) (plan2 : List Int) : Option R66 := run (E66 n) c66 an66 rt66 (fun _ _ => none) rt66 { tm := [.c (.int .i64 size0), .c (.sl (.int .i64) pieces1 false), .c (.sl (.int .i64) plan2 false), uu, uu, uu, uu, uu, uu, uu, uu, uu, uu, uu, uu, uu, uu, uu, uu, uu, uu, uu, uu, uu, uu, uu, uu, uu, uu, uu, uu, uu, uu, uu, uu, uu, uu, uu, uu, uu, uu, uu, uu, uu, uu, uu, uu, uu, uu, uu, uu, uu, uu, uu, uu, uu, uu, uu, uu, uu, uu, uu, uu], hp := emp }
theorem S66_eq (n : Nat × Nat) (size0 : Int) (pieces1 : List Int) (plan2 : List Int) : S66 n size0 pieces1 plan2 =
 (S26 n size0 pieces1).bind fun r1' =>
 (bif (r1' != 0) then some ([], r1')
 else (bif ((plan2.length : Int) != (pieces1.length : Int)) then some ([], 5)
 else L66_1 n n.1 size0 pieces1 plan2 (plan2.length : Int) 0 [])) := by kernel_rfl
theorem S66_run (n : Nat × Nat) (xs : pksDen pk66) : S66 n xs.1 xs.2.1 xs.2.2.1 = runG (E66 n) noScope c66 an66 (rtG rk66) (fun _ _ => none) (rtG rk66) (st0 pk66 xs Tryd.f66.ntmps) := by kernel_rfl
noncomputable def P66 (n : Nat × Nat) := phiOf pk66 rk66 (fun xs => S66 n xs.1 xs.2.1 xs.2.2.1)
theorem call66 : CallOK Tryd.prog 66 := callOK_of Tryd.func66 (by kernel_rfl) (by kernel_rfl)
theorem env66 (n : Nat × Nat) : EnvOK Tryd.prog (E66 n) := envOK0 (consPhi_ok (FC26 n) call26 (consPhi_ok (FC75c93 n) call75 noPhi_ok)) rfl rfl
theorem par66 (n : Nat × Nat) : EnvPar (E66 n) := envPar0 (consPhi_par phiOf_Par1 (consPhi_par phiOf_Par1 noPhi_par)) rfl
theorem FC66 (n : Nat × Nat) : FCs Tryd.prog 66 (P66 n) := phiOf_FCs fun xs r h vs hv => FC.of_runG tabOK eqsOK (env66 n) (par66 n) mixed (fun _ p _ => noScope_ok p.1 p.2) Tryd.func66 (c := c66) (an := an66) (pks := pk66) (rks := rk66) (by kernel_rfl) (by kernel_rfl) hv ((S66_run n xs).symm.trans h)
abbrev R18 := List Int × Int
noncomputable def c18 : Code := bodyOf Tryd.f18
noncomputable def an18 : Ann := .l
def pk18 : List PK := [.c (.int .i64), .c (.sl (.int .i64)), .c (.sl (.int .i64))]
def rk18 : List RK := [.own (.int .i64) 6, .c (.int .i64) 7]
noncomputable def rt18 (st : St) : Option R18 := rtG rk18 st
noncomputable def E18 (n : Nat × Nat) : Env := { T := tab, phi := (consPhi 66 (fun _ => true) (P66 n) noPhi), eff := fun _ => false, fuel := n.1, hold := n.2 }
noncomputable def S18 (n : Nat × Nat) (size0 : Int) (pieces1 : List Int) (plan2 : List Int) : Option R18 := run (E18 n) c18 an18 rt18 (fun _ _ => none) rt18 { tm := [.c (.int .i64 size0), .c (.sl (.int .i64) pieces1 false), .c (.sl (.int .i64) plan2 false), uu, uu, uu, uu, uu, uu, uu, uu, uu, uu, uu], hp := emp }
theorem S18_eq (n : Nat × Nat) (size0 : Int) (pieces1 : List Int) (plan2 : List Int) : S18 n size0 pieces1 plan2 =
 (S66 n size0 pieces1 plan2).bind fun r1' =>
 some (r1'.1, r1'.2) := by kernel_rfl
theorem S18_run (n : Nat × Nat) (xs : pksDen pk18) : S18 n xs.1 xs.2.1 xs.2.2.1 = runG (E18 n) noScope c18 an18 (rtG rk18) (fun _ _ => none) (rtG rk18) (st0 pk18 xs Tryd.f18.ntmps) := by kernel_rfl
noncomputable def P18 (n : Nat × Nat) := phiOf pk18 rk18 (fun xs => S18 n xs.1 xs.2.1 xs.2.2.1)
theorem call18 : CallOK Tryd.prog 18 := callOK_of Tryd.func18 (by kernel_rfl) (by kernel_rfl)
theorem env18 (n : Nat × Nat) : EnvOK Tryd.prog (E18 n) := envOK0 (consPhi_ok (FC66 n) call66 noPhi_ok) rfl rfl
theorem par18 (n : Nat × Nat) : EnvPar (E18 n) := envPar0 (consPhi_par phiOf_Par1 noPhi_par) rfl
theorem FC18 (n : Nat × Nat) : FCs Tryd.prog 18 (P18 n) := phiOf_FCs fun xs r h vs hv => FC.of_runG tabOK eqsOK (env18 n) (par18 n) mixed (fun _ p _ => noScope_ok p.1 p.2) Tryd.func18 (c := c18) (an := an18) (pks := pk18) (rks := rk18) (by kernel_rfl) (by kernel_rfl) hv ((S18_run n xs).symm.trans h)
end Go.Proofs.YtgmonagekfjnmaaDoor
set_option linter.unusedVariables false
set_option linter.unusedSimpArgs false
set_option maxRecDepth 100000
namespace Go.Proofs.YtgmonagekfjnmaaDoor
open Go.RowKit Go.Shelf Go.Vi
/-- The places of a number in a list. -/
def plc (s : Int) (k : Nat) : List Int → List Int
  | [] => []
  | x :: l => if x = s then (k : Int) :: plc s (k + 1) l else plc s (k + 1) l
def grp (l : List Int) (n : Nat) : List (List Int) := (List.range n).map fun s : Nat => plc (s : Int) 0 l
def HF20 (S : Int → List Int → List Int → Option (List Int × Int)) (sz : Int) (ps l : List Int) : Option (List (List Int) × Int) :=
  (S sz ps l).bind fun r => bif r.2 != 0 then some ([], r.2) else
    bif decide (r.1.length ≤ 1000000) && decide (l.length ≤ 1000000) && l.all (fun s => decide (0 ≤ s) && decide (s < r.1.length)) then some (grp l r.1.length, 0) else none
theorem plc_app (s : Int) : ∀ (l m : List Int) (k : Nat), plc s k (l ++ m) = plc s k l ++ plc s (k + l.length) m
  | [], m, k => by simp [plc]
  | x :: l, m, k => by
    simp only [List.cons_append, plc, List.length_cons]
    rw [plc_app s l m (k + 1), show k + 1 + l.length = k + (l.length + 1) by omega]
    split <;> rfl
theorem plc_len (s : Int) : ∀ (l : List Int) (k : Nat), (plc s k l).length ≤ l.length
  | [], _ => by simp [plc]
  | x :: l, k => by
    have := plc_len s l (k + 1)
    unfold plc
    split <;> simp <;> omega
/-- A block of cells. -/
def Blk (W : World) (b : Nat) (cur : Array Value) (t : TypeId) : Prop := W.heap[b]? = some (.cells cur t (0, 0))
theorem Blk.cell {W : World} {b : Nat} {cur : Array Value} {t : TypeId} (h : Blk W b cur t) (j : Nat) {v : Value} (hv : cur[j]? = some v) : W.cell? ⟨b, j, none⟩ = some v := by simp [World.cell?, show W.heap[b]? = _ from h, hv]
theorem Blk.frozen {W : World} {b : Nat} {cur : Array Value} {t : TypeId} (h : Blk W b cur t) (j : Nat) : W.frozen? ⟨b, j, none⟩ = false := by simp [World.frozen?, show W.heap[b]? = _ from h]
theorem Blk.lt {W : World} {b : Nat} {cur : Array Value} {t : TypeId} (h : Blk W b cur t) : b < W.heap.size := (Array.getElem?_eq_some_iff.1 h).1
theorem Blk.kept {W W' : World} {row : Option Nat} {b : Nat} {cur : Array Value} {t : TypeId} (h : Blk W b cur t) (hg : W.grownBy W' row) (hne : some b ≠ row) : Blk W' b cur t := (hg.block b h.lt hne).trans h
theorem Blk.new (W : World) (cur : Array Value) (t : TypeId) : Blk (W.alloc (.cells cur t)) W.heap.size cur t := World.alloc_heap_new W _
theorem Blk.set {W : World} {b : Nat} {cur : Array Value} {t : TypeId} (h : Blk W b cur t) (j : Nat) (v : Value) : Blk (W.setCell ⟨b, j, none⟩ v) b (cur.setIfInBounds j v) t := heap_setCell_same W b j cur t v h
/-- A table of rows, each in a block of its own, behind the table's. -/
structure GrpT (B L : Nat) (f : Nat → List Int) (cur : Array Value) (W : World) : Prop where
  tb : Blk W B cur 22
  size : cur.size = L
  row : ∀ s, s < L → ∃ v, cur[s]? = some v ∧ W.ownsRow (B + 1) 3 1 v (f s).length ((f s).map (Value.int .i64))
  apart : ∀ (s s' : Nat) (v v' : Value) (g : Nat), s ≠ s' → cur[s]? = some v → cur[s']? = some v' → v.ownBlock = some g → v'.ownBlock ≠ some g
section
attribute [local go_sem] Oper.semAt_some
/-- One element more in one row. -/
theorem GrpT.step' {B L : Nat} {f f' : Nat → List Int} {cur : Array Value} {W w2 : World} (h : GrpT B L f cur W) {s : Nat} (hs : s < L) {x : Int} {v v' : Value} (hv : cur[s]? = some v)
    (hown : w2.ownsRow (B + 1) 3 1 v' ((f s).length + 1) ((f s).map (Value.int .i64) ++ [.int .i64 x])) (hg : (W.alloc (.cells #[.int .i64 x] 3)).grownBy w2 v.ownBlock) (hat : v'.ownBlock = v.ownBlock ∨ v'.ownBlock = some (W.alloc (.cells #[.int .i64 x] 3)).heap.size)
    (hf : f' s = f s ++ [x]) (hf2 : ∀ s', s' ≠ s → f' s' = f s') :
    Blk w2 B cur 22 ∧ GrpT B L f' (cur.setIfInBounds s v') (w2.setCell ⟨B, s, none⟩ v') := by
  have hgA := World.grownBy_alloc W (.cells #[.int .i64 x] 3) none
  have hb0 : Blk (W.alloc (.cells #[.int .i64 x] 3)) B cur 22 := h.tb.kept hgA (by simp)
  have hvo : ∀ k, v.ownBlock = some k → B + 1 ≤ k ∧ k < W.heap.size := fun k hk => by
    obtain ⟨u, hu, hr⟩ := h.row s hs
    rw [hv] at hu
    cases hu
    exact hr.lt k hk
  have hb1 : Blk w2 B cur 22 := hb0.kept hg (fun e => by have := hvo B e.symm; omega)
  have hv'o := hown.lt
  have hgs := grownBy_setCell' w2 B v'
  have hsz : s < cur.size := by rw [h.size]; exact hs
  have hset : ∀ s', s' ≠ s → (cur.setIfInBounds s v')[s']? = cur[s']? := fun s' hne => Array.getElem?_setIfInBounds_ne (fun e => hne e.symm)
  have hset2 : (cur.setIfInBounds s v')[s]? = some v' := by simp [Array.getElem?_setIfInBounds_self_of_lt, hsz]
  have kb : ∀ {u : Value} {n : Nat} {xs : List Value}, w2.ownsRow (B + 1) 3 1 u n xs → (w2.setCell ⟨B, s, none⟩ v').ownsRow (B + 1) 3 1 u n xs := fun {u n xs} hr =>
    hr.kept (row := some B) ⟨rfl, rfl, rfl, (KeepsWalks.setCell w2 _ v').size, fun k _ hk => Below.heap_setCell _ _ _ k (fun e => hk (by rw [e]))⟩ (.inr fun e => by have := (hr.lt B e).1; omega)
  refine ⟨hb1, ⟨hb1.set s v', by simp [h.size], fun s' hs' => ?_, fun s1 s2 v1 v2 g hne h1 h2 h3 h4 => ?_⟩⟩
  · by_cases e : s' = s
    · subst e
      refine ⟨v', hset2, kb ?_⟩
      rw [hf]
      simpa using hown
    · obtain ⟨u, hu, hr⟩ := h.row s' hs'
      refine ⟨u, by rw [hset s' e]; exact hu, kb ?_⟩
      rw [hf2 s' e]
      refine (hr.alloc _).kept hg ?_
      cases ho : u.ownBlock with
      | none => exact .inl rfl
      | some g => exact .inr fun e2 => h.apart s' s u v g e hu hv ho e2.symm
  · have other : ∀ s' u g, s' ≠ s → cur[s']? = some u → v'.ownBlock = some g → u.ownBlock ≠ some g := fun s' u g hne hu hg' hu' => by
      rcases hat with e | e
      · exact h.apart s' s u v g hne hu hv hu' (by rw [← e]; exact hg')
      · rw [e] at hg'
        cases hg'
        have hlt : s' < L := by
          have := (Array.getElem?_eq_some_iff.1 hu).1
          rw [h.size] at this
          exact this
        obtain ⟨u2, hu2, hr⟩ := h.row s' hlt
        rw [hu] at hu2
        cases hu2
        have := (hr.lt _ hu').2
        simp at this
        omega
    by_cases e1 : s1 = s
    · subst e1
      rw [hset2] at h1
      cases h1
      rw [hset s2 (fun e => hne e.symm)] at h2
      exact other s2 v2 g (fun e => hne e.symm) h2 h3 h4
    · rw [hset s1 e1] at h1
      by_cases e2 : s2 = s
      · subst e2
        rw [hset2] at h2
        cases h2
        exact other s1 v1 g e1 h1 h4 h3
      · rw [hset s2 e2] at h2
        exact h.apart s1 s2 v1 v2 g hne h1 h2 h3 h4
set_option maxHeartbeats 8000000 in
theorem groups_in (n : Nat) (hn : 3 ≤ n) (v0 v1 : Value) (ad : Option Addr) (cap : Nat) (l : List Int) (L : Nat) (w : World) (hL : L ≤ 1000000) (hl : l.length ≤ 1000000) (hin : ∀ s ∈ l, 0 ≤ s ∧ s < L)
    (hcs : ∀ j (h : j < l.length), ∃ b off, ad = some ⟨b, off, none⟩ ∧ b < w.heap.size ∧ w.cell? ⟨b, off + j, none⟩ = some (.int .i64 l[j]))
    (hck : CallsIn Fence.wide (n - 1) Tryd.prog 66 #[v0, v1, .slice ad l.length cap] w fun e w' => ∃ la lcap, e = .returned (.tuple #[.slice la L lcap, .int .i64 0]) ∧ Below w.heap.size w w') :
    CallsIn Fence.wide n Tryd.prog 20 #[v0, v1, .slice ad l.length cap] w fun e w' => Below w.heap.size w w' ∧ ∃ B cur, w.heap.size ≤ B ∧ e = .returned (.tuple #[.slice (some ⟨B, 0, none⟩) L L, .int .i64 0]) ∧ GrpT B L (fun s => plc (s : Int) 0 l) cur w' := by
  have h1 : 1 ≤ n := by omega
  have hmk : ∀ W : World, (Instr.makeSlice 23 (.int .i64 (L : Int)) (.int .i64 (L : Int))).run Tryd.prog W = .ok (.slice (some ⟨W.heap.size, 0, none⟩) L L) (W.alloc (.cells (List.replicate L (Value.slice none 0 0)).toArray 22)) := fun W => by
    obtain ⟨i0, hi, hz0, hz1, hz2⟩ := info_parts (show (Tryd.prog.info? 22).map (fun i => (i.zero, i.size, i.bytes)) = some (some (.slice none 0 0), 1, 24) by kernel_rfl)
    have h := run_make (P := Tryd.prog) W 23 22 i0 (.slice none 0 0) (by kernel_rfl) hi hz0 .i64 .i64 (L : Int) (L : Int) (by omega) (Int.le_refl _) (by rw [hz2]; omega) (by omega)
    have e1 : (L : Int).toNat = L := by omega
    simp only [e1, hz1, Nat.mul_one] at h
    rw [h]
    have : madeCells (Value.slice none 0 0).cells L = (List.replicate L (Value.slice none 0 0)).toArray := by
      apply Array.toList_inj.1
      rw [show (Value.slice none 0 0).cells = #[.slice none 0 0] from rfl, toList_madeCells_one]
    rw [this]
  obtain ⟨i0, hi0, hz0, hz1, hz2⟩ := info_parts (show (Tryd.prog.info? 3).map (fun i => (i.zero, i.size, i.bytes)) = some (some (.int .i64 0), 1, 8) by kernel_rfl)
  have hu22 : Tryd.prog.underlying 22 = some (.slice 3) := by kernel_rfl
  have h66 : Fence.wide.fn 66 := trivial
  refine callsIn_of_wp Tryd.func20 rfl trivial ?_ rfl
  simp only [Tryd.ntmps20, List.size_toArray, List.length_cons, List.length_nil, Nat.reduceAdd, Nat.reduceSub, Array.replicate_succ, Array.replicate_zero, List.push_toArray, List.append_toArray, List.nil_append, List.cons_append]
  gi_wp2_with (gi_at_call 66; refine hck.mono ?_; rintro e w1 ⟨la, lcap, rfl, hB1⟩)
  have hs1 := hB1.size
  clear hck hmk
  have b0 : Blk (w1.alloc (.cells (List.replicate L (Value.slice none 0 0)).toArray 22)) w1.heap.size (List.replicate L (Value.slice none 0 0)).toArray 22 := Blk.new _ _ _
  have hr0 : GrpT w1.heap.size L (fun _ => []) (List.replicate L (Value.slice none 0 0)).toArray (w1.alloc (.cells (List.replicate L (Value.slice none 0 0)).toArray 22)) := by
    refine ⟨b0, by simp, fun s hs => ⟨.slice none 0 0, by simp [hs], World.ownsRow_nil _ _ _ _⟩, fun s s' v v' g _ hv _ hg => ?_⟩
    simp only [List.getElem?_toArray, List.getElem?_replicate] at hv
    split at hv
    · cases hv; cases hg
    · cases hv
  have hB2 : Below w.heap.size w (w1.alloc (.cells (List.replicate L (Value.slice none 0 0)).toArray 22)) := hB1.alloc hs1 _
  gi_loopw [28] (fun iv wr => ∃ (k : Nat) (cur : Array Value), iv = .int .i64 k ∧ k ≤ l.length ∧ GrpT w1.heap.size L (fun s => plc (s : Int) 0 (l.take k)) cur wr ∧ Below w.heap.size w wr)
    (fun iv _ => l.length - (intOf iv).toNat)
  case atStart => exact ⟨0, _, rfl, Nat.zero_le _, by simpa [plc] using hr0, hB2⟩
  case round =>
    clear hr0 hB2 b0
    obtain ⟨k, cur, rfl, hk, hR, hB⟩ := hrel
    obtain ⟨wi, rfl⟩ : ∃ wi, wi = wr := ⟨wr, rfl⟩
    by_cases hkl : k < l.length
    · obtain ⟨b, off, rfl, hb, hc⟩ := hcs k hkl
      have hcell : wi.cell? ⟨b, off + k, none⟩ = some (.int .i64 l[k]) := (hB.cell (p := ⟨b, off + k, none⟩) hb).trans hc
      obtain ⟨hx0, hx1⟩ := hin l[k] (List.getElem_mem _)
      obtain ⟨s, hs⟩ := Int.eq_ofNat_of_zero_le hx0
      have hsL : s < L := by omega
      rw [hs] at hcell
      obtain ⟨v, hv, hrow⟩ := hR.row s hsL
      have hvc := hR.tb.cell s hv
      have hBs := hB.size
      have hBl := hR.tb.lt
      have hlen : (plc (s : Int) 0 (l.take k)).length ≤ k := Nat.le_trans (plc_len _ _ _) (by rw [List.length_take]; omega)
      have hf1 : plc (s : Int) 0 (l.take (k + 1)) = plc (s : Int) 0 (l.take k) ++ [(k : Int)] := by
        rw [List.take_succ_eq_append_getElem hkl, plc_app, hs]
        simp [plc, Nat.min_eq_left hk]
      have hf2 : ∀ s' : Nat, s' ≠ s → plc (s' : Int) 0 (l.take (k + 1)) = plc (s' : Int) 0 (l.take k) := fun s' hne => by
        rw [List.take_succ_eq_append_getElem hkl, plc_app, hs]
        have : ¬ ((s : Int) = (s' : Int)) := by omega
        simp [plc, this]
      gi_wp2_with (gi_at_builtin; go_loud (refine wpListIn_append_own_at _ rfl _ _ 22 rfl (w1.heap.size + 1) 3 i0 (.int .i64 0) 1 8 hu22 hi0 hz0 hz1 hz2 rfl (by decide) _ _ _ rfl (hrow.alloc _) ⟨wi.heap.size, 0, none⟩ 1 1 [.int .i64 (k : Int)] rfl rfl ?c1 ?c2 ?c3 ?c4 ?c5 ?_))
      case c1 =>
        intro j u hj
        match j, hj with
        | 0, hj => simp at hj; subst hj; simp [Addr.add]
      case c2 => intro u hu; simp at hu; subst hu; rfl
      case c3 => unfold maxLen; omega
      case c4 => omega
      case c5 => simp; omega
      · intro v' w2 hown' hgrow _ hat
        obtain ⟨hb1, hR2⟩ := hR.step' (f' := fun s => plc (s : Int) 0 (l.take (k + 1))) hsL hv hown' hgrow (by simpa using hat) hf1 hf2
        have hvc2 := hb1.cell s hv
        have hfr := hb1.frozen s
        obtain ⟨g', cap', rfl⟩ := ownsRow_succ hown'
        have hB3 : Below w.heap.size w (w2.setCell ⟨w1.heap.size, s, none⟩ (.slice (some ⟨g', 0, none⟩) ((plc (s : Int) 0 (l.take k)).length + 1) cap')) := by
          have hvo : ∀ q, v.ownBlock = some q → w.heap.size ≤ q := fun q hq => by have := (hrow.lt q hq).1; omega
          have hA : Below w.heap.size w (wi.alloc (.cells #[.int .i64 (k : Int)] 3)) := hB.alloc (by omega) _
          have hA2 : Below w.heap.size w w2 := ⟨hgrow.os.trans hA.os, hgrow.tape.trans hA.tape, hgrow.output.trans hA.output, Nat.le_trans hA.size hgrow.size, fun i hi => (hgrow.block i (by have := hA.size; omega) (fun e => by have := hvo i e.symm; omega)).trans (hA.block i hi)⟩
          exact ⟨hA2.os, hA2.tape, hA2.output, Nat.le_trans hA2.size (KeepsWalks.setCell w2 _ _).size, fun i hi => (Below.heap_setCell _ _ _ i (by simp only []; omega)).trans (hA2.block i hi)⟩
        gi_wp2
        exact ⟨⟨k + 1, _, by simp, by omega, hR2, hB3⟩, by simp [intOf]; omega⟩
    · obtain rfl : k = l.length := by omega
      gi_wp2
      rw [List.take_length] at hR
      exact ⟨rfl, _, results_tmp2 rfl _ _ _, hB, w1.heap.size, cur, hs1, rfl, hR⟩
end
/-- A slice of numbers that was handed in. -/
theorem CR_cells {w : World} {A : Nat → Prop} {zs : List Int} {t : Bool} {v : Value} (h : CR w A (.sl (.int .i64) zs t) v) (hA : ∀ b, A b → b < w.heap.size) :
    ∃ ad cap, v = .slice ad zs.length cap ∧ ∀ j (h : j < zs.length), ∃ b off, ad = some ⟨b, off, none⟩ ∧ b < w.heap.size ∧ w.cell? ⟨b, off + j, none⟩ = some (.int .i64 zs[j]) := by
  obtain ⟨a, cap, rfl, hcap, _, hr⟩ := h
  refine ⟨a, cap, rfl, fun j hj => ?_⟩
  rcases hr with hr | ⟨b, o, cur, et, fz, rfl, hb, hc, hl, hx⟩
  · rw [hr] at hj; exact absurd hj (by simp)
  · refine ⟨b, o, rfl, hA b hb, ?_⟩
    have h1 := hx j zs[j] (by simp)
    have h1 : (cur.toList.drop (o + j * 1)).take 1 = [.int .i64 zs[j]] := h1
    have h4 : cur.toList[o + j]? = some (.int .i64 zs[j]) := by
      have := congrArg (fun l => l[0]?) h1
      simpa [List.getElem?_take, List.getElem?_drop] using this
    rw [Array.getElem?_toList] at h4
    show (match w.heap[b]? with | some (.cells c _ _) => c[o + j]? | _ => none) = _
    rw [hc]
    exact h4
section
attribute [local go_sem] Oper.semAt_some
set_option maxHeartbeats 1000000 in
theorem groups_err (n : Nat) (hn : 3 ≤ n) (v0 v1 v2 : Value) (L : Nat) (e : Int) (he : e ≠ 0) (w : World)
    (hck : CallsIn Fence.wide (n - 1) Tryd.prog 66 #[v0, v1, v2] w fun x w' => ∃ la lcap, x = .returned (.tuple #[.slice la L lcap, .int .i64 e]) ∧ Below w.heap.size w w') :
    CallsIn Fence.wide n Tryd.prog 20 #[v0, v1, v2] w fun x W' => x = .returned (.tuple #[.slice none 0 0, .int .i64 e]) ∧ Below w.heap.size w W' := by
  have h1 : 1 ≤ n := by omega
  have h66 : Fence.wide.fn 66 := trivial
  refine callsIn_of_wp Tryd.func20 rfl trivial ?_ rfl
  simp only [Tryd.ntmps20, List.size_toArray, List.length_cons, List.length_nil, Nat.reduceAdd, Nat.reduceSub, Array.replicate_succ, Array.replicate_zero, List.push_toArray, List.append_toArray, List.nil_append, List.cons_append]
  gi_wp2_with (gi_at_call 66; refine hck.mono ?_; rintro e w1 ⟨la, lcap, rfl, hB1⟩)
  exact ⟨rfl, _, results_tmp2 rfl _ _ _, rfl, hB1⟩
end
/-- What sheets hands back. -/
theorem ret66 {n : Nat × Nat} {sz : Int} {ps l : List Int} {r : List Int × Int} (hs : S66 n sz ps l = some r)
    {w : World} {A0 : Nat → Prop} {v0 v1 v2 : Value} (hA : ∀ b, A0 b → b < w.heap.size) (h0 : v0 = .int .i64 sz) (h1 : CR w A0 (.sl (.int .i64) ps false) v1) (h2 : CR w A0 (.sl (.int .i64) l false) v2) (hgl : GlobOK w A0) :
    Calls Tryd.prog 66 #[v0, v1, v2] w fun x w2 => ∃ la lcap, x = .returned (.tuple #[.slice la r.1.length lcap, .int .i64 r.2]) ∧ Below w.heap.size w w2 := by
  obtain ⟨ret, g1, g2⟩ := FC66 n [.c (.int .i64 sz), .c (.sl (.int .i64) ps false), .c (.sl (.int .i64) l false)] _ some (rets rk66 r) (by
    show (S66 n sz ps l).bind (fun r => some (rets rk66 r)) = some (rets rk66 r)
    rw [hs]
    rfl)
  cases g1
  refine (g2 w A0 [v0, v1, v2] hA ⟨h0, h1, h2, trivial⟩ hgl).mono ?_
  intro x w2 hx
  cases x with
  | returned u =>
    obtain ⟨hG, is, us, rfl, hR⟩ := hx
    match is, us, hR with
    | [i, i'], [u, u'], ⟨hu, _, hu', _, _⟩ =>
      have hu' : u' = .int .i64 r.2 := hu'
      subst hu'
      obtain ⟨_, hsl, _⟩ := hu
      have : ∃ la lcap, u = .slice la r.1.length lcap := by
        cases i with
        | emp => obtain ⟨a, rfl, _, hl, _⟩ := hsl; exact ⟨a, 0, by rw [hl]⟩
        | «at» b c => exact ⟨_, _, hsl.1⟩
      obtain ⟨la, lcap, rfl⟩ := this
      exact ⟨la, lcap, rfl, ⟨hG.os, hG.tape, hG.output, hG.size, hG.blk⟩⟩
    | [], us, hR => exact absurd hR.lengths.1 (by simp [rets, rk66])
    | [_], us, hR => exact absurd hR.lengths.1 (by simp [rets, rk66])
    | _ :: _ :: _ :: _, us, hR => exact absurd hR.lengths.1 (by simp [rets, rk66])
    | [_, _], [], hR => exact absurd hR.lengths.2 (by simp [rets, rk66])
    | [_, _], [_], hR => exact absurd hR.lengths.2 (by simp [rets, rk66])
    | [_, _], _ :: _ :: _ :: _, hR => exact absurd hR.lengths.2 (by simp [rets, rk66])
  | _ => exact hx.elim
theorem HC20 (n : Nat × Nat) (xs : pksDen [.c (.int .i64), .c (.sl (.int .i64)), .c (.sl (.int .i64))]) (r : rksDen [.own (.sl (.int .i64)) 0, .c (.int .i64) 0]) (h : HF20 (S66 n) xs.1 xs.2.1 xs.2.2.1 = some r) (vs : List V) (hv : pksArg [.c (.int .i64), .c (.sl (.int .i64)), .c (.sl (.int .i64))] vs = some xs) :
    FC Tryd.prog 20 vs (rets [.own (.sl (.int .i64)) 0, .c (.int .i64) 0] r) := by
  obtain ⟨sz, ps, l, ⟨⟩⟩ := xs
  unfold HF20 at h
  obtain ⟨e, he, h⟩ := Option.bind_eq_some_iff.1 h
  intro w A0 args hA hargs hgl
  have hv2 := pksArg_VR _ _ _ _ hv hargs
  match args, hv2 with
  | [v0, v1, v2], ⟨g0, g1, g2, _⟩ =>
    have hck := ret66 (show S66 n sz ps l = some e from he) hA g0 g1 g2 hgl
    obtain ⟨ad, cap, rfl, hcs⟩ := CR_cells (t := false) g2 hA
    obtain ⟨el, ee⟩ := e
    cases hz : ee != 0 with
    | true =>
      simp only [hz, cond_true] at h
      cases h
      refine ((callsIn_wide (n := 3)).1 (groups_err 3 (by omega) v0 v1 _ _ ee (by simpa using hz) w ((callsIn_wide (n := 3 - 1)).2 hck))).mono ?_
      rintro x W' ⟨rfl, hB⟩
      refine ⟨Grows.of_below hB, [.emp, .emp], [_, _], rfl, ⟨rfl, ⟨none, rfl, fun _ => rfl, rfl, fun p l h => (by cases h)⟩, fun b c h => (by cases h)⟩, fun b c h => (by cases h), rfl, fun b c h => (by cases h), trivial⟩
    | false =>
      have hz0 : ee = 0 := by simpa using hz
      subst hz0
      simp only [hz, cond_false] at h
      obtain ⟨hd, h⟩ := cond_some h rfl
      simp only [Bool.and_eq_true, decide_eq_true_eq, List.all_eq_true] at hd
      cases h
      refine ((callsIn_wide (n := 3)).1 (groups_in 3 (by omega) v0 v1 ad cap l el.length w hd.1.1 hd.1.2 (fun s hs => hd.2 s hs) hcs ((callsIn_wide (n := 3 - 1)).2 hck))).mono ?_
      rintro x W' ⟨hB, B, cur, hwB, rfl, hG⟩
      have hBl := hG.tb.lt
      have hgl : (grp l el.length).length = el.length := by simp [grp]
      refine ⟨Grows.of_below hB, [.at B el.length, .emp], [_, _], rfl, ⟨⟨fun h => (by cases h), Nat.le_of_eq hgl, cur, 22, hG.tb, by rw [hG.size]; show el.length * 1 ≤ _; omega, fun i y hi => ?_⟩, ⟨by rw [hgl], Nat.le_of_eq hgl, fun h => (by cases h)⟩, fun b' c' h => ?_⟩, ?_, rfl, fun b c h => (by cases h), trivial⟩
      · have hi2 := (List.getElem?_eq_some_iff.1 hi).1
        rw [hgl] at hi2
        have hy : y = plc (i : Int) 0 l := by
          unfold grp at hi
          rw [List.getElem?_map, List.getElem?_range hi2] at hi
          simpa using hi.symm
        obtain ⟨v, hv, hrow⟩ := hG.row i hi2
        have hvt : (cur.toList.drop (i * 1)).take 1 = [v] := by
          rw [← Array.getElem?_toList] at hv
          obtain ⟨h8, h9⟩ := List.getElem?_eq_some_iff.1 hv
          rw [Nat.mul_one, List.drop_eq_getElem_cons h8, h9]
          rfl
        show VRs _ _ (.sl (.int .i64)) y ((cur.toList.drop (i * 1)).take 1)
        rw [hvt]
        obtain ⟨hlen, hrow⟩ := hrow
        rcases hrow with ⟨rfl, h0⟩ | ⟨g, cap2, cur2, rfl, hg, hgb, hcap2, _, hsz2, htk⟩
        · have : y = [] := by rw [hy]; exact List.length_eq_zero_iff.1 h0
          subst this
          exact ⟨none, 0, rfl, Nat.le_refl _, .inl rfl⟩
        · have hgl2 := (Array.getElem?_eq_some_iff.1 hgb).1
          refine ⟨some ⟨g, 0, none⟩, cap2, by rw [hy], by rw [hy]; exact hcap2, .inr ⟨g, 0, cur2, 3, (0, 0), rfl, ⟨hgl2, fun h => absurd h (by omega), fun q hq c' hc' => ?_⟩, hgb, by rw [hy]; show 0 + _ * 1 ≤ _; omega, fun j z hj => ?_⟩⟩
          · simp only [List.mem_cons, List.not_mem_nil, or_false] at hq
            rcases hq with rfl | rfl
            · cases hc'; omega
            · cases hc'
          · show (cur2.toList.drop (0 + j * 1)).take 1 = [.int .i64 z]
            rw [hy] at hj
            have hj2 := (List.getElem?_eq_some_iff.1 hj).1
            have h7 : ((plc (i : Int) 0 l).map (Value.int .i64))[j]? = some (.int .i64 z) := by rw [List.getElem?_map, hj]; rfl
            rw [← htk, List.getElem?_take, if_pos (by omega)] at h7
            obtain ⟨h8, h9⟩ := List.getElem?_eq_some_iff.1 h7
            rw [Nat.zero_add, Nat.mul_one, List.drop_eq_getElem_cons h8, h9]
            rfl
      · cases h
        exact ⟨hwB, hBl⟩
      · intro b' c' h j hj
        simp at hj
        subst hj
        intro c'' e
        cases e
end Go.Proofs.YtgmonagekfjnmaaDoor
set_option linter.unusedVariables false
set_option linter.unusedSimpArgs false
set_option maxRecDepth 100000
namespace Go.Proofs.YtgmonagekfjnmaaDoor
open Go.Vi
abbrev R20 := List (List Int) × Int
def pk20 : List PK := [.c (.int .i64), .c (.sl (.int .i64)), .c (.sl (.int .i64))]
def rk20 : List RK := [.own (.sl (.int .i64)) 0, .c (.int .i64) 0]
noncomputable def S20 (n : Nat × Nat) (size0 : Int) (pieces1 : List Int) (plan2 : List Int) : Option R20 := HF20 (S66 n) size0 pieces1 plan2
noncomputable def P20 (n : Nat × Nat) := phiOf pk20 rk20 (fun xs => S20 n xs.1 xs.2.1 xs.2.2.1)
theorem call20 : CallOK Tryd.prog 20 := callOK_of Tryd.func20 (by kernel_rfl) (by kernel_rfl)
theorem FC20 (n : Nat × Nat) : FCs Tryd.prog 20 (P20 n) := phiOf_FCs fun xs r h vs hv => HC20 n xs r h vs hv
abbrev R28 := Int
noncomputable def c28 : Code := bodyOf Tryd.f28
noncomputable def an28 : Ann := .l
def pk28 : List PK := [.c (.int .i64), .c (.sl (.int .i64)), .c (.sl (.int .i64))]
def rk28 : List RK := [.c (.int .i64) 6]
noncomputable def rt28 (st : St) : Option R28 := rtG rk28 st
noncomputable def E28 (n : Nat × Nat) : Env := { T := tab, phi := (consPhi 66 (fun _ => true) (P66 n) noPhi), eff := fun _ => false, fuel := n.1, hold := n.2 }
noncomputable def S28 (n : Nat × Nat) (size0 : Int) (pieces1 : List Int) (plan2 : List Int) : Option R28 := run (E28 n) c28 an28 rt28 (fun _ _ => none) rt28 { tm := [.c (.int .i64 size0), .c (.sl (.int .i64) pieces1 false), .c (.sl (.int .i64) plan2 false), uu, uu, uu, uu, uu, uu, uu, uu, uu, uu, uu, uu, uu, uu], hp := emp }
theorem S28_eq (n : Nat × Nat) (size0 : Int) (pieces1 : List Int) (plan2 : List Int) : S28 n size0 pieces1 plan2 =
 (S66 n size0 pieces1 plan2).bind fun r1' =>
 some r1'.2 := by kernel_rfl
theorem S28_run (n : Nat × Nat) (xs : pksDen pk28) : S28 n xs.1 xs.2.1 xs.2.2.1 = runG (E28 n) noScope c28 an28 (rtG rk28) (fun _ _ => none) (rtG rk28) (st0 pk28 xs Tryd.f28.ntmps) := by kernel_rfl
noncomputable def P28 (n : Nat × Nat) := phiOf pk28 rk28 (fun xs => S28 n xs.1 xs.2.1 xs.2.2.1)
theorem call28 : CallOK Tryd.prog 28 := callOK_of Tryd.func28 (by kernel_rfl) (by kernel_rfl)
theorem env28 (n : Nat × Nat) : EnvOK Tryd.prog (E28 n) := envOK0 (consPhi_ok (FC66 n) call66 noPhi_ok) rfl rfl
theorem par28 (n : Nat × Nat) : EnvPar (E28 n) := envPar0 (consPhi_par phiOf_Par1 noPhi_par) rfl
theorem FC28 (n : Nat × Nat) : FCs Tryd.prog 28 (P28 n) := phiOf_FCs fun xs r h vs hv => FC.of_runG tabOK eqsOK (env28 n) (par28 n) mixed (fun _ p _ => noScope_ok p.1 p.2) Tryd.func28 (c := c28) (an := an28) (pks := pk28) (rks := rk28) (by kernel_rfl) (by kernel_rfl) hv ((S28_run n xs).symm.trans h)
/- slices.Contains[[]int,int] -/
abbrev R70 := Bool
noncomputable def c70 : Code := bodyOf Tryd.f70
noncomputable def an70 : Ann := .l
def pk70 : List PK := [.c (.sl (.int .i64)), .c (.int .i64)]
def rk70 : List RK := [.c .bool 4]
noncomputable def rt70 (st : St) : Option R70 := rtG rk70 st
noncomputable def E70 (n : Nat × Nat) : Env := { T := tab, phi := (consPhi 95 (fun _ => true) (P95 n) noPhi), eff := fun _ => false, fuel := n.1, hold := n.2 }
noncomputable def S70 (n : Nat × Nat) (s0 : List Int) (v1 : Int) : Option R70 := run (E70 n) c70 an70 rt70 (fun _ _ => none) rt70 { tm := [.c (.sl (.int .i64) s0 false), .c (.int .i64 v1), uu, uu, uu, uu, uu, uu, uu], hp := emp }
theorem S70_eq (n : Nat × Nat) (s0 : List Int) (v1 : Int) : S70 n s0 v1 =
 (S95 n s0 v1).bind fun r1' =>
 some (decide (r1' ≥ 0)) := by kernel_rfl
theorem S70_run (n : Nat × Nat) (xs : pksDen pk70) : S70 n xs.1 xs.2.1 = runG (E70 n) noScope c70 an70 (rtG rk70) (fun _ _ => none) (rtG rk70) (st0 pk70 xs Tryd.f70.ntmps) := by kernel_rfl
noncomputable def P70 (n : Nat × Nat) := phiOf pk70 rk70 (fun xs => S70 n xs.1 xs.2.1)
theorem call70 : CallOK Tryd.prog 70 := callOK_of Tryd.func70 (by kernel_rfl) (by kernel_rfl)
theorem env70 (n : Nat × Nat) : EnvOK Tryd.prog (E70 n) := envOK0 (consPhi_ok (FC95 n) call95 noPhi_ok) rfl rfl
theorem par70 (n : Nat × Nat) : EnvPar (E70 n) := envPar0 (consPhi_par phiOf_Par1 noPhi_par) rfl
theorem FC70 (n : Nat × Nat) : FCs Tryd.prog 70 (P70 n) := phiOf_FCs fun xs r h vs hv => FC.of_runG tabOK eqsOK (env70 n) (par70 n) mixed (fun _ p _ => noScope_ok p.1 p.2) Tryd.func70 (c := c70) (an := an70) (pks := pk70) (rks := rk70) (by kernel_rfl) (by kernel_rfl) hv ((S70_run n xs).symm.trans h)
abbrev R22 := List Int × Int
noncomputable def c22 : Code := bodyOf Tryd.f22
noncomputable def an22 : Ann := (.s .l (.s (.s .l (.s .l (.j [0, 1, 2, 45, 46, 47, 48] .l .l))) (.s .l (.s (.s .l (.j [0, 1, 9] (.j [0, 1, 9, 25, 26, 27, 45, 46, 47, 48] (.s .l (.s (.j [0, 1, 9, 25, 26, 27, 45, 46, 47, 48] .l .l) (.s (.j [0, 1, 9, 25, 26, 27, 45, 46, 47, 48] (.s .l (.s (.s .l (.j [0, 1, 9, 10, 11, 25, 26, 27, 45, 46, 47, 48] .l .l)) (.s .l (.j [0, 1, 9, 25, 26, 27, 45, 46, 47, 48] (.j [0, 1, 9, 10, 25, 26, 27, 35, 36, 37, 45, 46, 47, 48] (.s .l (.s (.j [0, 1, 9, 10, 25, 26, 27, 35, 36, 37, 45, 46, 47, 48] .l .l) (.s (.j [0, 1, 9, 10, 25, 26, 27, 35, 36, 37, 45, 46, 47, 48] (.s .l (.s (.j [0, 1, 9, 10, 13, 25, 26, 27, 35, 36, 37, 45, 46, 47, 48] (.s .l (.j [0, 1, 9, 10, 13, 25, 26, 27, 35, 36, 37, 45, 46, 47, 48] .l (.s .l (.j [0, 1, 9, 10, 13, 25, 26, 27, 35, 36, 37, 45, 46, 47, 48] .l .l)))) .l) .l)) .l) .l))) .l) .l)))) .l) .l))) .l) .l)) (.s (.s .l (.j [0, 1, 9] .l .l)) (.s .l (.s (.s .l (.s .l (.j [9] .l .l))) .l)))))))
def pk22 : List PK := [.c (.int .i64), .c (.sl (.int .i64)), .c (.sl (.sl (.int .i64)))]
def rk22 : List RK := [.own (.int .i64) 6, .c (.int .i64) 7]
noncomputable def rt22 (st : St) : Option R22 := rtG rk22 st
noncomputable def E22 (n : Nat × Nat) : Env := { T := tab, phi := (consPhi 26 (fun _ => true) (P26 n) (consPhi 28 (fun _ => true) (P28 n) (consPhi 69 (fun _ => true) (P69 n) (consPhi 70 (fun _ => true) (P70 n) (consPhi 71 (fun _ => true) (P71 n) noPhi))))), eff := fun _ => false, fuel := n.1, hold := n.2 }
noncomputable def kq22_3 (n : Nat × Nat) : St → Option R22 := run (E22 n) (cB (cB (cB (cB c22)))) (Ann.snd (Ann.snd (Ann.snd (Ann.snd an22)))) rt22 (fun _ _ => none) rt22
noncomputable def xb22_5 (n : Nat × Nat) : Nat → St → Option R22 := fun j s => bif Nat.beq j 0 then normC [0, 1, 9] s (kq22_3 n) else (fun _ _ => none) j s
noncomputable def F22_6 (n : Nat × Nat) : (St → Option R22) → St → Option R22 := fun K s => run (E22 n) (cA (cA (cB (cA (cB (cB (cB c22))))))) (Ann.fst (Ann.fst (Ann.snd (Ann.fst (Ann.snd (Ann.snd (Ann.snd an22))))))) (fun s => normC [0, 1, 9, 25, 26, 27, 45, 46, 47, 48] s K) (xb22_5 n) rt22 s
noncomputable def kq22_9 (n : Nat × Nat) (m1 : Nat) : St → Option R22 := run (E22 n) (cB (cB (cB (cA (cA (cB (cA (cB (cB (cB c22)))))))))) (Ann.snd (Ann.snd (Ann.snd (Ann.fst (Ann.fst (Ann.snd (Ann.fst (Ann.snd (Ann.snd (Ann.snd an22)))))))))) (fun s => normC [0, 1, 9, 25, 26, 27, 45, 46, 47, 48] s (loopN (F22_6 n) m1)) (xb22_5 n) rt22
noncomputable def kc22_10 (n : Nat × Nat) (m1 : Nat) : St → Option R22 := fun s => normC [0, 1, 9, 25, 26, 27, 45, 46, 47, 48] s (kq22_9 n m1)
noncomputable def xb22_11 (n : Nat × Nat) (m1 : Nat) : Nat → St → Option R22 := fun j s => bif Nat.beq j 1 then normC [0, 1, 9, 25, 26, 27, 45, 46, 47, 48] s (kq22_9 n m1) else (xb22_5 n) j s
noncomputable def xb22_15 (n : Nat × Nat) (m1 : Nat) : Nat → St → Option R22 := fun j s => bif Nat.beq j 2 then normC [0, 1, 9, 25, 26, 27, 45, 46, 47, 48] s (kc22_10 n m1) else (xb22_11 n m1) j s
noncomputable def F22_16 (n : Nat × Nat) (m1 : Nat) : (St → Option R22) → St → Option R22 := fun K s => run (E22 n) (cA (cA (cB (cB (cB (cA (cA (cB (cB (cA (cA (cB (cA (cB (cB (cB c22)))))))))))))))) (Ann.fst (Ann.fst (Ann.snd (Ann.snd (Ann.snd (Ann.fst (Ann.fst (Ann.snd (Ann.snd (Ann.fst (Ann.fst (Ann.snd (Ann.fst (Ann.snd (Ann.snd (Ann.snd an22)))))))))))))))) (fun s => normC [0, 1, 9, 10, 25, 26, 27, 35, 36, 37, 45, 46, 47, 48] s K) (xb22_15 n m1) rt22 s
noncomputable def L22_1 (n : Nat × Nat) (m : Nat) (size0 : Int) (pieces1 : List Int) (v25 : List (List Int)) (v26 : Int) (v27 : Int) (out9 : List Int) : Option R22 := loopN (F22_6 n) m { tm := [.c (.int .i64 size0), .c (.sl (.int .i64) pieces1 false), uu, uu, uu, uu, uu, uu, uu, .own 9 none false, uu, uu, uu, uu, uu, uu, uu, uu, uu, uu, uu, uu, uu, uu, uu, .c (.sl (.sl (.int .i64)) v25 false), .c (.int .i64 v26), .c (.int .i64 v27), uu, uu, uu, uu, uu, uu, uu, uu, uu, uu, uu, uu, uu, uu, uu, uu, uu, uu, uu, uu, uu, uu, uu, uu, uu, uu, uu, uu, uu, uu, uu, uu, uu, uu, uu, uu, uu, uu, uu, uu, uu, uu, uu, uu, uu, uu], hp := (upd emp 9 (.arr (.int .i64) out9 false)) }
noncomputable def L22_2 (n : Nat × Nat) (m1 : Nat) (m : Nat) (size0 : Int) (pieces1 : List Int) (g10 : Int) (v25 : List (List Int)) (v26 : Int) (v27 : Int) (v35 : List Int) (v36 : Int) (v37 : Int) (out9 : List Int) : Option R22 := loopN (F22_16 n m1) m { tm := [.c (.int .i64 size0), .c (.sl (.int .i64) pieces1 false), uu, uu, uu, uu, uu, uu, uu, .own 9 none false, .c (.int .i64 g10), uu, uu, uu, uu, uu, uu, uu, uu, uu, uu, uu, uu, uu, uu, .c (.sl (.sl (.int .i64)) v25 false), .c (.int .i64 v26), .c (.int .i64 v27), uu, uu, uu, uu, uu, uu, uu, .c (.sl (.int .i64) v35 false), .c (.int .i64 v36), .c (.int .i64 v37), uu, uu, uu, uu, uu, uu, uu, uu, uu, uu, uu, uu, uu, uu, uu, uu, uu, uu, uu, uu, uu, uu, uu, uu, uu, uu, uu, uu, uu, uu, uu, uu, uu, uu, uu, uu], hp := (upd emp 9 (.arr (.int .i64) out9 false)) }
theorem L22_1_eq (n : Nat × Nat) (m1 : Nat) (size0 : Int) (pieces1 : List Int) (v25 : List (List Int)) (v26 : Int) (v27 : Int) (out9 : List Int) : L22_1 n (m1 + 1) size0 pieces1 v25 v26 v27 out9 =
 (bif decide (v27 < v26) then (idx v25 v27).bind fun x3' =>
 (bif ((x3'.length : Int) == 0) then some ([], 5)
 else L22_2 n m1 n.1 size0 pieces1 v27 v25 v26 v27 x3' (x3'.length : Int) 0 out9)
 else (S70 n out9 (-1)).bind fun r4' =>
 (bif r4' then some ([], 5)
 else (S71 n out9).bind fun r5' =>
 (S28 n size0 pieces1 r5').bind fun r6' =>
 (bif (r6' != 0) then some ([], r6')
 else some (r5', 0)))) := by kernel_rfl
theorem L22_2_eq (n : Nat × Nat) (m1 m2 : Nat) (size0 : Int) (pieces1 : List Int) (g10 : Int) (v25 : List (List Int)) (v26 : Int) (v27 : Int) (v35 : List Int) (v36 : Int) (v37 : Int) (out9 : List Int) : L22_2 n m1 (m2 + 1) size0 pieces1 g10 v25 v26 v27 v35 v36 v37 out9 =
 (bif decide (v37 < v36) then (idx v35 v37).bind fun x7' =>
 ((bif (decide (x7' < 0) == false) then some (decide (x7' ≥ (pieces1.length : Int)))
 else some true)).bind fun b8' =>
 (bif b8' then some ([], 2)
 else (bif inB x7' out9.length then (idx out9 x7').bind fun x9' =>
 (bif decide (x9' ≥ 0) then some ([], 6)
 else (bif inB x7' out9.length then (idx out9 x7').bind fun x10' =>
              L22_2 n m1 m2 size0 pieces1 g10 v25 v26 v27 v35 v36 (wr .i64 (v37 + 1)) (out9.set (Int.toNat x7') g10)
 else none))
 else none))
 else L22_1 n m1 size0 pieces1 v25 v26 (wr .i64 (v27 + 1)) out9) := by kernel_rfl
noncomputable def S22 (n : Nat × Nat) (size0 : Int) (pieces1 : List Int) (groups2 : List (List Int)) : Option R22 := run (E22 n) c22 an22 rt22 (fun _ _ => none) rt22 { tm := [.c (.int .i64 size0), .c (.sl (.int .i64) pieces1 false), .c (.sl (.sl (.int .i64)) groups2 false), uu, uu, uu, uu, uu, uu, uu, uu, uu, uu, uu, uu, uu, uu, uu, uu, uu, uu, uu, uu, uu, uu, uu, uu, uu, uu, uu, uu, uu, uu, uu, uu, uu, uu, uu, uu, uu, uu, uu, uu, uu, uu, uu, uu, uu, uu, uu, uu, uu, uu, uu, uu, uu, uu, uu, uu, uu, uu, uu, uu, uu, uu, uu, uu, uu, uu, uu, uu, uu, uu, uu], hp := emp }
theorem S22_eq (n : Nat × Nat) (size0 : Int) (pieces1 : List Int) (groups2 : List (List Int)) : S22 n size0 pieces1 groups2 =
 (S26 n size0 pieces1).bind fun r1' =>
 (bif (r1' != 0) then some ([], r1')
 else (S69 n [-1] (pieces1.length : Int)).bind fun r2' =>
      L22_1 n n.1 size0 pieces1 groups2 (groups2.length : Int) 0 r2') := by kernel_rfl
theorem S22_run (n : Nat × Nat) (xs : pksDen pk22) : S22 n xs.1 xs.2.1 xs.2.2.1 = runG (E22 n) noScope c22 an22 (rtG rk22) (fun _ _ => none) (rtG rk22) (st0 pk22 xs Tryd.f22.ntmps) := by kernel_rfl
noncomputable def P22 (n : Nat × Nat) := phiOf pk22 rk22 (fun xs => S22 n xs.1 xs.2.1 xs.2.2.1)
theorem call22 : CallOK Tryd.prog 22 := callOK_of Tryd.func22 (by kernel_rfl) (by kernel_rfl)
theorem env22 (n : Nat × Nat) : EnvOK Tryd.prog (E22 n) := envOK0 (consPhi_ok (FC26 n) call26 (consPhi_ok (FC28 n) call28 (consPhi_ok (FC69 n) call69 (consPhi_ok (FC70 n) call70 (consPhi_ok (FC71 n) call71 noPhi_ok))))) rfl rfl
theorem par22 (n : Nat × Nat) : EnvPar (E22 n) := envPar0 (consPhi_par phiOf_Par1 (consPhi_par phiOf_Par1 (consPhi_par phiOf_Par1 (consPhi_par phiOf_Par1 (consPhi_par phiOf_Par1 noPhi_par))))) rfl
theorem FC22 (n : Nat × Nat) : FCs Tryd.prog 22 (P22 n) := phiOf_FCs fun xs r h vs hv => FC.of_runG tabOK eqsOK (env22 n) (par22 n) mixed (fun _ p _ => noScope_ok p.1 p.2) Tryd.func22 (c := c22) (an := an22) (pks := pk22) (rks := rk22) (by kernel_rfl) (by kernel_rfl) hv ((S22_run n xs).symm.trans h)
abbrev R40 := Bool × Int
noncomputable def c40 : Code := bodyOf Tryd.f40
noncomputable def an40 : Ann := (.s .l (.s (.s .l (.s .l (.j [0, 1] .l .l))) (.s (.s .l (.j [] (.j [0, 1, 16, 17, 18] (.s .l (.s (.j [0, 1, 16, 17, 18] .l .l) (.s (.j [0, 1, 16, 17, 18] (.s .l (.s (.s .l (.j [1, 8, 16, 17, 18] .l .l)) .l)) .l) .l))) .l) .l)) .l)))
def pk40 : List PK := [.c (.int .i64), .c (.sl (.int .i64))]
def rk40 : List RK := [.c .bool 4, .c (.int .i64) 5]
noncomputable def rt40 (st : St) : Option R40 := rtG rk40 st
noncomputable def E40 (n : Nat × Nat) : Env := { T := tab, phi := (consPhi 26 (fun _ => true) (P26 n) (consPhi 77 (fun _ => true) (P77 n) noPhi)), eff := fun _ => false, fuel := n.1, hold := n.2 }
noncomputable def kq40_3 (n : Nat × Nat) : St → Option R40 := run (E40 n) (cB (cB (cB c40))) (Ann.snd (Ann.snd (Ann.snd an40))) rt40 (fun _ _ => none) rt40
noncomputable def xb40_5 (n : Nat × Nat) : Nat → St → Option R40 := fun j s => bif Nat.beq j 0 then normC [] s (kq40_3 n) else (fun _ _ => none) j s
noncomputable def F40_6 (n : Nat × Nat) : (St → Option R40) → St → Option R40 := fun K s => run (E40 n) (cA (cA (cB (cA (cB (cB c40)))))) (Ann.fst (Ann.fst (Ann.snd (Ann.fst (Ann.snd (Ann.snd an40)))))) (fun s => normC [0, 1, 16, 17, 18] s K) (xb40_5 n) rt40 s
noncomputable def L40_1 (n : Nat × Nat) (m : Nat) (size0 : Int) (pieces1 : List Int) (v17 : Int) (v18 : Int) (v16 : List Int) : Option R40 := loopN (F40_6 n) m { tm := [.c (.int .i64 size0), .c (.sl (.int .i64) pieces1 false), uu, uu, uu, uu, uu, uu, uu, uu, uu, uu, uu, uu, uu, uu, .own 16 none false, .c (.int .i64 v17), .c (.int .i64 v18), uu, uu, uu, uu, uu, uu, uu, uu, uu, uu, uu, uu, uu, uu, uu, uu, uu, uu], hp := (upd emp 16 (.arr (.int .i64) v16 false)) }
theorem L40_1_eq (n : Nat × Nat) (m1 : Nat) (size0 : Int) (pieces1 : List Int) (v17 : Int) (v18 : Int) (v16 : List Int) : L40_1 n (m1 + 1) size0 pieces1 v17 v18 v16 =
 (bif decide (v18 < v17) then (bif inB v18 v16.length then (idx v16 v18).bind fun x3' =>
 (idx ([0, 2, 6, 10, 22, 34, 78, 130, 278, 522, 1062, 2050, 4190, 8194, 16518, 32810, 65814, 131074, 262734, 524290, 1049654, 2097290, 4196358, 8388610, 16781662] : List Int) size0).bind fun x4' =>
 (idx pieces1 x3').bind fun x5' =>
 (bif decide (x5' < 0) then none
 else (bif ((wr .u32 (BitVec.ofInt (IntKind.bits .u32) (Int.fdiv x4' (2 ^ (min (Int.toNat x5') (IntKind.bits .u32)))) &&& BitVec.ofInt (IntKind.bits .u32) 1).toNat) == 0) then some (false, 0)
 else (idx pieces1 x3').bind fun x6' =>
            L40_1 n m1 x6' pieces1 v17 (wr .i64 (v18 + 1)) v16))
 else none)
 else some (true, 0)) := by kernel_rfl
noncomputable def S40 (n : Nat × Nat) (size0 : Int) (pieces1 : List Int) : Option R40 := run (E40 n) c40 an40 rt40 (fun _ _ => none) rt40 { tm := [.c (.int .i64 size0), .c (.sl (.int .i64) pieces1 false), uu, uu, uu, uu, uu, uu, uu, uu, uu, uu, uu, uu, uu, uu, uu, uu, uu, uu, uu, uu, uu, uu, uu, uu, uu, uu, uu, uu, uu, uu, uu, uu, uu, uu, uu], hp := emp }
theorem S40_eq (n : Nat × Nat) (size0 : Int) (pieces1 : List Int) : S40 n size0 pieces1 =
 (S26 n size0 pieces1).bind fun r1' =>
 (bif (r1' != 0) then some (false, r1')
 else (S77 n pieces1).bind fun r2' =>
      L40_1 n n.1 size0 pieces1 (r2'.length : Int) 0 r2') := by kernel_rfl
theorem S40_run (n : Nat × Nat) (xs : pksDen pk40) : S40 n xs.1 xs.2.1 = runG (E40 n) noScope c40 an40 (rtG rk40) (fun _ _ => none) (rtG rk40) (st0 pk40 xs Tryd.f40.ntmps) := by kernel_rfl
noncomputable def P40 (n : Nat × Nat) := phiOf pk40 rk40 (fun xs => S40 n xs.1 xs.2.1)
theorem call40 : CallOK Tryd.prog 40 := callOK_of Tryd.func40 (by kernel_rfl) (by kernel_rfl)
theorem env40 (n : Nat × Nat) : EnvOK Tryd.prog (E40 n) := envOK0 (consPhi_ok (FC26 n) call26 (consPhi_ok (FC77 n) call77 noPhi_ok)) rfl rfl
theorem par40 (n : Nat × Nat) : EnvPar (E40 n) := envPar0 (consPhi_par phiOf_Par1 (consPhi_par phiOf_Par1 noPhi_par)) rfl
theorem FC40 (n : Nat × Nat) : FCs Tryd.prog 40 (P40 n) := phiOf_FCs fun xs r h vs hv => FC.of_runG tabOK eqsOK (env40 n) (par40 n) mixed (fun _ p _ => noScope_ok p.1 p.2) Tryd.func40 (c := c40) (an := an40) (pks := pk40) (rks := rk40) (by kernel_rfl) (by kernel_rfl) hv ((S40_run n xs).symm.trans h)
abbrev R65 := List Int
noncomputable def c65 : Code := bodyOf Tryd.f65
noncomputable def an65 : Ann := .l
def pk65 : List PK := []
def rk65 : List RK := [.own (.int .i64) 0]
noncomputable def rt65 (st : St) : Option R65 := rtG rk65 st
noncomputable def E65 (n : Nat × Nat) : Env := { T := tab, phi := noPhi, eff := fun _ => false, fuel := n.1, hold := n.2 }
noncomputable def S65 (n : Nat × Nat) : Option R65 := run (E65 n) c65 an65 rt65 (fun _ _ => none) rt65 { tm := [uu, uu, uu], hp := emp }
theorem S65_eq (n : Nat × Nat) : S65 n =
 some [7, 7, 4, 4] := by kernel_rfl
theorem S65_run (n : Nat × Nat) (xs : pksDen pk65) : S65 n = runG (E65 n) noScope c65 an65 (rtG rk65) (fun _ _ => none) (rtG rk65) (st0 pk65 xs Tryd.f65.ntmps) := by kernel_rfl
noncomputable def P65 (n : Nat × Nat) := phiOf pk65 rk65 (fun xs => S65 n)
theorem call65 : CallOK Tryd.prog 65 := callOK_of Tryd.func65 (by kernel_rfl) (by kernel_rfl)
theorem env65 (n : Nat × Nat) : EnvOK Tryd.prog (E65 n) := envOK0 noPhi_ok rfl rfl
theorem par65 (n : Nat × Nat) : EnvPar (E65 n) := envPar0 noPhi_par rfl
theorem FC65 (n : Nat × Nat) : FCs Tryd.prog 65 (P65 n) := phiOf_FCs fun xs r h vs hv => FC.of_runG tabOK eqsOK (env65 n) (par65 n) mixed (fun _ p _ => noScope_ok p.1 p.2) Tryd.func65 (c := c65) (an := an65) (pks := pk65) (rks := rk65) (by kernel_rfl) (by kernel_rfl) hv ((S65_run n xs).symm.trans h)
abbrev R87 := Int
noncomputable def c87 : Code := bodyOf Tryd.f87
noncomputable def an87 : Ann := (.s .l (.s .l (.s (.s .l (.j [0, 7, 8] (.j [0, 2, 7, 8, 11, 12, 13] (.s .l (.s (.j [0, 2, 7, 8, 11, 12, 13] .l .l) (.j [] (.j [0, 2, 7, 8, 11, 12, 13] (.s .l (.j [0, 2, 7, 8, 11, 12, 13] (.s .l (.j [0, 2, 7, 8, 11, 12, 13] .l (.s .l (.j [0, 2, 7, 8, 11, 12, 13] .l (.s .l (.j [0, 2, 7, 8, 11, 12, 13] .l .l)))))) .l)) .l) .l))) .l) .l)) .l)))
def pk87 : List PK := [.c (.int .i64), .c (.sl (.int .i64)), .c (.int .i64)]
def rk87 : List RK := [.c (.int .i64) 6]
noncomputable def rt87 (st : St) : Option R87 := rtG rk87 st
noncomputable def E87 (n : Nat × Nat) : Env := { T := tab, phi := noPhi, eff := fun _ => false, fuel := n.1, hold := n.2 }
noncomputable def kq87_1 (n : Nat × Nat) : St → Option R87 := run (E87 n) (cB (cB (cB c87))) (Ann.snd (Ann.snd (Ann.snd an87))) rt87 (fun _ _ => none) rt87
noncomputable def xb87_3 (n : Nat × Nat) : Nat → St → Option R87 := fun j s => bif Nat.beq j 0 then normC [0, 7, 8] s (kq87_1 n) else (fun _ _ => none) j s
noncomputable def F87_4 (n : Nat × Nat) : (St → Option R87) → St → Option R87 := fun K s => run (E87 n) (cA (cA (cB (cA (cB (cB c87)))))) (Ann.fst (Ann.fst (Ann.snd (Ann.fst (Ann.snd (Ann.snd an87)))))) (fun s => normC [0, 2, 7, 8, 11, 12, 13] s K) (xb87_3 n) rt87 s
noncomputable def kq87_7 (n : Nat × Nat) (m1 : Nat) : St → Option R87 := run (E87 n) (cB (cB (cB (cA (cA (cB (cA (cB (cB c87))))))))) (Ann.snd (Ann.snd (Ann.snd (Ann.fst (Ann.fst (Ann.snd (Ann.fst (Ann.snd (Ann.snd an87))))))))) (fun s => normC [0, 2, 7, 8, 11, 12, 13] s (loopN (F87_4 n) m1)) (xb87_3 n) rt87
noncomputable def L87_1 (n : Nat × Nat) (m : Nat) (size0 : Int) (k2 : Int) (alone7 : Int) (over8 : Int) (v11 : List Int) (v12 : Int) (v13 : Int) : Option R87 := loopN (F87_4 n) m { tm := [.c (.int .i64 size0), uu, .c (.int .i64 k2), uu, uu, uu, uu, .c (.int .i64 alone7), .c (.int .i64 over8), uu, uu, .c (.sl (.int .i64) v11 false), .c (.int .i64 v12), .c (.int .i64 v13), uu, uu, uu, uu, uu, uu, uu, uu, uu, uu, uu, uu, uu, uu, uu, uu, uu, uu, uu, uu, uu, uu, uu, uu, uu, uu, uu, uu, uu, uu, uu, uu, uu, uu, uu, uu, uu, uu, uu, uu], hp := emp }
noncomputable def L87_2 (n : Nat × Nat) (m1 : Nat) (size0 : Int) (k2 : Int) (alone7 : Int) (over8 : Int) (v11 : List Int) (v12 : Int) (v13 : Int) : Option R87 := loopN (fun _ => (kq87_7 n m1)) n.2 { tm := [.c (.int .i64 size0), uu, .c (.int .i64 k2), uu, uu, uu, uu, .c (.int .i64 alone7), .c (.int .i64 over8), uu, uu, .c (.sl (.int .i64) v11 false), .c (.int .i64 v12), .c (.int .i64 v13), uu, uu, uu, uu, uu, uu, uu, uu, uu, uu, uu, uu, uu, uu, uu, uu, uu, uu, uu, uu, uu, uu, uu, uu, uu, uu, uu, uu, uu, uu, uu, uu, uu, uu, uu, uu, uu, uu, uu, uu], hp := emp }
theorem L87_1_eq (n : Nat × Nat) (m1 : Nat) (size0 : Int) (k2 : Int) (alone7 : Int) (over8 : Int) (v11 : List Int) (v12 : Int) (v13 : Int) : L87_1 n (m1 + 1) size0 k2 alone7 over8 v11 v12 v13 =
 (bif decide (v13 < v12) then (idx v11 v13).bind fun x1' =>
 (bif decide (x1' > wr .i64 (size0 - k2)) then L87_2 n m1 size0 k2 (wr .i64 (alone7 + 1)) over8 v11 v12 v13
 else (bif decide (wr .i64 (2 * x1') > size0) then L87_2 n m1 size0 k2 (wr .i64 (alone7 + 1)) (wr .i64 (over8 - (wr .i64 (size0 - x1')))) v11 v12 v13
 else (bif decide (x1' ≥ k2) then L87_2 n m1 size0 k2 alone7 (wr .i64 (over8 + x1')) v11 v12 v13
 else L87_2 n m1 size0 k2 alone7 over8 v11 v12 v13)))
 else (bif size0 == 0 then none
 else some (wr .i64 (alone7 + (wr .i64 (Int.tdiv (wr .i64 ((wr .i64 ((if 0 > over8 then 0 else over8) + size0)) - 1)) size0)))))) := by kernel_rfl
theorem L87_2_raw (n : Nat × Nat) (m1 : Nat) (size0 : Int) (k2 : Int) (alone7 : Int) (over8 : Int) (v11 : List Int) (v12 : Int) (v13 : Int) : (kq87_7 n m1) { tm := [.c (.int .i64 size0), uu, .c (.int .i64 k2), uu, uu, uu, uu, .c (.int .i64 alone7), .c (.int .i64 over8), uu, uu, .c (.sl (.int .i64) v11 false), .c (.int .i64 v12), .c (.int .i64 v13), uu, uu, uu, uu, uu, uu, uu, uu, uu, uu, uu, uu, uu, uu, uu, uu, uu, uu, uu, uu, uu, uu, uu, uu, uu, uu, uu, uu, uu, uu, uu, uu, uu, uu, uu, uu, uu, uu, uu, uu], hp := emp } =
    L87_1 n m1 size0 k2 alone7 over8 v11 v12 (wr .i64 (v13 + 1)) := by kernel_rfl
noncomputable def S87 (n : Nat × Nat) (size0 : Int) (pieces1 : List Int) (k2 : Int) : Option R87 := run (E87 n) c87 an87 rt87 (fun _ _ => none) rt87 { tm := [.c (.int .i64 size0), .c (.sl (.int .i64) pieces1 false), .c (.int .i64 k2), uu, uu, uu, uu, uu, uu, uu, uu, uu, uu, uu, uu, uu, uu, uu, uu, uu, uu, uu, uu, uu, uu, uu, uu, uu, uu, uu, uu, uu, uu, uu, uu, uu, uu, uu, uu, uu, uu, uu, uu, uu, uu, uu, uu, uu, uu, uu, uu, uu, uu, uu], hp := emp }
theorem S87_eq (n : Nat × Nat) (size0 : Int) (pieces1 : List Int) (k2 : Int) : S87 n size0 pieces1 k2 =
    L87_1 n n.1 size0 k2 0 0 pieces1 (pieces1.length : Int) 0 := by kernel_rfl
theorem S87_run (n : Nat × Nat) (xs : pksDen pk87) : S87 n xs.1 xs.2.1 xs.2.2.1 = runG (E87 n) noScope c87 an87 (rtG rk87) (fun _ _ => none) (rtG rk87) (st0 pk87 xs Tryd.f87.ntmps) := by kernel_rfl
noncomputable def P87 (n : Nat × Nat) := phiOf pk87 rk87 (fun xs => S87 n xs.1 xs.2.1 xs.2.2.1)
theorem call87 : CallOK Tryd.prog 87 := callOK_of Tryd.func87 (by kernel_rfl) (by kernel_rfl)
theorem env87 (n : Nat × Nat) : EnvOK Tryd.prog (E87 n) := envOK0 noPhi_ok rfl rfl
theorem par87 (n : Nat × Nat) : EnvPar (E87 n) := envPar0 noPhi_par rfl
theorem FC87 (n : Nat × Nat) : FCs Tryd.prog 87 (P87 n) := phiOf_FCs fun xs r h vs hv => FC.of_runG tabOK eqsOK (env87 n) (par87 n) mixed (fun _ p _ => noScope_ok p.1 p.2) Tryd.func87 (c := c87) (an := an87) (pks := pk87) (rks := rk87) (by kernel_rfl) (by kernel_rfl) hv ((S87_run n xs).symm.trans h)
abbrev R42 := Int × Int
noncomputable def c42 : Code := bodyOf Tryd.f42
noncomputable def an42 : Ann := (.s .l (.s (.s .l (.j [0, 1, 2] (.s .l (.j [0, 1, 2] .l (.s .l (.j [0, 1, 2] .l .l)))) .l)) .l))
def pk42 : List PK := [.c (.int .i64), .c (.sl (.int .i64)), .c (.int .i64)]
def rk42 : List RK := [.c (.int .i64) 6, .c (.int .i64) 7]
noncomputable def rt42 (st : St) : Option R42 := rtG rk42 st
noncomputable def E42 (n : Nat × Nat) : Env := { T := tab, phi := (consPhi 26 (fun _ => true) (P26 n) (consPhi 87 (fun _ => true) (P87 n) noPhi)), eff := fun _ => false, fuel := n.1, hold := n.2 }
noncomputable def S42 (n : Nat × Nat) (size0 : Int) (pieces1 : List Int) (k2 : Int) : Option R42 := run (E42 n) c42 an42 rt42 (fun _ _ => none) rt42 { tm := [.c (.int .i64 size0), .c (.sl (.int .i64) pieces1 false), .c (.int .i64 k2), uu, uu, uu, uu, uu, uu, uu, uu, uu, uu, uu, uu, uu, uu, uu, uu, uu, uu, uu, uu, uu, uu, uu, uu, uu, uu], hp := emp }
theorem S42_eq (n : Nat × Nat) (size0 : Int) (pieces1 : List Int) (k2 : Int) : S42 n size0 pieces1 k2 =
 (S26 n size0 pieces1).bind fun r1' =>
 (bif (r1' != 0) then some (0, r1')
 else ((bif (decide (k2 < 0) == false) then (bif 2 == 0 then none
 else some (decide (k2 > wr .i64 (Int.tdiv size0 2))))
 else some true)).bind fun b2' =>
 (bif b2' then some (0, 1)
 else (S87 n size0 pieces1 k2).bind fun r3' =>
 some (r3', 0))) := by kernel_rfl
theorem S42_run (n : Nat × Nat) (xs : pksDen pk42) : S42 n xs.1 xs.2.1 xs.2.2.1 = runG (E42 n) noScope c42 an42 (rtG rk42) (fun _ _ => none) (rtG rk42) (st0 pk42 xs Tryd.f42.ntmps) := by kernel_rfl
noncomputable def P42 (n : Nat × Nat) := phiOf pk42 rk42 (fun xs => S42 n xs.1 xs.2.1 xs.2.2.1)
theorem call42 : CallOK Tryd.prog 42 := callOK_of Tryd.func42 (by kernel_rfl) (by kernel_rfl)
theorem env42 (n : Nat × Nat) : EnvOK Tryd.prog (E42 n) := envOK0 (consPhi_ok (FC26 n) call26 (consPhi_ok (FC87 n) call87 noPhi_ok)) rfl rfl
theorem par42 (n : Nat × Nat) : EnvPar (E42 n) := envPar0 (consPhi_par phiOf_Par1 (consPhi_par phiOf_Par1 noPhi_par)) rfl
theorem FC42 (n : Nat × Nat) : FCs Tryd.prog 42 (P42 n) := phiOf_FCs fun xs r h vs hv => FC.of_runG tabOK eqsOK (env42 n) (par42 n) mixed (fun _ p _ => noScope_ok p.1 p.2) Tryd.func42 (c := c42) (an := an42) (pks := pk42) (rks := rk42) (by kernel_rfl) (by kernel_rfl) hv ((S42_run n xs).symm.trans h)
end Go.Proofs.YtgmonagekfjnmaaDoor
