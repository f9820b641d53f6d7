/- Texts of this claim, joined: G72 to Sl. -/
import Derived.KernelRfl
import Derived.Test.YtgmonagekfjnmaaDoorProg
import Derived.WalkKit
import Derived.Test.YtgmonagekfjnmaaDoorP6
set_option linter.unusedVariables false
set_option linter.unusedSimpArgs false
set_option maxRecDepth 100000
namespace Go.Proofs.YtgmonagekfjnmaaDoor
open Go.Vi
abbrev R72 := Bool
noncomputable def c72 : Code := bodyOf Tryd.f72
noncomputable def an72 : Ann := .l
def pk72 : List PK := [.c (.int .i64), .c (.int .i64), .c (.int .i64)]
def rk72 : List RK := [.c .bool 6]
noncomputable def rt72 (st : St) : Option R72 := rtG rk72 st
noncomputable def E72 (n : Nat × Nat) : Env := { T := tab, phi := noPhi, eff := fun _ => false, fuel := n.1, hold := n.2 }
noncomputable def S72 (n : Nat × Nat) (v0 : Int) (lo1 : Int) (hi2 : Int) : Option R72 := run (E72 n) c72 an72 rt72 (fun _ _ => none) rt72 { tm := [.c (.int .i64 v0), .c (.int .i64 lo1), .c (.int .i64 hi2), uu, uu, uu, uu, uu, uu, uu, uu, uu, uu, uu, uu], hp := emp }
theorem S72_eq (n : Nat × Nat) (v0 : Int) (lo1 : Int) (hi2 : Int) : S72 n v0 lo1 hi2 =
 ((bif (decide (v0 ≥ lo1) == true) then some (decide (v0 ≤ hi2))
 else some false)).bind fun b1' =>
 some b1' := by kernel_rfl
theorem S72_run (n : Nat × Nat) (xs : pksDen pk72) : S72 n xs.1 xs.2.1 xs.2.2.1 = runG (E72 n) noScope c72 an72 (rtG rk72) (fun _ _ => none) (rtG rk72) (st0 pk72 xs Tryd.f72.ntmps) := by kernel_rfl
noncomputable def P72 (n : Nat × Nat) := phiOf pk72 rk72 (fun xs => S72 n xs.1 xs.2.1 xs.2.2.1)
theorem call72 : CallOK Tryd.prog 72 := callOK_of Tryd.func72 (by kernel_rfl) (by kernel_rfl)
theorem env72 (n : Nat × Nat) : EnvOK Tryd.prog (E72 n) := envOK0 noPhi_ok rfl rfl
theorem par72 (n : Nat × Nat) : EnvPar (E72 n) := envPar0 noPhi_par rfl
theorem FC72 (n : Nat × Nat) : FCs Tryd.prog 72 (P72 n) := phiOf_FCs fun xs r h vs hv => FC.of_runG tabOK eqsOK (env72 n) (par72 n) mixed (fun _ p _ => noScope_ok p.1 p.2) Tryd.func72 (c := c72) (an := an72) (pks := pk72) (rks := rk72) (by kernel_rfl) (by kernel_rfl) hv ((S72_run n xs).symm.trans h)
abbrev R27 := Int
noncomputable def c27 : Code := bodyOf Tryd.f27
noncomputable def an27 : Ann := (.s .l (.s (.s .l (.j [0, 1] .l .l)) (.s (.s .l (.j [0, 1] .l .l)) (.s (.s .l (.j [] (.j [0, 1, 5] (.s (.s .l (.j [0, 1, 5] .l .l)) (.s (.j [0, 1, 5] (.s .l (.j [0, 1, 5] .l .l)) .l) .l)) .l) .l)) .l))))
def pk27 : List PK := [.c (.int .i64), .c (.sl (.int .i64))]
def rk27 : List RK := [.c (.int .i64) 4]
noncomputable def rt27 (st : St) : Option R27 := rtG rk27 st
noncomputable def E27 (n : Nat × Nat) : Env := { T := tab, phi := (consPhi 72 (fun _ => true) (P72 n) noPhi), eff := fun _ => false, fuel := n.1, hold := n.2 }
noncomputable def kq27_5 (n : Nat × Nat) : St → Option R27 := run (E27 n) (cB (cB (cB (cB c27)))) (Ann.snd (Ann.snd (Ann.snd (Ann.snd an27)))) rt27 (fun _ _ => none) rt27
noncomputable def xb27_7 (n : Nat × Nat) : Nat → St → Option R27 := fun j s => bif Nat.beq j 0 then normC [] s (kq27_5 n) else (fun _ _ => none) j s
noncomputable def F27_8 (n : Nat × Nat) : (St → Option R27) → St → Option R27 := fun K s => run (E27 n) (cA (cA (cB (cA (cB (cB (cB c27))))))) (Ann.fst (Ann.fst (Ann.snd (Ann.fst (Ann.snd (Ann.snd (Ann.snd an27))))))) (fun s => normC [0, 1, 5] s K) (xb27_7 n) rt27 s
noncomputable def L27_1 (n : Nat × Nat) (m : Nat) (size0 : Int) (pieces1 : List Int) (i5 : Int) : Option R27 := loopN (F27_8 n) m { tm := [.c (.int .i64 size0), .c (.sl (.int .i64) pieces1 false), uu, uu, uu, .c (.int .i64 i5), uu, uu, uu, uu, uu, uu, uu, uu, uu, uu, uu, uu, uu, uu, uu, uu, uu, uu, uu], hp := emp }
theorem L27_1_eq (n : Nat × Nat) (m1 : Nat) (size0 : Int) (pieces1 : List Int) (i5 : Int) : L27_1 n (m1 + 1) size0 pieces1 i5 =
 (bif decide (i5 < (pieces1.length : Int)) then (idx pieces1 i5).bind fun x2' =>
 (S72 n x2' 1 size0).bind fun r3' =>
 (bif (!r3') then some 1
 else L27_1 n m1 size0 pieces1 (wr .i64 (i5 + 1)))
 else some 0) := by kernel_rfl
noncomputable def S27 (n : Nat × Nat) (size0 : Int) (pieces1 : List Int) : Option R27 := run (E27 n) c27 an27 rt27 (fun _ _ => none) rt27 { tm := [.c (.int .i64 size0), .c (.sl (.int .i64) pieces1 false), uu, uu, uu, uu, uu, uu, uu, uu, uu, uu, uu, uu, uu, uu, uu, uu, uu, uu, uu, uu, uu, uu, uu], hp := emp }
theorem S27_eq (n : Nat × Nat) (size0 : Int) (pieces1 : List Int) : S27 n size0 pieces1 =
 (S72 n size0 1 24).bind fun r1' =>
 (bif (!r1') then some 1
 else (bif decide ((pieces1.length : Int) > 8) then some 3
 else L27_1 n n.1 size0 pieces1 0)) := by kernel_rfl
theorem S27_run (n : Nat × Nat) (xs : pksDen pk27) : S27 n xs.1 xs.2.1 = runG (E27 n) noScope c27 an27 (rtG rk27) (fun _ _ => none) (rtG rk27) (st0 pk27 xs Tryd.f27.ntmps) := by kernel_rfl
noncomputable def P27 (n : Nat × Nat) := phiOf pk27 rk27 (fun xs => S27 n xs.1 xs.2.1)
theorem call27 : CallOK Tryd.prog 27 := callOK_of Tryd.func27 (by kernel_rfl) (by kernel_rfl)
theorem env27 (n : Nat × Nat) : EnvOK Tryd.prog (E27 n) := envOK0 (consPhi_ok (FC72 n) call72 noPhi_ok) rfl rfl
theorem par27 (n : Nat × Nat) : EnvPar (E27 n) := envPar0 (consPhi_par phiOf_Par1 noPhi_par) rfl
theorem FC27 (n : Nat × Nat) : FCs Tryd.prog 27 (P27 n) := phiOf_FCs fun xs r h vs hv => FC.of_runG tabOK eqsOK (env27 n) (par27 n) mixed (fun _ p _ => noScope_ok p.1 p.2) Tryd.func27 (c := c27) (an := an27) (pks := pk27) (rks := rk27) (by kernel_rfl) (by kernel_rfl) hv ((S27_run n xs).symm.trans h)
abbrev R41 := Bool × Int
noncomputable def c41 : Code := bodyOf Tryd.f41
noncomputable def an41 : Ann := (.s .l (.s .l (.s (.s .l (.j [0, 1, 44, 45, 46, 47, 48, 49, 50, 51, 52, 53] .l .l)) (.s (.s .l (.j [] (.j [0, 1, 7, 44, 45, 46, 47, 48, 49, 50, 51, 52, 53] (.s (.s .l (.j [0, 1, 7, 44, 45, 46, 47, 48, 49, 50, 51, 52, 53] .l .l)) (.s (.j [0, 1, 7, 44, 45, 46, 47, 48, 49, 50, 51, 52, 53] (.s (.s .l (.j [0, 1, 7, 44, 45, 46, 47, 48, 49, 50, 51, 52, 53] .l .l)) (.s .l (.j [0, 1, 7, 44, 45, 46, 47, 48, 49, 50, 51, 52, 53] (.j [0, 1, 7, 8, 44, 45, 46, 47, 48, 49, 50, 51, 52, 53] (.s (.s .l (.j [0, 1, 7, 8, 44, 45, 46, 47, 48, 49, 50, 51, 52, 53] .l .l)) (.s (.j [0, 1, 7, 8, 44, 45, 46, 47, 48, 49, 50, 51, 52, 53] (.s .l (.j [0, 1, 7, 8, 44, 45, 46, 47, 48, 49, 50, 51, 52, 53] .l .l)) .l) .l)) .l) .l))) .l) .l)) .l) .l)) .l))))
def pk41 : List PK := [.c (.int .i64), .c (.sl (.int .i64))]
def rk41 : List RK := [.c .bool 4, .c (.int .i64) 5]
noncomputable def rt41 (st : St) : Option R41 := rtG rk41 st
noncomputable def E41 (n : Nat × Nat) : Env := { T := tab, phi := (consPhi 27 (fun _ => true) (P27 n) noPhi), eff := fun _ => false, fuel := n.1, hold := n.2 }
noncomputable def kq41_3 (n : Nat × Nat) : St → Option R41 := run (E41 n) (cB (cB (cB (cB c41)))) (Ann.snd (Ann.snd (Ann.snd (Ann.snd an41)))) rt41 (fun _ _ => none) rt41
noncomputable def xb41_5 (n : Nat × Nat) : Nat → St → Option R41 := fun j s => bif Nat.beq j 0 then normC [] s (kq41_3 n) else (fun _ _ => none) j s
noncomputable def F41_6 (n : Nat × Nat) : (St → Option R41) → St → Option R41 := fun K s => run (E41 n) (cA (cA (cB (cA (cB (cB (cB c41))))))) (Ann.fst (Ann.fst (Ann.snd (Ann.fst (Ann.snd (Ann.snd (Ann.snd an41))))))) (fun s => normC [0, 1, 7, 44, 45, 46, 47, 48, 49, 50, 51, 52, 53] s K) (xb41_5 n) rt41 s
noncomputable def kq41_9 (n : Nat × Nat) (m1 : Nat) : St → Option R41 := run (E41 n) (cB (cB (cA (cA (cB (cA (cB (cB (cB c41))))))))) (Ann.snd (Ann.snd (Ann.fst (Ann.fst (Ann.snd (Ann.fst (Ann.snd (Ann.snd (Ann.snd an41))))))))) (fun s => normC [0, 1, 7, 44, 45, 46, 47, 48, 49, 50, 51, 52, 53] s (loopN (F41_6 n) m1)) (xb41_5 n) rt41
noncomputable def kc41_10 (n : Nat × Nat) (m1 : Nat) : St → Option R41 := fun s => normC [0, 1, 7, 44, 45, 46, 47, 48, 49, 50, 51, 52, 53] s (kq41_9 n m1)
noncomputable def xb41_11 (n : Nat × Nat) (m1 : Nat) : Nat → St → Option R41 := fun j s => bif Nat.beq j 1 then normC [0, 1, 7, 44, 45, 46, 47, 48, 49, 50, 51, 52, 53] s (kq41_9 n m1) else (xb41_5 n) j s
noncomputable def xb41_15 (n : Nat × Nat) (m1 : Nat) : Nat → St → Option R41 := fun j s => bif Nat.beq j 2 then normC [0, 1, 7, 44, 45, 46, 47, 48, 49, 50, 51, 52, 53] s (kc41_10 n m1) else (xb41_11 n m1) j s
noncomputable def F41_16 (n : Nat × Nat) (m1 : Nat) : (St → Option R41) → St → Option R41 := fun K s => run (E41 n) (cA (cA (cB (cB (cA (cA (cB (cA (cA (cB (cA (cB (cB (cB c41)))))))))))))) (Ann.fst (Ann.fst (Ann.snd (Ann.snd (Ann.fst (Ann.fst (Ann.snd (Ann.fst (Ann.fst (Ann.snd (Ann.fst (Ann.snd (Ann.snd (Ann.snd an41)))))))))))))) (fun s => normC [0, 1, 7, 8, 44, 45, 46, 47, 48, 49, 50, 51, 52, 53] s K) (xb41_15 n m1) rt41 s
noncomputable def L41_1 (n : Nat × Nat) (m : Nat) (size0 : Int) (pieces1 : List Int) (i7 : Int) : Option R41 := loopN (F41_6 n) m { tm := [.c (.int .i64 size0), .c (.sl (.int .i64) pieces1 false), uu, uu, uu, uu, uu, .c (.int .i64 i7), uu, uu, uu, uu, uu, uu, uu, uu, uu, uu, uu, uu, uu, uu, uu, uu, uu, uu, uu, uu, uu, uu, uu, uu, uu, uu, uu, uu, uu, uu, uu, uu, uu, uu, uu, uu, uu, uu, uu, uu, uu, uu, uu, uu, uu, uu, uu], hp := emp }
noncomputable def L41_2 (n : Nat × Nat) (m1 : Nat) (m : Nat) (size0 : Int) (pieces1 : List Int) (i7 : Int) (k8 : Int) : Option R41 := loopN (F41_16 n m1) m { tm := [.c (.int .i64 size0), .c (.sl (.int .i64) pieces1 false), uu, uu, uu, uu, uu, .c (.int .i64 i7), .c (.int .i64 k8), uu, uu, uu, uu, uu, uu, uu, uu, uu, uu, uu, uu, uu, uu, uu, uu, uu, uu, uu, uu, uu, uu, uu, uu, uu, uu, uu, uu, uu, uu, uu, uu, uu, uu, uu, uu, uu, uu, uu, uu, uu, uu, uu, uu, uu, uu], hp := emp }
theorem L41_1_eq (n : Nat × Nat) (m1 : Nat) (size0 : Int) (pieces1 : List Int) (i7 : Int) : L41_1 n (m1 + 1) size0 pieces1 i7 =
 (bif decide (i7 < (pieces1.length : Int)) then (idx pieces1 i7).bind fun x2' =>
 (bif x2' == 0 then none
 else (bif ((Int.tmod size0 x2') != 0) then some (false, 0)
 else L41_2 n m1 n.1 size0 pieces1 i7 0))
 else some (true, 0)) := by kernel_rfl
theorem L41_2_eq (n : Nat × Nat) (m1 m2 : Nat) (size0 : Int) (pieces1 : List Int) (i7 : Int) (k8 : Int) : L41_2 n m1 (m2 + 1) size0 pieces1 i7 k8 =
 (bif decide (k8 < i7) then (idx pieces1 i7).bind fun x3' =>
 (idx pieces1 k8).bind fun x4' =>
 (bif x4' == 0 then none
 else ((bif (((Int.tmod x3' x4') != 0) == true) then (idx pieces1 k8).bind fun x5' =>
 (idx pieces1 i7).bind fun x6' =>
 (bif x6' == 0 then none
 else some ((Int.tmod x5' x6') != 0))
 else some false)).bind fun b7' =>
 (bif b7' then some (false, 0)
 else L41_2 n m1 m2 size0 pieces1 i7 (wr .i64 (k8 + 1))))
 else L41_1 n m1 size0 pieces1 (wr .i64 (i7 + 1))) := by kernel_rfl
noncomputable def S41 (n : Nat × Nat) (size0 : Int) (pieces1 : List Int) : Option R41 := run (E41 n) c41 an41 rt41 (fun _ _ => none) rt41 { tm := [.c (.int .i64 size0), .c (.sl (.int .i64) pieces1 false), uu, uu, uu, uu, uu, uu, uu, uu, uu, uu, uu, uu, uu, uu, uu, uu, uu, uu, uu, uu, uu, uu, uu, uu, uu, uu, uu, uu, uu, uu, uu, uu, uu, uu, uu, uu, uu, uu, uu, uu, uu, uu, uu, uu, uu, uu, uu, uu, uu, uu, uu, uu, uu], hp := emp }
theorem S41_eq (n : Nat × Nat) (size0 : Int) (pieces1 : List Int) : S41 n size0 pieces1 =
 (S27 n size0 pieces1).bind fun r1' =>
 (bif (r1' != 0) then some (false, r1')
 else L41_1 n n.1 size0 pieces1 0) := by kernel_rfl
theorem S41_run (n : Nat × Nat) (xs : pksDen pk41) : S41 n xs.1 xs.2.1 = runG (E41 n) noScope c41 an41 (rtG rk41) (fun _ _ => none) (rtG rk41) (st0 pk41 xs Tryd.f41.ntmps) := by kernel_rfl
noncomputable def P41 (n : Nat × Nat) := phiOf pk41 rk41 (fun xs => S41 n xs.1 xs.2.1)
theorem call41 : CallOK Tryd.prog 41 := callOK_of Tryd.func41 (by kernel_rfl) (by kernel_rfl)
theorem env41 (n : Nat × Nat) : EnvOK Tryd.prog (E41 n) := envOK0 (consPhi_ok (FC27 n) call27 noPhi_ok) rfl rfl
theorem par41 (n : Nat × Nat) : EnvPar (E41 n) := envPar0 (consPhi_par phiOf_Par1 noPhi_par) rfl
theorem FC41 (n : Nat × Nat) : FCs Tryd.prog 41 (P41 n) := phiOf_FCs fun xs r h vs hv => FC.of_runG tabOK eqsOK (env41 n) (par41 n) mixed (fun _ p _ => noScope_ok p.1 p.2) Tryd.func41 (c := c41) (an := an41) (pks := pk41) (rks := rk41) (by kernel_rfl) (by kernel_rfl) hv ((S41_run n xs).symm.trans h)
abbrev R88 := Int
noncomputable def c88 : Code := bodyOf Tryd.f88
noncomputable def an88 : Ann := (.s .l (.s .l (.s (.s .l (.j [0, 7, 8, 9] (.j [0, 1, 2, 7, 8, 9, 10] (.s (.s .l (.j [0, 1, 2, 7, 8, 9, 10] .l .l)) (.j [] (.j [0, 1, 2, 7, 8, 9, 10] (.s .l (.s .l (.j [0, 1, 2, 7, 8, 9, 10] .l (.s .l (.j [0, 1, 2, 7, 8, 9, 10] .l (.s .l (.j [0, 1, 2, 7, 8, 9, 10] .l .l))))))) .l) .l)) .l) .l)) (.s (.j [7] (.j [0, 7, 8, 9] (.s (.s .l (.j [0, 7, 8, 9] .l .l)) (.j [0, 7, 8, 9] .l .l)) .l) .l) .l))))
def pk88 : List PK := [.c (.int .i64), .c (.sl (.int .i64)), .c (.int .i64)]
def rk88 : List RK := [.c (.int .i64) 6]
noncomputable def rt88 (st : St) : Option R88 := rtG rk88 st
noncomputable def E88 (n : Nat × Nat) : Env := { T := tab, phi := noPhi, eff := fun _ => false, fuel := n.1, hold := n.2 }
noncomputable def kq88_1 (n : Nat × Nat) : St → Option R88 := run (E88 n) (cB (cB (cB c88))) (Ann.snd (Ann.snd (Ann.snd an88))) rt88 (fun _ _ => none) rt88
noncomputable def xb88_3 (n : Nat × Nat) : Nat → St → Option R88 := fun j s => bif Nat.beq j 0 then normC [0, 7, 8, 9] s (kq88_1 n) else (fun _ _ => none) j s
noncomputable def F88_4 (n : Nat × Nat) : (St → Option R88) → St → Option R88 := fun K s => run (E88 n) (cA (cA (cB (cA (cB (cB c88)))))) (Ann.fst (Ann.fst (Ann.snd (Ann.fst (Ann.snd (Ann.snd an88)))))) (fun s => normC [0, 1, 2, 7, 8, 9, 10] s K) (xb88_3 n) rt88 s
noncomputable def kq88_7 (n : Nat × Nat) (m1 : Nat) : St → Option R88 := run (E88 n) (cB (cB (cA (cA (cB (cA (cB (cB c88)))))))) (Ann.snd (Ann.snd (Ann.fst (Ann.fst (Ann.snd (Ann.fst (Ann.snd (Ann.snd an88)))))))) (fun s => normC [0, 1, 2, 7, 8, 9, 10] s (loopN (F88_4 n) m1)) (xb88_3 n) rt88
noncomputable def kq88_13 (n : Nat × Nat) : St → Option R88 := run (E88 n) (cB (cB (cB (cB c88)))) (Ann.snd (Ann.snd (Ann.snd (Ann.snd an88)))) rt88 (fun _ _ => none) rt88
noncomputable def xb88_15 (n : Nat × Nat) : Nat → St → Option R88 := fun j s => bif Nat.beq j 2 then normC [7] s (kq88_13 n) else (fun _ _ => none) j s
noncomputable def F88_16 (n : Nat × Nat) : (St → Option R88) → St → Option R88 := fun K s => run (E88 n) (cA (cA (cA (cB (cB (cB c88)))))) (Ann.fst (Ann.fst (Ann.fst (Ann.snd (Ann.snd (Ann.snd an88)))))) (fun s => normC [0, 7, 8, 9] s K) (xb88_15 n) rt88 s
noncomputable def L88_1 (n : Nat × Nat) (m : Nat) (size0 : Int) (pieces1 : List Int) (k2 : Int) (v7 : Int) (small8 : Int) (left9 : Int) (i10 : Int) : Option R88 := loopN (F88_4 n) m { tm := [.c (.int .i64 size0), .c (.sl (.int .i64) pieces1 false), .c (.int .i64 k2), uu, uu, uu, uu, .c (.int .i64 v7), .c (.int .i64 small8), .c (.int .i64 left9), .c (.int .i64 i10), uu, uu, uu, uu, uu, uu, uu, uu, uu, uu, uu, uu, uu, uu, uu, uu, uu, uu, uu, uu, uu, uu, uu, uu, uu, uu, uu, uu, uu, uu, uu, uu, uu, uu, uu, uu, uu, uu, uu, uu, uu, uu, uu, uu], hp := emp }
noncomputable def L88_2 (n : Nat × Nat) (m1 : Nat) (size0 : Int) (pieces1 : List Int) (k2 : Int) (v7 : Int) (small8 : Int) (left9 : Int) (i10 : Int) : Option R88 := loopN (fun _ => (kq88_7 n m1)) n.2 { tm := [.c (.int .i64 size0), .c (.sl (.int .i64) pieces1 false), .c (.int .i64 k2), uu, uu, uu, uu, .c (.int .i64 v7), .c (.int .i64 small8), .c (.int .i64 left9), .c (.int .i64 i10), uu, uu, uu, uu, uu, uu, uu, uu, uu, uu, uu, uu, uu, uu, uu, uu, uu, uu, uu, uu, uu, uu, uu, uu, uu, uu, uu, uu, uu, uu, uu, uu, uu, uu, uu, uu, uu, uu, uu, uu, uu, uu, uu, uu], hp := emp }
noncomputable def L88_3 (n : Nat × Nat) (m : Nat) (size0 : Int) (v7 : Int) (small8 : Int) (left9 : Int) : Option R88 := loopN (F88_16 n) m { tm := [.c (.int .i64 size0), uu, uu, uu, uu, uu, uu, .c (.int .i64 v7), .c (.int .i64 small8), .c (.int .i64 left9), uu, uu, uu, uu, uu, uu, uu, uu, uu, uu, uu, uu, uu, uu, uu, uu, uu, uu, uu, uu, uu, uu, uu, uu, uu, uu, uu, uu, uu, uu, uu, uu, uu, uu, uu, uu, uu, uu, uu, uu, uu, uu, uu, uu, uu], hp := emp }
theorem L88_1_eq (n : Nat × Nat) (m1 : Nat) (size0 : Int) (pieces1 : List Int) (k2 : Int) (v7 : Int) (small8 : Int) (left9 : Int) (i10 : Int) : L88_1 n (m1 + 1) size0 pieces1 k2 v7 small8 left9 i10 =
 (bif decide (i10 < (pieces1.length : Int)) then (idx pieces1 i10).bind fun x1' =>
 (bif decide (x1' > wr .i64 (size0 - k2)) then L88_2 n m1 size0 pieces1 k2 (wr .i64 (v7 + 1)) small8 left9 i10
 else (bif decide (wr .i64 (2 * x1') > size0) then L88_2 n m1 size0 pieces1 k2 (wr .i64 (v7 + 1)) small8 (wr .i64 (left9 + (wr .i64 (size0 - x1')))) i10
 else (bif decide (x1' ≥ k2) then L88_2 n m1 size0 pieces1 k2 v7 (wr .i64 (small8 + x1')) left9 i10
 else L88_2 n m1 size0 pieces1 k2 v7 small8 left9 i10)))
 else L88_3 n n.1 size0 v7 small8 left9) := by kernel_rfl
theorem L88_2_raw (n : Nat × Nat) (m1 : Nat) (size0 : Int) (pieces1 : List Int) (k2 : Int) (v7 : Int) (small8 : Int) (left9 : Int) (i10 : Int) : (kq88_7 n m1) { tm := [.c (.int .i64 size0), .c (.sl (.int .i64) pieces1 false), .c (.int .i64 k2), uu, uu, uu, uu, .c (.int .i64 v7), .c (.int .i64 small8), .c (.int .i64 left9), .c (.int .i64 i10), uu, uu, uu, uu, uu, uu, uu, uu, uu, uu, uu, uu, uu, uu, uu, uu, uu, uu, uu, uu, uu, uu, uu, uu, uu, uu, uu, uu, uu, uu, uu, uu, uu, uu, uu, uu, uu, uu, uu, uu, uu, uu, uu, uu], hp := emp } =
    L88_1 n m1 size0 pieces1 k2 v7 small8 left9 (wr .i64 (i10 + 1)) := by kernel_rfl
theorem L88_3_eq (n : Nat × Nat) (m1 : Nat) (size0 : Int) (v7 : Int) (small8 : Int) (left9 : Int) : L88_3 n (m1 + 1) size0 v7 small8 left9 =
 (bif decide (small8 > left9) then L88_3 n m1 size0 (wr .i64 (v7 + 1)) (wr .i64 (small8 - size0)) left9
 else some v7) := by kernel_rfl
noncomputable def S88 (n : Nat × Nat) (size0 : Int) (pieces1 : List Int) (k2 : Int) : Option R88 := run (E88 n) c88 an88 rt88 (fun _ _ => none) rt88 { tm := [.c (.int .i64 size0), .c (.sl (.int .i64) pieces1 false), .c (.int .i64 k2), uu, uu, uu, uu, uu, uu, uu, uu, uu, uu, uu, uu, uu, uu, uu, uu, uu, uu, uu, uu, uu, uu, uu, uu, uu, uu, uu, uu, uu, uu, uu, uu, uu, uu, uu, uu, uu, uu, uu, uu, uu, uu, uu, uu, uu, uu, uu, uu, uu, uu, uu, uu], hp := emp }
theorem S88_eq (n : Nat × Nat) (size0 : Int) (pieces1 : List Int) (k2 : Int) : S88 n size0 pieces1 k2 =
    L88_1 n n.1 size0 pieces1 k2 0 0 0 0 := by kernel_rfl
theorem S88_run (n : Nat × Nat) (xs : pksDen pk88) : S88 n xs.1 xs.2.1 xs.2.2.1 = runG (E88 n) noScope c88 an88 (rtG rk88) (fun _ _ => none) (rtG rk88) (st0 pk88 xs Tryd.f88.ntmps) := by kernel_rfl
noncomputable def P88 (n : Nat × Nat) := phiOf pk88 rk88 (fun xs => S88 n xs.1 xs.2.1 xs.2.2.1)
theorem call88 : CallOK Tryd.prog 88 := callOK_of Tryd.func88 (by kernel_rfl) (by kernel_rfl)
theorem env88 (n : Nat × Nat) : EnvOK Tryd.prog (E88 n) := envOK0 noPhi_ok rfl rfl
theorem par88 (n : Nat × Nat) : EnvPar (E88 n) := envPar0 noPhi_par rfl
theorem FC88 (n : Nat × Nat) : FCs Tryd.prog 88 (P88 n) := phiOf_FCs fun xs r h vs hv => FC.of_runG tabOK eqsOK (env88 n) (par88 n) mixed (fun _ p _ => noScope_ok p.1 p.2) Tryd.func88 (c := c88) (an := an88) (pks := pk88) (rks := rk88) (by kernel_rfl) (by kernel_rfl) hv ((S88_run n xs).symm.trans h)
abbrev R43 := Int × Int
noncomputable def c43 : Code := bodyOf Tryd.f43
noncomputable def an43 : Ann := (.s .l (.s .l (.s (.s .l (.j [0, 1, 2, 8] .l .l)) (.s (.s .l (.j [0, 1, 2] .l .l)) .l))))
def pk43 : List PK := [.c (.int .i64), .c (.sl (.int .i64)), .c (.int .i64)]
def rk43 : List RK := [.c (.int .i64) 6, .c (.int .i64) 7]
noncomputable def rt43 (st : St) : Option R43 := rtG rk43 st
noncomputable def E43 (n : Nat × Nat) : Env := { T := tab, phi := (consPhi 27 (fun _ => true) (P27 n) (consPhi 72 (fun _ => true) (P72 n) (consPhi 88 (fun _ => true) (P88 n) noPhi))), eff := fun _ => false, fuel := n.1, hold := n.2 }
noncomputable def S43 (n : Nat × Nat) (size0 : Int) (pieces1 : List Int) (k2 : Int) : Option R43 := run (E43 n) c43 an43 rt43 (fun _ _ => none) rt43 { tm := [.c (.int .i64 size0), .c (.sl (.int .i64) pieces1 false), .c (.int .i64 k2), uu, uu, uu, uu, uu, uu, uu, uu, uu, uu, uu, uu, uu, uu, uu, uu, uu, uu, uu, uu, uu, uu, uu, uu, uu], hp := emp }
theorem S43_eq (n : Nat × Nat) (size0 : Int) (pieces1 : List Int) (k2 : Int) : S43 n size0 pieces1 k2 =
 (S27 n size0 pieces1).bind fun r1' =>
 ((bif ((r1' == 0) == true) then (bif 2 == 0 then none
 else (S72 n k2 0 (wr .i64 (Int.tdiv size0 2))).bind fun r2' =>
 some (!r2'))
 else some false)).bind fun b3' =>
 (bif b3' then (bif (1 != 0) then some (0, 1)
 else (S88 n size0 pieces1 k2).bind fun r4' =>
 some (r4', 0))
 else (bif (r1' != 0) then some (0, r1')
 else (S88 n size0 pieces1 k2).bind fun r5' =>
 some (r5', 0))) := by kernel_rfl
theorem S43_run (n : Nat × Nat) (xs : pksDen pk43) : S43 n xs.1 xs.2.1 xs.2.2.1 = runG (E43 n) noScope c43 an43 (rtG rk43) (fun _ _ => none) (rtG rk43) (st0 pk43 xs Tryd.f43.ntmps) := by kernel_rfl
noncomputable def P43 (n : Nat × Nat) := phiOf pk43 rk43 (fun xs => S43 n xs.1 xs.2.1 xs.2.2.1)
theorem call43 : CallOK Tryd.prog 43 := callOK_of Tryd.func43 (by kernel_rfl) (by kernel_rfl)
theorem env43 (n : Nat × Nat) : EnvOK Tryd.prog (E43 n) := envOK0 (consPhi_ok (FC27 n) call27 (consPhi_ok (FC72 n) call72 (consPhi_ok (FC88 n) call88 noPhi_ok))) rfl rfl
theorem par43 (n : Nat × Nat) : EnvPar (E43 n) := envPar0 (consPhi_par phiOf_Par1 (consPhi_par phiOf_Par1 (consPhi_par phiOf_Par1 noPhi_par))) rfl
theorem FC43 (n : Nat × Nat) : FCs Tryd.prog 43 (P43 n) := phiOf_FCs fun xs r h vs hv => FC.of_runG tabOK eqsOK (env43 n) (par43 n) mixed (fun _ p _ => noScope_ok p.1 p.2) Tryd.func43 (c := c43) (an := an43) (pks := pk43) (rks := rk43) (by kernel_rfl) (by kernel_rfl) hv ((S43_run n xs).symm.trans h)
abbrev R67 := Int
noncomputable def c67 : Code := bodyOf Tryd.f67
noncomputable def an67 : Ann := (.s .l (.s .l (.s (.s .l (.j [3] (.j [0, 3, 4] (.s (.s .l (.j [0, 3, 4] .l .l)) (.s (.j [0, 3, 4] .l .l) .l)) .l) .l)) .l)))
def pk67 : List PK := [.c (.sl (.int .i64))]
def rk67 : List RK := [.c (.int .i64) 2]
noncomputable def rt67 (st : St) : Option R67 := rtG rk67 st
noncomputable def E67 (n : Nat × Nat) : Env := { T := tab, phi := noPhi, eff := fun _ => false, fuel := n.1, hold := n.2 }
noncomputable def kq67_1 (n : Nat × Nat) : St → Option R67 := run (E67 n) (cB (cB (cB c67))) (Ann.snd (Ann.snd (Ann.snd an67))) rt67 (fun _ _ => none) rt67
noncomputable def xb67_3 (n : Nat × Nat) : Nat → St → Option R67 := fun j s => bif Nat.beq j 0 then normC [3] s (kq67_1 n) else (fun _ _ => none) j s
noncomputable def F67_4 (n : Nat × Nat) : (St → Option R67) → St → Option R67 := fun K s => run (E67 n) (cA (cA (cB (cA (cB (cB c67)))))) (Ann.fst (Ann.fst (Ann.snd (Ann.fst (Ann.snd (Ann.snd an67)))))) (fun s => normC [0, 3, 4] s K) (xb67_3 n) rt67 s
noncomputable def L67_1 (n : Nat × Nat) (m : Nat) (plan0 : List Int) (v3 : Int) (i4 : Int) : Option R67 := loopN (F67_4 n) m { tm := [.c (.sl (.int .i64) plan0 false), uu, uu, .c (.int .i64 v3), .c (.int .i64 i4), uu, uu, uu, uu, uu, uu, uu, uu, uu, uu, uu, uu, uu, uu], hp := emp }
theorem L67_1_eq (n : Nat × Nat) (m1 : Nat) (plan0 : List Int) (v3 : Int) (i4 : Int) : L67_1 n (m1 + 1) plan0 v3 i4 =
 (bif decide (i4 < (plan0.length : Int)) then (idx plan0 i4).bind fun x1' =>
      L67_1 n m1 plan0 (if (wr .i64 (x1' + 1)) > v3 then (wr .i64 (x1' + 1)) else v3) (wr .i64 (i4 + 1))
 else some v3) := by kernel_rfl
noncomputable def S67 (n : Nat × Nat) (plan0 : List Int) : Option R67 := run (E67 n) c67 an67 rt67 (fun _ _ => none) rt67 { tm := [.c (.sl (.int .i64) plan0 false), uu, uu, uu, uu, uu, uu, uu, uu, uu, uu, uu, uu, uu, uu, uu, uu, uu, uu], hp := emp }
theorem S67_eq (n : Nat × Nat) (plan0 : List Int) : S67 n plan0 =
    L67_1 n n.1 plan0 0 0 := by kernel_rfl
theorem S67_run (n : Nat × Nat) (xs : pksDen pk67) : S67 n xs.1 = runG (E67 n) noScope c67 an67 (rtG rk67) (fun _ _ => none) (rtG rk67) (st0 pk67 xs Tryd.f67.ntmps) := by kernel_rfl
noncomputable def P67 (n : Nat × Nat) := phiOf pk67 rk67 (fun xs => S67 n xs.1)
theorem call67 : CallOK Tryd.prog 67 := callOK_of Tryd.func67 (by kernel_rfl) (by kernel_rfl)
theorem env67 (n : Nat × Nat) : EnvOK Tryd.prog (E67 n) := envOK0 noPhi_ok rfl rfl
theorem par67 (n : Nat × Nat) : EnvPar (E67 n) := envPar0 noPhi_par rfl
theorem FC67 (n : Nat × Nat) : FCs Tryd.prog 67 (P67 n) := phiOf_FCs fun xs r h vs hv => FC.of_runG tabOK eqsOK (env67 n) (par67 n) mixed (fun _ p _ => noScope_ok p.1 p.2) Tryd.func67 (c := c67) (an := an67) (pks := pk67) (rks := rk67) (by kernel_rfl) (by kernel_rfl) hv ((S67_run n xs).symm.trans h)
abbrev R68 := Int
noncomputable def c68 : Code := bodyOf Tryd.f68
noncomputable def an68 : Ann := (.s .l (.s .l (.s (.s .l (.j [7] (.j [0, 1, 2, 7, 8] (.s (.s .l (.j [0, 1, 2, 7, 8] .l .l)) (.j [] (.j [0, 1, 2, 7, 8] (.s .l (.j [0, 1, 2, 7, 8] .l .l)) .l) .l)) .l) .l)) .l)))
def pk68 : List PK := [.c (.sl (.int .i64)), .c (.sl (.int .i64)), .c (.int .i64)]
def rk68 : List RK := [.c (.int .i64) 6]
noncomputable def rt68 (st : St) : Option R68 := rtG rk68 st
noncomputable def E68 (n : Nat × Nat) : Env := { T := tab, phi := noPhi, eff := fun _ => false, fuel := n.1, hold := n.2 }
noncomputable def kq68_1 (n : Nat × Nat) : St → Option R68 := run (E68 n) (cB (cB (cB c68))) (Ann.snd (Ann.snd (Ann.snd an68))) rt68 (fun _ _ => none) rt68
noncomputable def xb68_3 (n : Nat × Nat) : Nat → St → Option R68 := fun j s => bif Nat.beq j 0 then normC [7] s (kq68_1 n) else (fun _ _ => none) j s
noncomputable def F68_4 (n : Nat × Nat) : (St → Option R68) → St → Option R68 := fun K s => run (E68 n) (cA (cA (cB (cA (cB (cB c68)))))) (Ann.fst (Ann.fst (Ann.snd (Ann.fst (Ann.snd (Ann.snd an68)))))) (fun s => normC [0, 1, 2, 7, 8] s K) (xb68_3 n) rt68 s
noncomputable def kq68_7 (n : Nat × Nat) (m1 : Nat) : St → Option R68 := run (E68 n) (cB (cB (cA (cA (cB (cA (cB (cB c68)))))))) (Ann.snd (Ann.snd (Ann.fst (Ann.fst (Ann.snd (Ann.fst (Ann.snd (Ann.snd an68)))))))) (fun s => normC [0, 1, 2, 7, 8] s (loopN (F68_4 n) m1)) (xb68_3 n) rt68
noncomputable def L68_1 (n : Nat × Nat) (m : Nat) (pieces0 : List Int) (plan1 : List Int) (sheet2 : Int) (v7 : Int) (i8 : Int) : Option R68 := loopN (F68_4 n) m { tm := [.c (.sl (.int .i64) pieces0 false), .c (.sl (.int .i64) plan1 false), .c (.int .i64 sheet2), uu, uu, uu, uu, .c (.int .i64 v7), .c (.int .i64 i8), uu, uu, uu, uu, uu, uu, uu, uu, uu, uu, uu, uu, uu, uu, uu, uu, uu, uu, uu], hp := emp }
noncomputable def L68_2 (n : Nat × Nat) (m1 : Nat) (pieces0 : List Int) (plan1 : List Int) (sheet2 : Int) (v7 : Int) (i8 : Int) : Option R68 := loopN (fun _ => (kq68_7 n m1)) n.2 { tm := [.c (.sl (.int .i64) pieces0 false), .c (.sl (.int .i64) plan1 false), .c (.int .i64 sheet2), uu, uu, uu, uu, .c (.int .i64 v7), .c (.int .i64 i8), uu, uu, uu, uu, uu, uu, uu, uu, uu, uu, uu, uu, uu, uu, uu, uu, uu, uu, uu], hp := emp }
theorem L68_1_eq (n : Nat × Nat) (m1 : Nat) (pieces0 : List Int) (plan1 : List Int) (sheet2 : Int) (v7 : Int) (i8 : Int) : L68_1 n (m1 + 1) pieces0 plan1 sheet2 v7 i8 =
 (bif decide (i8 < (plan1.length : Int)) then (idx plan1 i8).bind fun x1' =>
 (bif (x1' == sheet2) then (idx pieces0 i8).bind fun x2' =>
        L68_2 n m1 pieces0 plan1 sheet2 (wr .i64 (v7 + x2')) i8
 else L68_2 n m1 pieces0 plan1 sheet2 v7 i8)
 else some v7) := by kernel_rfl
theorem L68_2_raw (n : Nat × Nat) (m1 : Nat) (pieces0 : List Int) (plan1 : List Int) (sheet2 : Int) (v7 : Int) (i8 : Int) : (kq68_7 n m1) { tm := [.c (.sl (.int .i64) pieces0 false), .c (.sl (.int .i64) plan1 false), .c (.int .i64 sheet2), uu, uu, uu, uu, .c (.int .i64 v7), .c (.int .i64 i8), uu, uu, uu, uu, uu, uu, uu, uu, uu, uu, uu, uu, uu, uu, uu, uu, uu, uu, uu], hp := emp } =
    L68_1 n m1 pieces0 plan1 sheet2 v7 (wr .i64 (i8 + 1)) := by kernel_rfl
noncomputable def S68 (n : Nat × Nat) (pieces0 : List Int) (plan1 : List Int) (sheet2 : Int) : Option R68 := run (E68 n) c68 an68 rt68 (fun _ _ => none) rt68 { tm := [.c (.sl (.int .i64) pieces0 false), .c (.sl (.int .i64) plan1 false), .c (.int .i64 sheet2), uu, uu, uu, uu, uu, uu, uu, uu, uu, uu, uu, uu, uu, uu, uu, uu, uu, uu, uu, uu, uu, uu, uu, uu, uu], hp := emp }
theorem S68_eq (n : Nat × Nat) (pieces0 : List Int) (plan1 : List Int) (sheet2 : Int) : S68 n pieces0 plan1 sheet2 =
    L68_1 n n.1 pieces0 plan1 sheet2 0 0 := by kernel_rfl
theorem S68_run (n : Nat × Nat) (xs : pksDen pk68) : S68 n xs.1 xs.2.1 xs.2.2.1 = runG (E68 n) noScope c68 an68 (rtG rk68) (fun _ _ => none) (rtG rk68) (st0 pk68 xs Tryd.f68.ntmps) := by kernel_rfl
noncomputable def P68 (n : Nat × Nat) := phiOf pk68 rk68 (fun xs => S68 n xs.1 xs.2.1 xs.2.2.1)
theorem call68 : CallOK Tryd.prog 68 := callOK_of Tryd.func68 (by kernel_rfl) (by kernel_rfl)
theorem env68 (n : Nat × Nat) : EnvOK Tryd.prog (E68 n) := envOK0 noPhi_ok rfl rfl
theorem par68 (n : Nat × Nat) : EnvPar (E68 n) := envPar0 noPhi_par rfl
theorem FC68 (n : Nat × Nat) : FCs Tryd.prog 68 (P68 n) := phiOf_FCs fun xs r h vs hv => FC.of_runG tabOK eqsOK (env68 n) (par68 n) mixed (fun _ p _ => noScope_ok p.1 p.2) Tryd.func68 (c := c68) (an := an68) (pks := pk68) (rks := rk68) (by kernel_rfl) (by kernel_rfl) hv ((S68_run n xs).symm.trans h)
abbrev R99 := List (List Int)
noncomputable def c99 : Code := bodyOf Tryd.f99
noncomputable def an99 : Ann := (.s .l (.s (.s .l (.j [0, 1, 2, 3, 24, 25, 26] .l .l)) (.s .l (.s (.s .l (.j [9] (.j [0, 1, 2, 3, 9, 10, 24, 25, 26] (.s (.s .l (.j [0, 1, 2, 3, 9, 10, 24, 25, 26] .l .l)) (.j [] (.j [0, 1, 2, 3, 9, 10, 24, 25, 26] (.s .l (.s .l (.j [0, 1, 2, 3, 9, 10, 24, 25, 26] .l .l))) .l) .l)) .l) .l)) .l))))
def pk99 : List PK := [.c (.int .i64), .c (.sl (.int .i64)), .c (.sl (.int .i64)), .c (.int .i64)]
def rk99 : List RK := [.own (.sl (.int .i64)) 8]
noncomputable def rt99 (st : St) : Option R99 := rtG rk99 st
noncomputable def E99 (n : Nat × Nat) (SS : Int → List Int → List Int → Int → Option R99) : Env := { T := tab, phi := (consPhi 99 (fun _ => true) (phiOf pk99 rk99 (fun xs => SS xs.1 xs.2.1 xs.2.2.1 xs.2.2.2.1)) (consPhi 67 (fun _ => true) (P67 n) (consPhi 68 (fun _ => true) (P68 n) noPhi))), eff := fun g => Nat.beq g 99, fuel := n.1, hold := n.2 }
noncomputable def kq99_3 (n : Nat × Nat) (SS : Int → List Int → List Int → Int → Option R99) : St → Option R99 := run (E99 n SS) (cB (cB (cB (cB c99)))) (Ann.snd (Ann.snd (Ann.snd (Ann.snd an99)))) rt99 (fun _ _ => none) rt99
noncomputable def xb99_5 (n : Nat × Nat) (SS : Int → List Int → List Int → Int → Option R99) : Nat → St → Option R99 := fun j s => bif Nat.beq j 0 then normC [9] s (kq99_3 n SS) else (fun _ _ => none) j s
noncomputable def F99_6 (n : Nat × Nat) (SS : Int → List Int → List Int → Int → Option R99) : (St → Option R99) → St → Option R99 := fun K s => run (E99 n SS) (cA (cA (cB (cA (cB (cB (cB c99))))))) (Ann.fst (Ann.fst (Ann.snd (Ann.fst (Ann.snd (Ann.snd (Ann.snd an99))))))) (fun s => normC [0, 1, 2, 3, 9, 10, 24, 25, 26] s K) (xb99_5 n SS) rt99 s
noncomputable def kq99_9 (n : Nat × Nat) (SS : Int → List Int → List Int → Int → Option R99) (m1 : Nat) : St → Option R99 := run (E99 n SS) (cB (cB (cA (cA (cB (cA (cB (cB (cB c99))))))))) (Ann.snd (Ann.snd (Ann.fst (Ann.fst (Ann.snd (Ann.fst (Ann.snd (Ann.snd (Ann.snd an99))))))))) (fun s => normC [0, 1, 2, 3, 9, 10, 24, 25, 26] s (loopN (F99_6 n SS) m1)) (xb99_5 n SS) rt99
noncomputable def L99_1 (n : Nat × Nat) (SS : Int → List Int → List Int → Int → Option R99) (m : Nat) (size0 : Int) (pieces1 : List Int) (begun2 : List Int) (most3 : Int) (s10 : Int) (out9 : List (List Int)) : Option R99 := loopN (F99_6 n SS) m { tm := [.c (.int .i64 size0), .c (.sl (.int .i64) pieces1 false), .c (.sl (.int .i64) begun2 false), .c (.int .i64 most3), uu, uu, uu, uu, uu, .own 9 none false, .c (.int .i64 s10), uu, uu, uu, uu, uu, uu, uu, uu, uu, uu, uu, uu, uu, uu, uu, uu, uu, uu, uu, uu, uu, uu, uu, uu, uu, uu, uu, uu, uu, uu, uu, uu, uu, uu, uu, uu, uu, uu, uu], hp := (upd emp 9 (.arr (.sl (.int .i64)) out9 false)) }
noncomputable def L99_2 (n : Nat × Nat) (SS : Int → List Int → List Int → Int → Option R99) (m1 : Nat) (size0 : Int) (pieces1 : List Int) (begun2 : List Int) (most3 : Int) (s10 : Int) (out9 : List (List Int)) : Option R99 := loopN (fun _ => (kq99_9 n SS m1)) n.2 { tm := [.c (.int .i64 size0), .c (.sl (.int .i64) pieces1 false), .c (.sl (.int .i64) begun2 false), .c (.int .i64 most3), uu, uu, uu, uu, uu, .own 9 none false, .c (.int .i64 s10), uu, uu, uu, uu, uu, uu, uu, uu, uu, uu, uu, uu, uu, uu, uu, uu, uu, uu, uu, uu, uu, uu, uu, uu, uu, uu, uu, uu, uu, uu, uu, uu, uu, uu, uu, uu, uu, uu, uu], hp := (upd emp 9 (.arr (.sl (.int .i64)) out9 false)) }
theorem L99_1_eq (n : Nat × Nat) (SS : Int → List Int → List Int → Int → Option R99) (m1 : Nat) (size0 : Int) (pieces1 : List Int) (begun2 : List Int) (most3 : Int) (s10 : Int) (out9 : List (List Int)) : L99_1 n SS (m1 + 1) size0 pieces1 begun2 most3 s10 out9 =
 (S67 n begun2).bind fun r1' =>
 ((bif (decide (s10 ≤ r1') == true) then some (decide (s10 < most3))
 else some false)).bind fun b2' =>
 (bif b2' then (bif decide (([] : List Int).length + begun2.length ≤ lim) then (bif decide (([] ++ begun2).length + [s10].length ≤ lim) then (S68 n pieces1 (([] ++ begun2) ++ [s10]) s10).bind fun r3' =>
 (bif decide (r3' ≤ size0) then (SS size0 pieces1 (([] ++ begun2) ++ [s10]) most3).bind fun r4' =>
 (bif decide (out9.length + r4'.length ≤ lim) then L99_2 n SS m1 size0 pieces1 begun2 most3 s10 (out9 ++ r4')
 else none)
 else L99_2 n SS m1 size0 pieces1 begun2 most3 s10 out9)
 else none)
 else none)
 else some out9) := by kernel_rfl
theorem L99_2_raw (n : Nat × Nat) (SS : Int → List Int → List Int → Int → Option R99) (m1 : Nat) (size0 : Int) (pieces1 : List Int) (begun2 : List Int) (most3 : Int) (s10 : Int) (out9 : List (List Int)) : (kq99_9 n SS m1) { tm := [.c (.int .i64 size0), .c (.sl (.int .i64) pieces1 false), .c (.sl (.int .i64) begun2 false), .c (.int .i64 most3), uu, uu, uu, uu, uu, .own 9 none false, .c (.int .i64 s10), uu, uu, uu, uu, uu, uu, uu, uu, uu, uu, uu, uu, uu, uu, uu, uu, uu, uu, uu, uu, uu, uu, uu, uu, uu, uu, uu, uu, uu, uu, uu, uu, uu, uu, uu, uu, uu, uu, uu], hp := (upd emp 9 (.arr (.sl (.int .i64)) out9 false)) } =
    L99_1 n SS m1 size0 pieces1 begun2 most3 (wr .i64 (s10 + 1)) out9 := by kernel_rfl
noncomputable def B99 (n : Nat × Nat) (SS : Int → List Int → List Int → Int → Option R99) (size0 : Int) (pieces1 : List Int) (begun2 : List Int) (most3 : Int) : Option R99 := run (E99 n SS) c99 an99 rt99 (fun _ _ => none) rt99 { tm := [.c (.int .i64 size0), .c (.sl (.int .i64) pieces1 false), .c (.sl (.int .i64) begun2 false), .c (.int .i64 most3), uu, uu, uu, uu, uu, uu, uu, uu, uu, uu, uu, uu, uu, uu, uu, uu, uu, uu, uu, uu, uu, uu, uu, uu, uu, uu, uu, uu, uu, uu, uu, uu, uu, uu, uu, uu, uu, uu, uu, uu, uu, uu, uu, uu, uu, uu], hp := emp }
theorem B99_eq (n : Nat × Nat) (SS : Int → List Int → List Int → Int → Option R99) (size0 : Int) (pieces1 : List Int) (begun2 : List Int) (most3 : Int) : B99 n SS size0 pieces1 begun2 most3 =
 (bif ((begun2.length : Int) == (pieces1.length : Int)) then some [begun2]
 else L99_1 n SS n.1 size0 pieces1 begun2 most3 0 []) := by kernel_rfl
noncomputable def T99 (n : Nat × Nat) : Nat → Int → List Int → List Int → Int → Option R99
  | 0 => fun _ _ _ _ => none
  | d + 1 => B99 n (T99 n d)
theorem T99_eq (n : Nat × Nat) (d : Nat) (size0 : Int) (pieces1 : List Int) (begun2 : List Int) (most3 : Int) : T99 n (d + 1) size0 pieces1 begun2 most3 = B99 n (T99 n d) size0 pieces1 begun2 most3 := rfl
noncomputable def S99 (n : Nat × Nat) (size0 : Int) (pieces1 : List Int) (begun2 : List Int) (most3 : Int) : Option R99 := T99 n n.1 size0 pieces1 begun2 most3
theorem B99_run (n : Nat × Nat) (SS : Int → List Int → List Int → Int → Option R99) (xs : pksDen pk99) : B99 n SS xs.1 xs.2.1 xs.2.2.1 xs.2.2.2.1 = runG (E99 n SS) noScope c99 an99 (rtG rk99) (fun _ _ => none) (rtG rk99) (st0 pk99 xs Tryd.f99.ntmps) := by kernel_rfl
noncomputable def P99 (n : Nat × Nat) := phiOf pk99 rk99 (fun xs => S99 n xs.1 xs.2.1 xs.2.2.1 xs.2.2.2.1)
theorem call99 : CallOK Tryd.prog 99 := callOK_of Tryd.func99 (by kernel_rfl) (by kernel_rfl)
theorem env99 (n : Nat × Nat) (SS : Int → List Int → List Int → Int → Option R99) (hSS : FCs Tryd.prog 99 (phiOf pk99 rk99 (fun xs => SS xs.1 xs.2.1 xs.2.2.1 xs.2.2.2.1))) : EnvOK Tryd.prog (E99 n SS) := envOK0 (consPhi_ok hSS call99 (consPhi_ok (FC67 n) call67 (consPhi_ok (FC68 n) call68 noPhi_ok))) rfl rfl
theorem par99 (n : Nat × Nat) (SS : Int → List Int → List Int → Int → Option R99) : EnvPar (E99 n SS) := envPar0 (consPhi_par phiOf_Par1 (consPhi_par phiOf_Par1 (consPhi_par phiOf_Par1 noPhi_par))) rfl
theorem FCT99 (n : Nat × Nat) : ∀ d : Nat, FCs Tryd.prog 99 (phiOf pk99 rk99 (fun xs => T99 n d xs.1 xs.2.1 xs.2.2.1 xs.2.2.2.1))
  | 0 => phiOf_FCs fun xs r h => by cases h
  | d + 1 => phiOf_FCs fun xs r h vs hv => FC.of_runG tabOK eqsOK (env99 n (T99 n d) (FCT99 n d)) (par99 n (T99 n d)) mixed (fun _ p _ => noScope_ok p.1 p.2) Tryd.func99 (c := c99) (an := an99) (pks := pk99) (rks := rk99) (by kernel_rfl) (by kernel_rfl) hv ((B99_run n (T99 n d) xs).symm.trans h)
theorem FC99 (n : Nat × Nat) : FCs Tryd.prog 99 (P99 n) := FCT99 n n.1
abbrev R83 := List (List Int)
noncomputable def c83 : Code := bodyOf Tryd.f83
noncomputable def an83 : Ann := (.s .l (.s .l (.j [4] (.j [0, 1, 5] (.s (.j [0, 1, 5] (.s .l (.s .l (.j [0, 1, 5] .l .l))) .l) .l) .l) .l)))
def pk83 : List PK := [.c (.int .i64), .c (.sl (.int .i64))]
def rk83 : List RK := [.own (.sl (.int .i64)) 4]
noncomputable def rt83 (st : St) : Option R83 := rtG rk83 st
noncomputable def E83 (n : Nat × Nat) : Env := { T := tab, phi := (consPhi 99 (fun _ => true) (P99 n) noPhi), eff := fun g => Nat.beq g 99, fuel := n.1, hold := n.2 }
noncomputable def xb83_2 (n : Nat × Nat) : Nat → St → Option R83 := fun j s => bif Nat.beq j 0 then normC [4] s rt83 else (fun _ _ => none) j s
noncomputable def F83_3 (n : Nat × Nat) : (St → Option R83) → St → Option R83 := fun K s => run (E83 n) (cA (cA (cB (cB c83)))) (Ann.fst (Ann.fst (Ann.snd (Ann.snd an83)))) (fun s => normC [0, 1, 5] s K) (xb83_2 n) rt83 s
noncomputable def L83_1 (n : Nat × Nat) (m : Nat) (size0 : Int) (pieces1 : List Int) (most5 : Int) : Option R83 := loopN (F83_3 n) m { tm := [.c (.int .i64 size0), .c (.sl (.int .i64) pieces1 false), uu, uu, uu, .c (.int .i64 most5), uu, uu, uu, uu, uu, uu, uu, uu, uu, uu, uu], hp := emp }
theorem L83_1_eq (n : Nat × Nat) (m1 : Nat) (size0 : Int) (pieces1 : List Int) (most5 : Int) : L83_1 n (m1 + 1) size0 pieces1 most5 =
 (S99 n size0 pieces1 [] most5).bind fun r1' =>
 (bif decide ((r1'.length : Int) > 0) then some r1'
 else L83_1 n m1 size0 pieces1 (wr .i64 (most5 + 1))) := by kernel_rfl
noncomputable def S83 (n : Nat × Nat) (size0 : Int) (pieces1 : List Int) : Option R83 := run (E83 n) c83 an83 rt83 (fun _ _ => none) rt83 { tm := [.c (.int .i64 size0), .c (.sl (.int .i64) pieces1 false), uu, uu, uu, uu, uu, uu, uu, uu, uu, uu, uu, uu, uu, uu, uu], hp := emp }
theorem S83_eq (n : Nat × Nat) (size0 : Int) (pieces1 : List Int) : S83 n size0 pieces1 =
    L83_1 n n.1 size0 pieces1 0 := by kernel_rfl
theorem S83_run (n : Nat × Nat) (xs : pksDen pk83) : S83 n xs.1 xs.2.1 = runG (E83 n) noScope c83 an83 (rtG rk83) (fun _ _ => none) (rtG rk83) (st0 pk83 xs Tryd.f83.ntmps) := by kernel_rfl
noncomputable def P83 (n : Nat × Nat) := phiOf pk83 rk83 (fun xs => S83 n xs.1 xs.2.1)
theorem call83 : CallOK Tryd.prog 83 := callOK_of Tryd.func83 (by kernel_rfl) (by kernel_rfl)
theorem env83 (n : Nat × Nat) : EnvOK Tryd.prog (E83 n) := envOK0 (consPhi_ok (FC99 n) call99 noPhi_ok) rfl rfl
theorem par83 (n : Nat × Nat) : EnvPar (E83 n) := envPar0 (consPhi_par phiOf_Par1 noPhi_par) rfl
theorem FC83 (n : Nat × Nat) : FCs Tryd.prog 83 (P83 n) := phiOf_FCs fun xs r h vs hv => FC.of_runG tabOK eqsOK (env83 n) (par83 n) mixed (fun _ p _ => noScope_ok p.1 p.2) Tryd.func83 (c := c83) (an := an83) (pks := pk83) (rks := rk83) (by kernel_rfl) (by kernel_rfl) hv ((S83_run n xs).symm.trans h)
abbrev R35 := Int × Int
noncomputable def c35 : Code := bodyOf Tryd.f35
noncomputable def an35 : Ann := (.s .l (.s .l (.s (.s .l (.j [0, 1] .l .l)) .l)))
def pk35 : List PK := [.c (.int .i64), .c (.sl (.int .i64))]
def rk35 : List RK := [.c (.int .i64) 4, .c (.int .i64) 5]
noncomputable def rt35 (st : St) : Option R35 := rtG rk35 st
noncomputable def E35 (n : Nat × Nat) : Env := { T := tab, phi := (consPhi 27 (fun _ => true) (P27 n) (consPhi 67 (fun _ => true) (P67 n) (consPhi 83 (fun _ => true) (P83 n) noPhi))), eff := fun g => Nat.beq g 83, fuel := n.1, hold := n.2 }
noncomputable def S35 (n : Nat × Nat) (size0 : Int) (pieces1 : List Int) : Option R35 := run (E35 n) c35 an35 rt35 (fun _ _ => none) rt35 { tm := [.c (.int .i64 size0), .c (.sl (.int .i64) pieces1 false), uu, uu, uu, uu, uu, uu, uu, uu, uu, uu, uu, uu, uu, uu, uu, uu, uu], hp := emp }
theorem S35_eq (n : Nat × Nat) (size0 : Int) (pieces1 : List Int) : S35 n size0 pieces1 =
 (S27 n size0 pieces1).bind fun r1' =>
 (bif (r1' != 0) then some (0, r1')
 else (S83 n size0 pieces1).bind fun r2' =>
 (bif inB 0 r2'.length then (idx r2' 0).bind fun x3' =>
 (S67 n x3').bind fun r4' =>
 some (r4', 0)
 else none)) := by kernel_rfl
theorem S35_run (n : Nat × Nat) (xs : pksDen pk35) : S35 n xs.1 xs.2.1 = runG (E35 n) noScope c35 an35 (rtG rk35) (fun _ _ => none) (rtG rk35) (st0 pk35 xs Tryd.f35.ntmps) := by kernel_rfl
noncomputable def P35 (n : Nat × Nat) := phiOf pk35 rk35 (fun xs => S35 n xs.1 xs.2.1)
theorem call35 : CallOK Tryd.prog 35 := callOK_of Tryd.func35 (by kernel_rfl) (by kernel_rfl)
theorem env35 (n : Nat × Nat) : EnvOK Tryd.prog (E35 n) := envOK0 (consPhi_ok (FC27 n) call27 (consPhi_ok (FC67 n) call67 (consPhi_ok (FC83 n) call83 noPhi_ok))) rfl rfl
theorem par35 (n : Nat × Nat) : EnvPar (E35 n) := envPar0 (consPhi_par phiOf_Par1 (consPhi_par phiOf_Par1 (consPhi_par phiOf_Par1 noPhi_par))) rfl
theorem FC35 (n : Nat × Nat) : FCs Tryd.prog 35 (P35 n) := phiOf_FCs fun xs r h vs hv => FC.of_runG tabOK eqsOK (env35 n) (par35 n) mixed (fun _ p _ => noScope_ok p.1 p.2) Tryd.func35 (c := c35) (an := an35) (pks := pk35) (rks := rk35) (by kernel_rfl) (by kernel_rfl) hv ((S35_run n xs).symm.trans h)
abbrev R45 := Int × Int
noncomputable def c45 : Code := bodyOf Tryd.f45
noncomputable def an45 : Ann := (.s .l (.s .l (.s (.s .l (.j [0, 1, 6] .l .l)) (.s (.s .l (.j [] (.j [0, 1, 6, 8] (.s (.s .l (.j [0, 1, 6, 8] .l .l)) (.s (.j [0, 1, 6, 8] (.s .l (.j [0, 1, 6, 8] .l .l)) .l) .l)) .l) .l)) .l))))
def pk45 : List PK := [.c (.int .i64), .c (.sl (.int .i64))]
def rk45 : List RK := [.c (.int .i64) 4, .c (.int .i64) 5]
noncomputable def rt45 (st : St) : Option R45 := rtG rk45 st
noncomputable def E45 (n : Nat × Nat) : Env := { T := tab, phi := (consPhi 35 (fun _ => true) (P35 n) (consPhi 88 (fun _ => true) (P88 n) noPhi)), eff := fun _ => false, fuel := n.1, hold := n.2 }
noncomputable def kq45_3 (n : Nat × Nat) : St → Option R45 := run (E45 n) (cB (cB (cB (cB c45)))) (Ann.snd (Ann.snd (Ann.snd (Ann.snd an45)))) rt45 (fun _ _ => none) rt45
noncomputable def xb45_5 (n : Nat × Nat) : Nat → St → Option R45 := fun j s => bif Nat.beq j 0 then normC [] s (kq45_3 n) else (fun _ _ => none) j s
noncomputable def F45_6 (n : Nat × Nat) : (St → Option R45) → St → Option R45 := fun K s => run (E45 n) (cA (cA (cB (cA (cB (cB (cB c45))))))) (Ann.fst (Ann.fst (Ann.snd (Ann.fst (Ann.snd (Ann.snd (Ann.snd an45))))))) (fun s => normC [0, 1, 6, 8] s K) (xb45_5 n) rt45 s
noncomputable def L45_1 (n : Nat × Nat) (m : Nat) (size0 : Int) (pieces1 : List Int) (v6 : Int) (k8 : Int) : Option R45 := loopN (F45_6 n) m { tm := [.c (.int .i64 size0), .c (.sl (.int .i64) pieces1 false), uu, uu, uu, uu, .c (.int .i64 v6), uu, .c (.int .i64 k8), uu, uu, uu, uu, uu, uu, uu, uu, uu, uu, uu, uu, uu, uu, uu, uu, uu, uu, uu, uu, uu, uu], hp := emp }
theorem L45_1_eq (n : Nat × Nat) (m1 : Nat) (size0 : Int) (pieces1 : List Int) (v6 : Int) (k8 : Int) : L45_1 n (m1 + 1) size0 pieces1 v6 k8 =
 (bif 2 == 0 then none
 else (bif decide (k8 ≤ wr .i64 (Int.tdiv size0 2)) then (S88 n size0 pieces1 k8).bind fun r2' =>
 (bif (r2' == v6) then some (k8, 0)
 else L45_1 n m1 size0 pieces1 v6 (wr .i64 (k8 + 1)))
 else some (0, 12))) := by kernel_rfl
noncomputable def S45 (n : Nat × Nat) (size0 : Int) (pieces1 : List Int) : Option R45 := run (E45 n) c45 an45 rt45 (fun _ _ => none) rt45 { tm := [.c (.int .i64 size0), .c (.sl (.int .i64) pieces1 false), uu, uu, uu, uu, uu, uu, uu, uu, uu, uu, uu, uu, uu, uu, uu, uu, uu, uu, uu, uu, uu, uu, uu, uu, uu, uu, uu, uu, uu], hp := emp }
theorem S45_eq (n : Nat × Nat) (size0 : Int) (pieces1 : List Int) : S45 n size0 pieces1 =
 (S35 n size0 pieces1).bind fun r1' =>
 (bif (r1'.2 != 0) then some (0, r1'.2)
 else L45_1 n n.1 size0 pieces1 r1'.1 0) := by kernel_rfl
theorem S45_run (n : Nat × Nat) (xs : pksDen pk45) : S45 n xs.1 xs.2.1 = runG (E45 n) noScope c45 an45 (rtG rk45) (fun _ _ => none) (rtG rk45) (st0 pk45 xs Tryd.f45.ntmps) := by kernel_rfl
noncomputable def P45 (n : Nat × Nat) := phiOf pk45 rk45 (fun xs => S45 n xs.1 xs.2.1)
theorem call45 : CallOK Tryd.prog 45 := callOK_of Tryd.func45 (by kernel_rfl) (by kernel_rfl)
theorem env45 (n : Nat × Nat) : EnvOK Tryd.prog (E45 n) := envOK0 (consPhi_ok (FC35 n) call35 (consPhi_ok (FC88 n) call88 noPhi_ok)) rfl rfl
theorem par45 (n : Nat × Nat) : EnvPar (E45 n) := envPar0 (consPhi_par phiOf_Par1 (consPhi_par phiOf_Par1 noPhi_par)) rfl
theorem FC45 (n : Nat × Nat) : FCs Tryd.prog 45 (P45 n) := phiOf_FCs fun xs r h vs hv => FC.of_runG tabOK eqsOK (env45 n) (par45 n) mixed (fun _ p _ => noScope_ok p.1 p.2) Tryd.func45 (c := c45) (an := an45) (pks := pk45) (rks := rk45) (by kernel_rfl) (by kernel_rfl) hv ((S45_run n xs).symm.trans h)
abbrev R29 := Int
noncomputable def c29 : Code := bodyOf Tryd.f29
noncomputable def an29 : Ann := (.s .l (.s .l (.s (.s .l (.j [0, 1, 2, 7, 27, 28, 51, 52] .l .l)) (.s (.s .l (.j [0, 1, 2, 7, 51, 52] (.j [0, 1, 2, 7, 8, 27, 28, 51, 52] (.s (.s .l (.j [0, 1, 2, 7, 8, 27, 28, 51, 52] .l .l)) (.j [] (.j [0, 1, 2, 7, 8, 27, 28, 51, 52] (.s .l (.j [0, 1, 2, 7, 8, 27, 28, 51, 52] .l (.s .l (.j [0, 1, 2, 7, 8, 27, 28, 51, 52] .l .l)))) .l) .l)) .l) .l)) (.s (.s .l (.j [7] (.j [0, 1, 2, 7, 9, 51, 52] (.s (.s .l (.j [0, 1, 2, 7, 9, 51, 52] .l .l)) (.j [] (.j [0, 1, 2, 7, 9, 51, 52] (.s .l (.j [0, 1, 2, 7, 9, 51, 52] .l .l)) .l) .l)) .l) .l)) .l)))))
def pk29 : List PK := [.c (.int .i64), .c (.sl (.int .i64)), .c (.sl (.int .i64))]
def rk29 : List RK := [.c (.int .i64) 6]
noncomputable def rt29 (st : St) : Option R29 := rtG rk29 st
noncomputable def E29 (n : Nat × Nat) : Env := { T := tab, phi := (consPhi 27 (fun _ => true) (P27 n) (consPhi 67 (fun _ => true) (P67 n) (consPhi 68 (fun _ => true) (P68 n) noPhi))), eff := fun _ => false, fuel := n.1, hold := n.2 }
noncomputable def kq29_3 (n : Nat × Nat) : St → Option R29 := run (E29 n) (cB (cB (cB (cB c29)))) (Ann.snd (Ann.snd (Ann.snd (Ann.snd an29)))) rt29 (fun _ _ => none) rt29
noncomputable def xb29_5 (n : Nat × Nat) : Nat → St → Option R29 := fun j s => bif Nat.beq j 0 then normC [0, 1, 2, 7, 51, 52] s (kq29_3 n) else (fun _ _ => none) j s
noncomputable def F29_6 (n : Nat × Nat) : (St → Option R29) → St → Option R29 := fun K s => run (E29 n) (cA (cA (cB (cA (cB (cB (cB c29))))))) (Ann.fst (Ann.fst (Ann.snd (Ann.fst (Ann.snd (Ann.snd (Ann.snd an29))))))) (fun s => normC [0, 1, 2, 7, 8, 27, 28, 51, 52] s K) (xb29_5 n) rt29 s
noncomputable def kq29_9 (n : Nat × Nat) (m1 : Nat) : St → Option R29 := run (E29 n) (cB (cB (cA (cA (cB (cA (cB (cB (cB c29))))))))) (Ann.snd (Ann.snd (Ann.fst (Ann.fst (Ann.snd (Ann.fst (Ann.snd (Ann.snd (Ann.snd an29))))))))) (fun s => normC [0, 1, 2, 7, 8, 27, 28, 51, 52] s (loopN (F29_6 n) m1)) (xb29_5 n) rt29
noncomputable def kq29_14 (n : Nat × Nat) : St → Option R29 := run (E29 n) (cB (cB (cB (cB (cB c29))))) (Ann.snd (Ann.snd (Ann.snd (Ann.snd (Ann.snd an29))))) rt29 (fun _ _ => none) rt29
noncomputable def xb29_16 (n : Nat × Nat) : Nat → St → Option R29 := fun j s => bif Nat.beq j 2 then normC [7] s (kq29_14 n) else (fun _ _ => none) j s
noncomputable def F29_17 (n : Nat × Nat) : (St → Option R29) → St → Option R29 := fun K s => run (E29 n) (cA (cA (cB (cA (cB (cB (cB (cB c29)))))))) (Ann.fst (Ann.fst (Ann.snd (Ann.fst (Ann.snd (Ann.snd (Ann.snd (Ann.snd an29)))))))) (fun s => normC [0, 1, 2, 7, 9, 51, 52] s K) (xb29_16 n) rt29 s
noncomputable def kq29_20 (n : Nat × Nat) (m1 : Nat) : St → Option R29 := run (E29 n) (cB (cB (cA (cA (cB (cA (cB (cB (cB (cB c29)))))))))) (Ann.snd (Ann.snd (Ann.fst (Ann.fst (Ann.snd (Ann.fst (Ann.snd (Ann.snd (Ann.snd (Ann.snd an29)))))))))) (fun s => normC [0, 1, 2, 7, 9, 51, 52] s (loopN (F29_17 n) m1)) (xb29_16 n) rt29
noncomputable def L29_1 (n : Nat × Nat) (m : Nat) (size0 : Int) (pieces1 : List Int) (plan2 : List Int) (e7 : Int) (i8 : Int) : Option R29 := loopN (F29_6 n) m { tm := [.c (.int .i64 size0), .c (.sl (.int .i64) pieces1 false), .c (.sl (.int .i64) plan2 false), uu, uu, uu, uu, .c (.int .i64 e7), .c (.int .i64 i8), uu, uu, uu, uu, uu, uu, uu, uu, uu, uu, uu, uu, uu, uu, uu, uu, uu, uu, uu, uu, uu, uu, uu, uu, uu, uu, uu, uu, uu, uu, uu, uu, uu, uu, uu, uu, uu, uu, uu, uu, uu, uu, uu, uu, uu, uu, uu, uu, uu, uu, uu, uu, uu, uu, uu, uu, uu], hp := emp }
noncomputable def L29_2 (n : Nat × Nat) (m1 : Nat) (size0 : Int) (pieces1 : List Int) (plan2 : List Int) (e7 : Int) (i8 : Int) : Option R29 := loopN (fun _ => (kq29_9 n m1)) n.2 { tm := [.c (.int .i64 size0), .c (.sl (.int .i64) pieces1 false), .c (.sl (.int .i64) plan2 false), uu, uu, uu, uu, .c (.int .i64 e7), .c (.int .i64 i8), uu, uu, uu, uu, uu, uu, uu, uu, uu, uu, uu, uu, uu, uu, uu, uu, uu, uu, uu, uu, uu, uu, uu, uu, uu, uu, uu, uu, uu, uu, uu, uu, uu, uu, uu, uu, uu, uu, uu, uu, uu, uu, uu, uu, uu, uu, uu, uu, uu, uu, uu, uu, uu, uu, uu, uu, uu], hp := emp }
noncomputable def L29_3 (n : Nat × Nat) (m : Nat) (size0 : Int) (pieces1 : List Int) (plan2 : List Int) (e7 : Int) (i9 : Int) : Option R29 := loopN (F29_17 n) m { tm := [.c (.int .i64 size0), .c (.sl (.int .i64) pieces1 false), .c (.sl (.int .i64) plan2 false), uu, uu, uu, uu, .c (.int .i64 e7), uu, .c (.int .i64 i9), uu, uu, uu, uu, uu, uu, uu, uu, uu, uu, uu, uu, uu, uu, uu, uu, uu, uu, uu, uu, uu, uu, uu, uu, uu, uu, uu, uu, uu, uu, uu, uu, uu, uu, uu, uu, uu, uu, uu, uu, uu, uu, uu, uu, uu, uu, uu, uu, uu, uu, uu, uu, uu, uu, uu, uu], hp := emp }
noncomputable def L29_4 (n : Nat × Nat) (m1 : Nat) (size0 : Int) (pieces1 : List Int) (plan2 : List Int) (e7 : Int) (i9 : Int) : Option R29 := loopN (fun _ => (kq29_20 n m1)) n.2 { tm := [.c (.int .i64 size0), .c (.sl (.int .i64) pieces1 false), .c (.sl (.int .i64) plan2 false), uu, uu, uu, uu, .c (.int .i64 e7), uu, .c (.int .i64 i9), uu, uu, uu, uu, uu, uu, uu, uu, uu, uu, uu, uu, uu, uu, uu, uu, uu, uu, uu, uu, uu, uu, uu, uu, uu, uu, uu, uu, uu, uu, uu, uu, uu, uu, uu, uu, uu, uu, uu, uu, uu, uu, uu, uu, uu, uu, uu, uu, uu, uu, uu, uu, uu, uu, uu, uu], hp := emp }
theorem L29_1_eq (n : Nat × Nat) (m1 : Nat) (size0 : Int) (pieces1 : List Int) (plan2 : List Int) (e7 : Int) (i8 : Int) : L29_1 n (m1 + 1) size0 pieces1 plan2 e7 i8 =
 ((bif (decide (i8 < (plan2.length : Int)) == true) then some (e7 == 0)
 else some false)).bind fun b3' =>
 (bif b3' then (idx plan2 i8).bind fun x4' =>
 (bif decide (x4' < 0) then L29_2 n m1 size0 pieces1 plan2 2 i8
 else (idx plan2 i8).bind fun x5' =>
 (bif bounds none (some i8) none plan2.length then (S67 n (plan2.take (Int.toNat i8))).bind fun r6' =>
 (bif decide (x5' > r6') then L29_2 n m1 size0 pieces1 plan2 7 i8
 else L29_2 n m1 size0 pieces1 plan2 e7 i8)
 else none))
 else L29_3 n n.1 size0 pieces1 plan2 e7 0) := by kernel_rfl
theorem L29_2_raw (n : Nat × Nat) (m1 : Nat) (size0 : Int) (pieces1 : List Int) (plan2 : List Int) (e7 : Int) (i8 : Int) : (kq29_9 n m1) { tm := [.c (.int .i64 size0), .c (.sl (.int .i64) pieces1 false), .c (.sl (.int .i64) plan2 false), uu, uu, uu, uu, .c (.int .i64 e7), .c (.int .i64 i8), uu, uu, uu, uu, uu, uu, uu, uu, uu, uu, uu, uu, uu, uu, uu, uu, uu, uu, uu, uu, uu, uu, uu, uu, uu, uu, uu, uu, uu, uu, uu, uu, uu, uu, uu, uu, uu, uu, uu, uu, uu, uu, uu, uu, uu, uu, uu, uu, uu, uu, uu, uu, uu, uu, uu, uu, uu], hp := emp } =
    L29_1 n m1 size0 pieces1 plan2 e7 (wr .i64 (i8 + 1)) := by kernel_rfl
theorem L29_3_eq (n : Nat × Nat) (m1 : Nat) (size0 : Int) (pieces1 : List Int) (plan2 : List Int) (e7 : Int) (i9 : Int) : L29_3 n (m1 + 1) size0 pieces1 plan2 e7 i9 =
 ((bif (decide (i9 < (plan2.length : Int)) == true) then some (e7 == 0)
 else some false)).bind fun b7' =>
 (bif b7' then (idx plan2 i9).bind fun x8' =>
 (S68 n pieces1 plan2 x8').bind fun r9' =>
 (bif decide (r9' > size0) then L29_4 n m1 size0 pieces1 plan2 15 i9
 else L29_4 n m1 size0 pieces1 plan2 e7 i9)
 else some e7) := by kernel_rfl
theorem L29_4_raw (n : Nat × Nat) (m1 : Nat) (size0 : Int) (pieces1 : List Int) (plan2 : List Int) (e7 : Int) (i9 : Int) : (kq29_20 n m1) { tm := [.c (.int .i64 size0), .c (.sl (.int .i64) pieces1 false), .c (.sl (.int .i64) plan2 false), uu, uu, uu, uu, .c (.int .i64 e7), uu, .c (.int .i64 i9), uu, uu, uu, uu, uu, uu, uu, uu, uu, uu, uu, uu, uu, uu, uu, uu, uu, uu, uu, uu, uu, uu, uu, uu, uu, uu, uu, uu, uu, uu, uu, uu, uu, uu, uu, uu, uu, uu, uu, uu, uu, uu, uu, uu, uu, uu, uu, uu, uu, uu, uu, uu, uu, uu, uu, uu], hp := emp } =
    L29_3 n m1 size0 pieces1 plan2 e7 (wr .i64 (i9 + 1)) := by kernel_rfl
noncomputable def S29 (n : Nat × Nat) (size0 : Int) (pieces1 : List Int) (plan2 : List Int) : Option R29 := run (E29 n) c29 an29 rt29 (fun _ _ => none) rt29 { tm := [.c (.int .i64 size0), .c (.sl (.int .i64) pieces1 false), .c (.sl (.int .i64) plan2 false), uu, uu, uu, uu, uu, uu, uu, uu, uu, uu, uu, uu, uu, uu, uu, uu, uu, uu, uu, uu, uu, uu, uu, uu, uu, uu, uu, uu, uu, uu, uu, uu, uu, uu, uu, uu, uu, uu, uu, uu, uu, uu, uu, uu, uu, uu, uu, uu, uu, uu, uu, uu, uu, uu, uu, uu, uu, uu, uu, uu, uu, uu, uu], hp := emp }
theorem S29_eq (n : Nat × Nat) (size0 : Int) (pieces1 : List Int) (plan2 : List Int) : S29 n size0 pieces1 plan2 =
 (S27 n size0 pieces1).bind fun r1' =>
 ((bif ((r1' == 0) == true) then some ((plan2.length : Int) != (pieces1.length : Int))
 else some false)).bind fun b2' =>
 (bif b2' then L29_1 n n.1 size0 pieces1 plan2 5 0
 else L29_1 n n.1 size0 pieces1 plan2 r1' 0) := by kernel_rfl
theorem S29_run (n : Nat × Nat) (xs : pksDen pk29) : S29 n xs.1 xs.2.1 xs.2.2.1 = runG (E29 n) noScope c29 an29 (rtG rk29) (fun _ _ => none) (rtG rk29) (st0 pk29 xs Tryd.f29.ntmps) := by kernel_rfl
noncomputable def P29 (n : Nat × Nat) := phiOf pk29 rk29 (fun xs => S29 n xs.1 xs.2.1 xs.2.2.1)
theorem call29 : CallOK Tryd.prog 29 := callOK_of Tryd.func29 (by kernel_rfl) (by kernel_rfl)
theorem env29 (n : Nat × Nat) : EnvOK Tryd.prog (E29 n) := envOK0 (consPhi_ok (FC27 n) call27 (consPhi_ok (FC67 n) call67 (consPhi_ok (FC68 n) call68 noPhi_ok))) rfl rfl
theorem par29 (n : Nat × Nat) : EnvPar (E29 n) := envPar0 (consPhi_par phiOf_Par1 (consPhi_par phiOf_Par1 (consPhi_par phiOf_Par1 noPhi_par))) rfl
theorem FC29 (n : Nat × Nat) : FCs Tryd.prog 29 (P29 n) := phiOf_FCs fun xs r h vs hv => FC.of_runG tabOK eqsOK (env29 n) (par29 n) mixed (fun _ p _ => noScope_ok p.1 p.2) Tryd.func29 (c := c29) (an := an29) (pks := pk29) (rks := rk29) (by kernel_rfl) (by kernel_rfl) hv ((S29_run n xs).symm.trans h)
abbrev R47 := Int
noncomputable def c47 : Code := bodyOf Tryd.f47
noncomputable def an47 : Ann := (.s .l (.s .l (.s (.s .l (.j [0, 1, 2, 3, 28, 29, 30, 31] .l .l)) (.s .l (.s (.s .l (.j [9] .l .l)) .l)))))
def pk47 : List PK := [.c (.int .i64), .c (.sl (.int .i64)), .c (.sl (.int .i64)), .c (.int .i64)]
def rk47 : List RK := [.c (.int .i64) 8]
noncomputable def rt47 (st : St) : Option R47 := rtG rk47 st
noncomputable def E47 (n : Nat × Nat) : Env := { T := tab, phi := (consPhi 29 (fun _ => true) (P29 n) (consPhi 43 (fun _ => true) (P43 n) (consPhi 67 (fun _ => true) (P67 n) noPhi))), eff := fun _ => false, fuel := n.1, hold := n.2 }
noncomputable def S47 (n : Nat × Nat) (size0 : Int) (pieces1 : List Int) (plan2 : List Int) (k3 : Int) : Option R47 := run (E47 n) c47 an47 rt47 (fun _ _ => none) rt47 { tm := [.c (.int .i64 size0), .c (.sl (.int .i64) pieces1 false), .c (.sl (.int .i64) plan2 false), .c (.int .i64 k3), uu, uu, uu, uu, uu, uu, uu, uu, uu, uu, uu, uu, uu, uu, uu, uu, uu, uu, uu, uu, uu, uu, uu, uu, uu, uu, uu, uu, uu, uu], hp := emp }
theorem S47_eq (n : Nat × Nat) (size0 : Int) (pieces1 : List Int) (plan2 : List Int) (k3 : Int) : S47 n size0 pieces1 plan2 k3 =
 (S29 n size0 pieces1 plan2).bind fun r1' =>
 (bif (r1' != 0) then some r1'
 else (S43 n size0 pieces1 k3).bind fun r2' =>
 ((bif ((r2'.2 == 0) == true) then (S67 n plan2).bind fun r3' =>
 some (r2'.1 != r3')
 else some false)).bind fun b4' =>
 (bif b4' then some 14
 else some r2'.2)) := by kernel_rfl
theorem S47_run (n : Nat × Nat) (xs : pksDen pk47) : S47 n xs.1 xs.2.1 xs.2.2.1 xs.2.2.2.1 = runG (E47 n) noScope c47 an47 (rtG rk47) (fun _ _ => none) (rtG rk47) (st0 pk47 xs Tryd.f47.ntmps) := by kernel_rfl
noncomputable def P47 (n : Nat × Nat) := phiOf pk47 rk47 (fun xs => S47 n xs.1 xs.2.1 xs.2.2.1 xs.2.2.2.1)
theorem call47 : CallOK Tryd.prog 47 := callOK_of Tryd.func47 (by kernel_rfl) (by kernel_rfl)
theorem env47 (n : Nat × Nat) : EnvOK Tryd.prog (E47 n) := envOK0 (consPhi_ok (FC29 n) call29 (consPhi_ok (FC43 n) call43 (consPhi_ok (FC67 n) call67 noPhi_ok))) rfl rfl
theorem par47 (n : Nat × Nat) : EnvPar (E47 n) := envPar0 (consPhi_par phiOf_Par1 (consPhi_par phiOf_Par1 (consPhi_par phiOf_Par1 noPhi_par))) rfl
theorem FC47 (n : Nat × Nat) : FCs Tryd.prog 47 (P47 n) := phiOf_FCs fun xs r h vs hv => FC.of_runG tabOK eqsOK (env47 n) (par47 n) mixed (fun _ p _ => noScope_ok p.1 p.2) Tryd.func47 (c := c47) (an := an47) (pks := pk47) (rks := rk47) (by kernel_rfl) (by kernel_rfl) hv ((S47_run n xs).symm.trans h)
abbrev R6 := Bool
noncomputable def c6 : Code := bodyOf Tryd.f6
noncomputable def an6 : Ann := (.s .l (.s (.s .l (.j [0, 1, 2, 3, 72, 73, 74, 77, 78, 79, 82, 83, 84, 87, 88, 89, 92, 93, 94, 97, 98, 99, 100, 101, 102, 103, 104, 105, 106, 107, 110] .l .l)) .l))
def pk6 : List PK := [.c (.int .i64), .c (.sl (.int .i64)), .c (.sl (.int .i64)), .c (.int .i64)]
def rk6 : List RK := [.c .bool 8]
noncomputable def rt6 (st : St) : Option R6 := rtG rk6 st
noncomputable def E6 (n : Nat × Nat) : Env := { T := tab, phi := (consPhi 17 (fun _ => true) (P17 n) (consPhi 40 (fun _ => true) (P40 n) (consPhi 41 (fun _ => true) (P41 n) (consPhi 42 (fun _ => true) (P42 n) (consPhi 43 (fun _ => true) (P43 n) (consPhi 44 (fun _ => true) (P44 n) (consPhi 45 (fun _ => true) (P45 n) (consPhi 46 (fun _ => true) (P46 n) (consPhi 47 (fun _ => true) (P47 n) noPhi))))))))), eff := fun _ => false, fuel := n.1, hold := n.2 }
noncomputable def S6 (n : Nat × Nat) (size0 : Int) (pieces1 : List Int) (plan2 : List Int) (x3 : Int) : Option R6 := run (E6 n) c6 an6 rt6 (fun _ _ => none) rt6 { tm := [.c (.int .i64 size0), .c (.sl (.int .i64) pieces1 false), .c (.sl (.int .i64) plan2 false), .c (.int .i64 x3), uu, uu, uu, uu, uu, uu, uu, uu, uu, uu, uu, uu, uu, uu, uu, uu, uu, uu, uu, uu, uu, uu, uu, uu, uu, uu, uu, uu, uu, uu, uu, uu, uu, uu, uu, uu, uu, uu, uu, uu, uu, uu, uu, uu, uu, uu, uu, uu, uu, uu, uu, uu, uu, uu, uu, uu, uu, uu, uu, uu, uu, uu, uu, uu, uu, uu, uu, uu, uu, uu, uu, uu, uu, uu, uu, uu, uu, uu, uu, uu, uu, uu, uu, uu, uu, uu, uu, uu, uu, uu, uu, uu, uu, uu, uu, uu, uu, uu, uu, uu, uu, uu, uu, uu, uu, uu, uu, uu], hp := emp }
theorem S6_eq (n : Nat × Nat) (size0 : Int) (pieces1 : List Int) (plan2 : List Int) (x3 : Int) : S6 n size0 pieces1 plan2 x3 =
 ((bif (decide ((pieces1.length : Int) > 40) == false) then some (decide ((plan2.length : Int) > 40))
 else some true)).bind fun b1' =>
 (bif b1' then (S17 n).bind fun r2' =>
 some r2'
 else (S40 n size0 pieces1).bind fun r3' =>
 (S41 n size0 pieces1).bind fun r4' =>
 (S42 n size0 pieces1 x3).bind fun r5' =>
 (S43 n size0 pieces1 x3).bind fun r6' =>
 (S44 n size0 pieces1).bind fun r7' =>
 (S45 n size0 pieces1).bind fun r8' =>
 ((bif ((r3'.1 == r4'.1) == true) then some (r3'.2 == r4'.2)
 else some false)).bind fun b9' =>
 ((bif (b9' == true) then some (r5'.1 == r6'.1)
 else some false)).bind fun b10' =>
 ((bif (b10' == true) then some (r5'.2 == r6'.2)
 else some false)).bind fun b11' =>
 ((bif (b11' == true) then some (r7'.1 == r8'.1)
 else some false)).bind fun b12' =>
 ((bif (b12' == true) then some (r7'.2 == r8'.2)
 else some false)).bind fun b13' =>
 ((bif (b13' == true) then (S46 n size0 pieces1 plan2 x3).bind fun r14' =>
 (S47 n size0 pieces1 plan2 x3).bind fun r15' =>
 some (r14' == r15')
 else some false)).bind fun b16' =>
 ((bif (b16' == true) then (S17 n).bind fun r17' =>
 some r17'
 else some false)).bind fun b18' =>
 some b18') := by kernel_rfl
theorem S6_run (n : Nat × Nat) (xs : pksDen pk6) : S6 n xs.1 xs.2.1 xs.2.2.1 xs.2.2.2.1 = runG (E6 n) noScope c6 an6 (rtG rk6) (fun _ _ => none) (rtG rk6) (st0 pk6 xs Tryd.f6.ntmps) := by kernel_rfl
noncomputable def P6 (n : Nat × Nat) := phiOf pk6 rk6 (fun xs => S6 n xs.1 xs.2.1 xs.2.2.1 xs.2.2.2.1)
theorem env6 (n : Nat × Nat) : EnvOK Tryd.prog (E6 n) := envOK0 (consPhi_ok (FC17 n) call17 (consPhi_ok (FC40 n) call40 (consPhi_ok (FC41 n) call41 (consPhi_ok (FC42 n) call42 (consPhi_ok (FC43 n) call43 (consPhi_ok (FC44 n) call44 (consPhi_ok (FC45 n) call45 (consPhi_ok (FC46 n) call46 (consPhi_ok (FC47 n) call47 noPhi_ok))))))))) rfl rfl
theorem par6 (n : Nat × Nat) : EnvPar (E6 n) := envPar0 (consPhi_par phiOf_Par1 (consPhi_par phiOf_Par1 (consPhi_par phiOf_Par1 (consPhi_par phiOf_Par1 (consPhi_par phiOf_Par1 (consPhi_par phiOf_Par1 (consPhi_par phiOf_Par1 (consPhi_par phiOf_Par1 (consPhi_par phiOf_Par1 noPhi_par))))))))) rfl
theorem FC6 (n : Nat × Nat) : FCs Tryd.prog 6 (P6 n) := phiOf_FCs fun xs r h vs hv => FC.of_runG tabOK eqsOK (env6 n) (par6 n) mixed (fun _ p _ => noScope_ok p.1 p.2) Tryd.func6 (c := c6) (an := an6) (pks := pk6) (rks := rk6) (by kernel_rfl) (by kernel_rfl) hv ((S6_run n xs).symm.trans h)
/-D 72 -/
noncomputable def D72 (n : Nat × Nat) (v0 : Int) (lo1 : Int) (hi2 : Int) : Option R72 :=
 ((bif (decide (v0 ≥ lo1) == true) then some (decide (v0 ≤ hi2))
 else some false)).bind fun b1' =>
 some b1'
theorem S72_D (n : Nat × Nat) (hn : n.2 = 1) : S72 n = D72 n := by
  funext v0 lo1 hi2; refine (S72_eq n v0 lo1 hi2).trans ?_
  unfold D72
  first | with_reducible rfl | rfl
/-D 27 -/
noncomputable def DF27_1 (n : Nat × Nat) (f1 : Int → List Int → Int → Option R27) (size0 : Int) (pieces1 : List Int) (i5 : Int) : Option R27 :=
 (bif decide (i5 < (pieces1.length : Int)) then (idx pieces1 i5).bind fun x2' =>
 (D72 n x2' 1 size0).bind fun r3' =>
 (bif (!r3') then some 1
 else f1 size0 pieces1 (wr .i64 (i5 + 1)))
 else some 0)
noncomputable def DL27_1 (n : Nat × Nat) (m : Nat) : Int → List Int → Int → Option R27 := Nat.rec (motive := fun _ => Int → List Int → Int → Option R27) (fun _ _ _ => none) (fun _ ih => DF27_1 n ih) m
theorem DL27_1_succ (n : Nat × Nat) (m : Nat) : DL27_1 n (m + 1) = DF27_1 n (DL27_1 n m) := rfl
theorem DL27_1_eq (n : Nat × Nat) (hn : n.2 = 1) : ∀ m, L27_1 n m = DL27_1 n m
  | 0 => by funext size0 pieces1 i5; kernel_rfl
  | m + 1 => by
    have ih := DL27_1_eq n hn m
    funext size0 pieces1 i5; refine (L27_1_eq n m size0 pieces1 i5).trans ?_
    rw [DL27_1_succ]
    unfold DF27_1
    (try simp only [ih, S72_D n hn]) <;> first | with_reducible rfl | rfl
noncomputable def D27 (n : Nat × Nat) (size0 : Int) (pieces1 : List Int) : Option R27 :=
 (D72 n size0 1 24).bind fun r1' =>
 (bif (!r1') then some 1
 else (bif decide ((pieces1.length : Int) > 8) then some 3
 else DL27_1 n n.1 size0 pieces1 0))
theorem S27_D (n : Nat × Nat) (hn : n.2 = 1) : S27 n = D27 n := by
  funext size0 pieces1; refine (S27_eq n size0 pieces1).trans ?_
  unfold D27
  (try simp only [DL27_1_eq n hn, S72_D n hn]) <;> first | with_reducible rfl | rfl
/-D 41 -/
noncomputable def DF41_2 (n : Nat × Nat) (f1 : Int → List Int → Int → Option R41) (f2 : Int → List Int → Int → Int → Option R41) (size0 : Int) (pieces1 : List Int) (i7 : Int) (k8 : Int) : Option R41 :=
 (bif decide (k8 < i7) then (idx pieces1 i7).bind fun x3' =>
 (idx pieces1 k8).bind fun x4' =>
 (bif x4' == 0 then none
 else ((bif (((Int.tmod x3' x4') != 0) == true) then (idx pieces1 k8).bind fun x5' =>
 (idx pieces1 i7).bind fun x6' =>
 (bif x6' == 0 then none
 else some ((Int.tmod x5' x6') != 0))
 else some false)).bind fun b7' =>
 (bif b7' then some (false, 0)
 else f2 size0 pieces1 i7 (wr .i64 (k8 + 1))))
 else f1 size0 pieces1 (wr .i64 (i7 + 1)))
noncomputable def DL41_2 (n : Nat × Nat) (f1 : Int → List Int → Int → Option R41) (m : Nat) : Int → List Int → Int → Int → Option R41 := Nat.rec (motive := fun _ => Int → List Int → Int → Int → Option R41) (fun _ _ _ _ => none) (fun _ ih => DF41_2 n f1 ih) m
theorem DL41_2_succ (n : Nat × Nat) (f1 : Int → List Int → Int → Option R41) (m : Nat) : DL41_2 n f1 (m + 1) = DF41_2 n f1 (DL41_2 n f1 m) := rfl
theorem DL41_2_eq (n : Nat × Nat) (hn : n.2 = 1) (m1 : Nat) : ∀ m, L41_2 n m1 m = DL41_2 n (L41_1 n m1) m
  | 0 => by funext size0 pieces1 i7 k8; kernel_rfl
  | m + 1 => by
    have ih := DL41_2_eq n hn m1 m
    funext size0 pieces1 i7 k8; refine (L41_2_eq n m1 m size0 pieces1 i7 k8).trans ?_
    rw [DL41_2_succ]
    unfold DF41_2
    (try simp only [ih, S27_D n hn]) <;> first | with_reducible rfl | rfl
noncomputable def DF41_1 (n : Nat × Nat) (f1 : Int → List Int → Int → Option R41) (size0 : Int) (pieces1 : List Int) (i7 : Int) : Option R41 :=
 (bif decide (i7 < (pieces1.length : Int)) then (idx pieces1 i7).bind fun x2' =>
 (bif x2' == 0 then none
 else (bif ((Int.tmod size0 x2') != 0) then some (false, 0)
 else DL41_2 n f1 n.1 size0 pieces1 i7 0))
 else some (true, 0))
noncomputable def DL41_1 (n : Nat × Nat) (m : Nat) : Int → List Int → Int → Option R41 := Nat.rec (motive := fun _ => Int → List Int → Int → Option R41) (fun _ _ _ => none) (fun _ ih => DF41_1 n ih) m
theorem DL41_1_succ (n : Nat × Nat) (m : Nat) : DL41_1 n (m + 1) = DF41_1 n (DL41_1 n m) := rfl
theorem DL41_1_eq (n : Nat × Nat) (hn : n.2 = 1) : ∀ m, L41_1 n m = DL41_1 n m
  | 0 => by funext size0 pieces1 i7; kernel_rfl
  | m + 1 => by
    have ih := DL41_1_eq n hn m
    funext size0 pieces1 i7; refine (L41_1_eq n m size0 pieces1 i7).trans ?_
    rw [DL41_1_succ]
    unfold DF41_1
    (try simp only [ih, DL41_2_eq n hn, S27_D n hn]) <;> first | with_reducible rfl | rfl
noncomputable def D41 (n : Nat × Nat) (size0 : Int) (pieces1 : List Int) : Option R41 :=
 (D27 n size0 pieces1).bind fun r1' =>
 (bif (r1' != 0) then some (false, r1')
 else DL41_1 n n.1 size0 pieces1 0)
theorem S41_D (n : Nat × Nat) (hn : n.2 = 1) : S41 n = D41 n := by
  funext size0 pieces1; refine (S41_eq n size0 pieces1).trans ?_
  unfold D41
  (try simp only [DL41_2_eq n hn, DL41_1_eq n hn, S27_D n hn]) <;> first | with_reducible rfl | rfl
/-D 88 -/
noncomputable def DL88_2 (n : Nat × Nat) (f1 : Int → List Int → Int → Int → Int → Int → Int → Option R88) (size0 : Int) (pieces1 : List Int) (k2 : Int) (v7 : Int) (small8 : Int) (left9 : Int) (i10 : Int) : Option R88 :=
    f1 size0 pieces1 k2 v7 small8 left9 (wr .i64 (i10 + 1))
theorem DL88_2_eq (n : Nat × Nat) (hn : n.2 = 1) (m1 : Nat) : L88_2 n m1 = DL88_2 n (L88_1 n m1) := by
  funext size0 pieces1 k2 v7 small8 left9 i10; refine ((held_eq hn _).trans (L88_2_raw n m1 size0 pieces1 k2 v7 small8 left9 i10)).trans ?_
  unfold DL88_2
  first | with_reducible rfl | rfl
noncomputable def DF88_3 (n : Nat × Nat) (f1 : Int → Int → Int → Int → Option R88) (size0 : Int) (v7 : Int) (small8 : Int) (left9 : Int) : Option R88 :=
 (bif decide (small8 > left9) then f1 size0 (wr .i64 (v7 + 1)) (wr .i64 (small8 - size0)) left9
 else some v7)
noncomputable def DL88_3 (n : Nat × Nat) (m : Nat) : Int → Int → Int → Int → Option R88 := Nat.rec (motive := fun _ => Int → Int → Int → Int → Option R88) (fun _ _ _ _ => none) (fun _ ih => DF88_3 n ih) m
theorem DL88_3_succ (n : Nat × Nat) (m : Nat) : DL88_3 n (m + 1) = DF88_3 n (DL88_3 n m) := rfl
theorem DL88_3_eq (n : Nat × Nat) (hn : n.2 = 1) : ∀ m, L88_3 n m = DL88_3 n m
  | 0 => by funext size0 v7 small8 left9; kernel_rfl
  | m + 1 => by
    have ih := DL88_3_eq n hn m
    funext size0 v7 small8 left9; refine (L88_3_eq n m size0 v7 small8 left9).trans ?_
    rw [DL88_3_succ]
    unfold DF88_3
    (try simp only [ih, DL88_2_eq n hn]) <;> first | with_reducible rfl | rfl
noncomputable def DF88_1 (n : Nat × Nat) (f1 : Int → List Int → Int → Int → Int → Int → Int → Option R88) (size0 : Int) (pieces1 : List Int) (k2 : Int) (v7 : Int) (small8 : Int) (left9 : Int) (i10 : Int) : Option R88 :=
 (bif decide (i10 < (pieces1.length : Int)) then (idx pieces1 i10).bind fun x1' =>
 (bif decide (x1' > wr .i64 (size0 - k2)) then DL88_2 n f1 size0 pieces1 k2 (wr .i64 (v7 + 1)) small8 left9 i10
 else (bif decide (wr .i64 (2 * x1') > size0) then DL88_2 n f1 size0 pieces1 k2 (wr .i64 (v7 + 1)) small8 (wr .i64 (left9 + (wr .i64 (size0 - x1')))) i10
 else (bif decide (x1' ≥ k2) then DL88_2 n f1 size0 pieces1 k2 v7 (wr .i64 (small8 + x1')) left9 i10
 else DL88_2 n f1 size0 pieces1 k2 v7 small8 left9 i10)))
 else DL88_3 n n.1 size0 v7 small8 left9)
noncomputable def DL88_1 (n : Nat × Nat) (m : Nat) : Int → List Int → Int → Int → Int → Int → Int → Option R88 := Nat.rec (motive := fun _ => Int → List Int → Int → Int → Int → Int → Int → Option R88) (fun _ _ _ _ _ _ _ => none) (fun _ ih => DF88_1 n ih) m
theorem DL88_1_succ (n : Nat × Nat) (m : Nat) : DL88_1 n (m + 1) = DF88_1 n (DL88_1 n m) := rfl
theorem DL88_1_eq (n : Nat × Nat) (hn : n.2 = 1) : ∀ m, L88_1 n m = DL88_1 n m
  | 0 => by funext size0 pieces1 k2 v7 small8 left9 i10; kernel_rfl
  | m + 1 => by
    have ih := DL88_1_eq n hn m
    funext size0 pieces1 k2 v7 small8 left9 i10; refine (L88_1_eq n m size0 pieces1 k2 v7 small8 left9 i10).trans ?_
    rw [DL88_1_succ]
    unfold DF88_1
    (try simp only [ih, DL88_2_eq n hn, DL88_3_eq n hn]) <;> first | with_reducible rfl | rfl
noncomputable def D88 (n : Nat × Nat) (size0 : Int) (pieces1 : List Int) (k2 : Int) : Option R88 :=
    DL88_1 n n.1 size0 pieces1 k2 0 0 0 0
theorem S88_D (n : Nat × Nat) (hn : n.2 = 1) : S88 n = D88 n := by
  funext size0 pieces1 k2; refine (S88_eq n size0 pieces1 k2).trans ?_
  unfold D88
  (try simp only [DL88_2_eq n hn, DL88_3_eq n hn, DL88_1_eq n hn]) <;> first | with_reducible rfl | rfl
/-D 43 -/
noncomputable def D43 (n : Nat × Nat) (size0 : Int) (pieces1 : List Int) (k2 : Int) : Option R43 :=
 (D27 n size0 pieces1).bind fun r1' =>
 ((bif ((r1' == 0) == true) then (bif 2 == 0 then none
 else (D72 n k2 0 (wr .i64 (Int.tdiv size0 2))).bind fun r2' =>
 some (!r2'))
 else some false)).bind fun b3' =>
 (bif b3' then (bif (1 != 0) then some (0, 1)
 else (D88 n size0 pieces1 k2).bind fun r4' =>
 some (r4', 0))
 else (bif (r1' != 0) then some (0, r1')
 else (D88 n size0 pieces1 k2).bind fun r5' =>
 some (r5', 0)))
theorem S43_D (n : Nat × Nat) (hn : n.2 = 1) : S43 n = D43 n := by
  funext size0 pieces1 k2; refine (S43_eq n size0 pieces1 k2).trans ?_
  unfold D43
  (try simp only [S27_D n hn, S72_D n hn, S88_D n hn]) <;> first | with_reducible rfl | rfl
/-D 67 -/
noncomputable def DF67_1 (n : Nat × Nat) (f1 : List Int → Int → Int → Option R67) (plan0 : List Int) (v3 : Int) (i4 : Int) : Option R67 :=
 (bif decide (i4 < (plan0.length : Int)) then (idx plan0 i4).bind fun x1' =>
      f1 plan0 (if (wr .i64 (x1' + 1)) > v3 then (wr .i64 (x1' + 1)) else v3) (wr .i64 (i4 + 1))
 else some v3)
noncomputable def DL67_1 (n : Nat × Nat) (m : Nat) : List Int → Int → Int → Option R67 := Nat.rec (motive := fun _ => List Int → Int → Int → Option R67) (fun _ _ _ => none) (fun _ ih => DF67_1 n ih) m
theorem DL67_1_succ (n : Nat × Nat) (m : Nat) : DL67_1 n (m + 1) = DF67_1 n (DL67_1 n m) := rfl
theorem DL67_1_eq (n : Nat × Nat) (hn : n.2 = 1) : ∀ m, L67_1 n m = DL67_1 n m
  | 0 => by funext plan0 v3 i4; kernel_rfl
  | m + 1 => by
    have ih := DL67_1_eq n hn m
    funext plan0 v3 i4; refine (L67_1_eq n m plan0 v3 i4).trans ?_
    rw [DL67_1_succ]
    unfold DF67_1
    (try simp only [ih]) <;> first | with_reducible rfl | rfl
noncomputable def D67 (n : Nat × Nat) (plan0 : List Int) : Option R67 :=
    DL67_1 n n.1 plan0 0 0
theorem S67_D (n : Nat × Nat) (hn : n.2 = 1) : S67 n = D67 n := by
  funext plan0; refine (S67_eq n plan0).trans ?_
  unfold D67
  (try simp only [DL67_1_eq n hn]) <;> first | with_reducible rfl | rfl
/-D 68 -/
noncomputable def DL68_2 (n : Nat × Nat) (f1 : List Int → List Int → Int → Int → Int → Option R68) (pieces0 : List Int) (plan1 : List Int) (sheet2 : Int) (v7 : Int) (i8 : Int) : Option R68 :=
    f1 pieces0 plan1 sheet2 v7 (wr .i64 (i8 + 1))
theorem DL68_2_eq (n : Nat × Nat) (hn : n.2 = 1) (m1 : Nat) : L68_2 n m1 = DL68_2 n (L68_1 n m1) := by
  funext pieces0 plan1 sheet2 v7 i8; refine ((held_eq hn _).trans (L68_2_raw n m1 pieces0 plan1 sheet2 v7 i8)).trans ?_
  unfold DL68_2
  first | with_reducible rfl | rfl
noncomputable def DF68_1 (n : Nat × Nat) (f1 : List Int → List Int → Int → Int → Int → Option R68) (pieces0 : List Int) (plan1 : List Int) (sheet2 : Int) (v7 : Int) (i8 : Int) : Option R68 :=
 (bif decide (i8 < (plan1.length : Int)) then (idx plan1 i8).bind fun x1' =>
 (bif (x1' == sheet2) then (idx pieces0 i8).bind fun x2' =>
        DL68_2 n f1 pieces0 plan1 sheet2 (wr .i64 (v7 + x2')) i8
 else DL68_2 n f1 pieces0 plan1 sheet2 v7 i8)
 else some v7)
noncomputable def DL68_1 (n : Nat × Nat) (m : Nat) : List Int → List Int → Int → Int → Int → Option R68 := Nat.rec (motive := fun _ => List Int → List Int → Int → Int → Int → Option R68) (fun _ _ _ _ _ => none) (fun _ ih => DF68_1 n ih) m
theorem DL68_1_succ (n : Nat × Nat) (m : Nat) : DL68_1 n (m + 1) = DF68_1 n (DL68_1 n m) := rfl
theorem DL68_1_eq (n : Nat × Nat) (hn : n.2 = 1) : ∀ m, L68_1 n m = DL68_1 n m
  | 0 => by funext pieces0 plan1 sheet2 v7 i8; kernel_rfl
  | m + 1 => by
    have ih := DL68_1_eq n hn m
    funext pieces0 plan1 sheet2 v7 i8; refine (L68_1_eq n m pieces0 plan1 sheet2 v7 i8).trans ?_
    rw [DL68_1_succ]
    unfold DF68_1
    (try simp only [ih, DL68_2_eq n hn]) <;> first | with_reducible rfl | rfl
noncomputable def D68 (n : Nat × Nat) (pieces0 : List Int) (plan1 : List Int) (sheet2 : Int) : Option R68 :=
    DL68_1 n n.1 pieces0 plan1 sheet2 0 0
theorem S68_D (n : Nat × Nat) (hn : n.2 = 1) : S68 n = D68 n := by
  funext pieces0 plan1 sheet2; refine (S68_eq n pieces0 plan1 sheet2).trans ?_
  unfold D68
  (try simp only [DL68_2_eq n hn, DL68_1_eq n hn]) <;> first | with_reducible rfl | rfl
/-D 99 -/
noncomputable def DL99_2 (n : Nat × Nat) (SS : Int → List Int → List Int → Int → Option R99) (f1 : Int → List Int → List Int → Int → Int → List (List Int) → Option R99) (size0 : Int) (pieces1 : List Int) (begun2 : List Int) (most3 : Int) (s10 : Int) (out9 : List (List Int)) : Option R99 :=
    f1 size0 pieces1 begun2 most3 (wr .i64 (s10 + 1)) out9
theorem DL99_2_eq (n : Nat × Nat) (hn : n.2 = 1) (SS : Int → List Int → List Int → Int → Option R99) (m1 : Nat) : L99_2 n SS m1 = DL99_2 n SS (L99_1 n SS m1) := by
  funext size0 pieces1 begun2 most3 s10 out9; refine ((held_eq hn _).trans (L99_2_raw n SS m1 size0 pieces1 begun2 most3 s10 out9)).trans ?_
  unfold DL99_2
  (try simp only [S67_D n hn, S68_D n hn]) <;> first | with_reducible rfl | rfl
noncomputable def DF99_1 (n : Nat × Nat) (SS : Int → List Int → List Int → Int → Option R99) (f1 : Int → List Int → List Int → Int → Int → List (List Int) → Option R99) (size0 : Int) (pieces1 : List Int) (begun2 : List Int) (most3 : Int) (s10 : Int) (out9 : List (List Int)) : Option R99 :=
 (D67 n begun2).bind fun r1' =>
 ((bif (decide (s10 ≤ r1') == true) then some (decide (s10 < most3))
 else some false)).bind fun b2' =>
 (bif b2' then (bif decide (([] : List Int).length + begun2.length ≤ lim) then (bif decide (([] ++ begun2).length + [s10].length ≤ lim) then (D68 n pieces1 (([] ++ begun2) ++ [s10]) s10).bind fun r3' =>
 (bif decide (r3' ≤ size0) then (SS size0 pieces1 (([] ++ begun2) ++ [s10]) most3).bind fun r4' =>
 (bif decide (out9.length + r4'.length ≤ lim) then DL99_2 n SS f1 size0 pieces1 begun2 most3 s10 (out9 ++ r4')
 else none)
 else DL99_2 n SS f1 size0 pieces1 begun2 most3 s10 out9)
 else none)
 else none)
 else some out9)
noncomputable def DL99_1 (n : Nat × Nat) (SS : Int → List Int → List Int → Int → Option R99) (m : Nat) : Int → List Int → List Int → Int → Int → List (List Int) → Option R99 := Nat.rec (motive := fun _ => Int → List Int → List Int → Int → Int → List (List Int) → Option R99) (fun _ _ _ _ _ _ => none) (fun _ ih => DF99_1 n SS ih) m
theorem DL99_1_succ (n : Nat × Nat) (SS : Int → List Int → List Int → Int → Option R99) (m : Nat) : DL99_1 n SS (m + 1) = DF99_1 n SS (DL99_1 n SS m) := rfl
theorem DL99_1_eq (n : Nat × Nat) (hn : n.2 = 1) (SS : Int → List Int → List Int → Int → Option R99) : ∀ m, L99_1 n SS m = DL99_1 n SS m
  | 0 => by funext size0 pieces1 begun2 most3 s10 out9; kernel_rfl
  | m + 1 => by
    have ih := DL99_1_eq n hn SS m
    funext size0 pieces1 begun2 most3 s10 out9; refine (L99_1_eq n SS m size0 pieces1 begun2 most3 s10 out9).trans ?_
    rw [DL99_1_succ]
    unfold DF99_1
    (try simp only [ih, DL99_2_eq n hn SS, S67_D n hn, S68_D n hn]) <;> first | with_reducible rfl | rfl
noncomputable def DB99 (n : Nat × Nat) (SS : Int → List Int → List Int → Int → Option R99) (size0 : Int) (pieces1 : List Int) (begun2 : List Int) (most3 : Int) : Option R99 :=
 (bif ((begun2.length : Int) == (pieces1.length : Int)) then some [begun2]
 else DL99_1 n SS n.1 size0 pieces1 begun2 most3 0 [])
theorem DB99_eq (n : Nat × Nat) (hn : n.2 = 1) (SS : Int → List Int → List Int → Int → Option R99) : B99 n SS = DB99 n SS := by
  funext size0 pieces1 begun2 most3; refine (B99_eq n SS size0 pieces1 begun2 most3).trans ?_
  unfold DB99
  (try simp only [DL99_2_eq n hn SS, DL99_1_eq n hn SS, S67_D n hn, S68_D n hn]) <;> first | with_reducible rfl | rfl
noncomputable def DT99 (n : Nat × Nat) (d : Nat) : Int → List Int → List Int → Int → Option R99 := Nat.rec (motive := fun _ => Int → List Int → List Int → Int → Option R99) (fun _ _ _ _ => none) (fun _ ih => DB99 n ih) d
theorem DT99_succ (n : Nat × Nat) (d : Nat) : DT99 n (d + 1) = DB99 n (DT99 n d) := rfl
theorem DT99_eq (n : Nat × Nat) (hn : n.2 = 1) : ∀ d, T99 n d = DT99 n d
  | 0 => rfl
  | d + 1 => by
    funext size0 pieces1 begun2 most3
    rw [T99_eq, DT99_eq n hn d, DB99_eq n hn, DT99_succ]
noncomputable def D99 (n : Nat × Nat) (size0 : Int) (pieces1 : List Int) (begun2 : List Int) (most3 : Int) : Option R99 := DT99 n n.1 size0 pieces1 begun2 most3
theorem S99_D (n : Nat × Nat) (hn : n.2 = 1) : S99 n = D99 n := by
  funext size0 pieces1 begun2 most3; unfold S99 D99; rw [DT99_eq n hn]
/-D 83 -/
noncomputable def DF83_1 (n : Nat × Nat) (f1 : Int → List Int → Int → Option R83) (size0 : Int) (pieces1 : List Int) (most5 : Int) : Option R83 :=
 (D99 n size0 pieces1 [] most5).bind fun r1' =>
 (bif decide ((r1'.length : Int) > 0) then some r1'
 else f1 size0 pieces1 (wr .i64 (most5 + 1)))
noncomputable def DL83_1 (n : Nat × Nat) (m : Nat) : Int → List Int → Int → Option R83 := Nat.rec (motive := fun _ => Int → List Int → Int → Option R83) (fun _ _ _ => none) (fun _ ih => DF83_1 n ih) m
theorem DL83_1_succ (n : Nat × Nat) (m : Nat) : DL83_1 n (m + 1) = DF83_1 n (DL83_1 n m) := rfl
theorem DL83_1_eq (n : Nat × Nat) (hn : n.2 = 1) : ∀ m, L83_1 n m = DL83_1 n m
  | 0 => by funext size0 pieces1 most5; kernel_rfl
  | m + 1 => by
    have ih := DL83_1_eq n hn m
    funext size0 pieces1 most5; refine (L83_1_eq n m size0 pieces1 most5).trans ?_
    rw [DL83_1_succ]
    unfold DF83_1
    (try simp only [ih, S99_D n hn]) <;> first | with_reducible rfl | rfl
noncomputable def D83 (n : Nat × Nat) (size0 : Int) (pieces1 : List Int) : Option R83 :=
    DL83_1 n n.1 size0 pieces1 0
theorem S83_D (n : Nat × Nat) (hn : n.2 = 1) : S83 n = D83 n := by
  funext size0 pieces1; refine (S83_eq n size0 pieces1).trans ?_
  unfold D83
  (try simp only [DL83_1_eq n hn, S99_D n hn]) <;> first | with_reducible rfl | rfl
/-D 35 -/
noncomputable def D35 (n : Nat × Nat) (size0 : Int) (pieces1 : List Int) : Option R35 :=
 (D27 n size0 pieces1).bind fun r1' =>
 (bif (r1' != 0) then some (0, r1')
 else (D83 n size0 pieces1).bind fun r2' =>
 (bif inB 0 r2'.length then (idx r2' 0).bind fun x3' =>
 (D67 n x3').bind fun r4' =>
 some (r4', 0)
 else none))
theorem S35_D (n : Nat × Nat) (hn : n.2 = 1) : S35 n = D35 n := by
  funext size0 pieces1; refine (S35_eq n size0 pieces1).trans ?_
  unfold D35
  (try simp only [S27_D n hn, S67_D n hn, S83_D n hn]) <;> first | with_reducible rfl | rfl
/-D 45 -/
noncomputable def DF45_1 (n : Nat × Nat) (f1 : Int → List Int → Int → Int → Option R45) (size0 : Int) (pieces1 : List Int) (v6 : Int) (k8 : Int) : Option R45 :=
 (bif 2 == 0 then none
 else (bif decide (k8 ≤ wr .i64 (Int.tdiv size0 2)) then (D88 n size0 pieces1 k8).bind fun r2' =>
 (bif (r2' == v6) then some (k8, 0)
 else f1 size0 pieces1 v6 (wr .i64 (k8 + 1)))
 else some (0, 12)))
noncomputable def DL45_1 (n : Nat × Nat) (m : Nat) : Int → List Int → Int → Int → Option R45 := Nat.rec (motive := fun _ => Int → List Int → Int → Int → Option R45) (fun _ _ _ _ => none) (fun _ ih => DF45_1 n ih) m
theorem DL45_1_succ (n : Nat × Nat) (m : Nat) : DL45_1 n (m + 1) = DF45_1 n (DL45_1 n m) := rfl
theorem DL45_1_eq (n : Nat × Nat) (hn : n.2 = 1) : ∀ m, L45_1 n m = DL45_1 n m
  | 0 => by funext size0 pieces1 v6 k8; kernel_rfl
  | m + 1 => by
    have ih := DL45_1_eq n hn m
    funext size0 pieces1 v6 k8; refine (L45_1_eq n m size0 pieces1 v6 k8).trans ?_
    rw [DL45_1_succ]
    unfold DF45_1
    (try simp only [ih, S35_D n hn, S88_D n hn]) <;> first | with_reducible rfl | rfl
noncomputable def D45 (n : Nat × Nat) (size0 : Int) (pieces1 : List Int) : Option R45 :=
 (D35 n size0 pieces1).bind fun r1' =>
 (bif (r1'.2 != 0) then some (0, r1'.2)
 else DL45_1 n n.1 size0 pieces1 r1'.1 0)
theorem S45_D (n : Nat × Nat) (hn : n.2 = 1) : S45 n = D45 n := by
  funext size0 pieces1; refine (S45_eq n size0 pieces1).trans ?_
  unfold D45
  (try simp only [DL45_1_eq n hn, S35_D n hn, S88_D n hn]) <;> first | with_reducible rfl | rfl
/-D 29 -/
noncomputable def DL29_2 (n : Nat × Nat) (f1 : Int → List Int → List Int → Int → Int → Option R29) (size0 : Int) (pieces1 : List Int) (plan2 : List Int) (e7 : Int) (i8 : Int) : Option R29 :=
    f1 size0 pieces1 plan2 e7 (wr .i64 (i8 + 1))
theorem DL29_2_eq (n : Nat × Nat) (hn : n.2 = 1) (m1 : Nat) : L29_2 n m1 = DL29_2 n (L29_1 n m1) := by
  funext size0 pieces1 plan2 e7 i8; refine ((held_eq hn _).trans (L29_2_raw n m1 size0 pieces1 plan2 e7 i8)).trans ?_
  unfold DL29_2
  (try simp only [S27_D n hn, S67_D n hn, S68_D n hn]) <;> first | with_reducible rfl | rfl
noncomputable def DL29_4 (n : Nat × Nat) (f1 : Int → List Int → List Int → Int → Int → Option R29) (size0 : Int) (pieces1 : List Int) (plan2 : List Int) (e7 : Int) (i9 : Int) : Option R29 :=
    f1 size0 pieces1 plan2 e7 (wr .i64 (i9 + 1))
theorem DL29_4_eq (n : Nat × Nat) (hn : n.2 = 1) (m1 : Nat) : L29_4 n m1 = DL29_4 n (L29_3 n m1) := by
  funext size0 pieces1 plan2 e7 i9; refine ((held_eq hn _).trans (L29_4_raw n m1 size0 pieces1 plan2 e7 i9)).trans ?_
  unfold DL29_4
  (try simp only [DL29_2_eq n hn, S27_D n hn, S67_D n hn, S68_D n hn]) <;> first | with_reducible rfl | rfl
noncomputable def DF29_3 (n : Nat × Nat) (f1 : Int → List Int → List Int → Int → Int → Option R29) (size0 : Int) (pieces1 : List Int) (plan2 : List Int) (e7 : Int) (i9 : Int) : Option R29 :=
 ((bif (decide (i9 < (plan2.length : Int)) == true) then some (e7 == 0)
 else some false)).bind fun b7' =>
 (bif b7' then (idx plan2 i9).bind fun x8' =>
 (D68 n pieces1 plan2 x8').bind fun r9' =>
 (bif decide (r9' > size0) then DL29_4 n f1 size0 pieces1 plan2 15 i9
 else DL29_4 n f1 size0 pieces1 plan2 e7 i9)
 else some e7)
noncomputable def DL29_3 (n : Nat × Nat) (m : Nat) : Int → List Int → List Int → Int → Int → Option R29 := Nat.rec (motive := fun _ => Int → List Int → List Int → Int → Int → Option R29) (fun _ _ _ _ _ => none) (fun _ ih => DF29_3 n ih) m
theorem DL29_3_succ (n : Nat × Nat) (m : Nat) : DL29_3 n (m + 1) = DF29_3 n (DL29_3 n m) := rfl
theorem DL29_3_eq (n : Nat × Nat) (hn : n.2 = 1) : ∀ m, L29_3 n m = DL29_3 n m
  | 0 => by funext size0 pieces1 plan2 e7 i9; kernel_rfl
  | m + 1 => by
    have ih := DL29_3_eq n hn m
    funext size0 pieces1 plan2 e7 i9; refine (L29_3_eq n m size0 pieces1 plan2 e7 i9).trans ?_
    rw [DL29_3_succ]
    unfold DF29_3
    (try simp only [ih, DL29_2_eq n hn, DL29_4_eq n hn, S27_D n hn, S67_D n hn, S68_D n hn]) <;> first | with_reducible rfl | rfl
noncomputable def DF29_1 (n : Nat × Nat) (f1 : Int → List Int → List Int → Int → Int → Option R29) (size0 : Int) (pieces1 : List Int) (plan2 : List Int) (e7 : Int) (i8 : Int) : Option R29 :=
 ((bif (decide (i8 < (plan2.length : Int)) == true) then some (e7 == 0)
 else some false)).bind fun b3' =>
 (bif b3' then (idx plan2 i8).bind fun x4' =>
 (bif decide (x4' < 0) then DL29_2 n f1 size0 pieces1 plan2 2 i8
 else (idx plan2 i8).bind fun x5' =>
 (bif bounds none (some i8) none plan2.length then (D67 n (plan2.take (Int.toNat i8))).bind fun r6' =>
 (bif decide (x5' > r6') then DL29_2 n f1 size0 pieces1 plan2 7 i8
 else DL29_2 n f1 size0 pieces1 plan2 e7 i8)
 else none))
 else DL29_3 n n.1 size0 pieces1 plan2 e7 0)
noncomputable def DL29_1 (n : Nat × Nat) (m : Nat) : Int → List Int → List Int → Int → Int → Option R29 := Nat.rec (motive := fun _ => Int → List Int → List Int → Int → Int → Option R29) (fun _ _ _ _ _ => none) (fun _ ih => DF29_1 n ih) m
theorem DL29_1_succ (n : Nat × Nat) (m : Nat) : DL29_1 n (m + 1) = DF29_1 n (DL29_1 n m) := rfl
theorem DL29_1_eq (n : Nat × Nat) (hn : n.2 = 1) : ∀ m, L29_1 n m = DL29_1 n m
  | 0 => by funext size0 pieces1 plan2 e7 i8; kernel_rfl
  | m + 1 => by
    have ih := DL29_1_eq n hn m
    funext size0 pieces1 plan2 e7 i8; refine (L29_1_eq n m size0 pieces1 plan2 e7 i8).trans ?_
    rw [DL29_1_succ]
    unfold DF29_1
    (try simp only [ih, DL29_2_eq n hn, DL29_4_eq n hn, DL29_3_eq n hn, S27_D n hn, S67_D n hn, S68_D n hn]) <;> first | with_reducible rfl | rfl
noncomputable def D29 (n : Nat × Nat) (size0 : Int) (pieces1 : List Int) (plan2 : List Int) : Option R29 :=
 (D27 n size0 pieces1).bind fun r1' =>
 ((bif ((r1' == 0) == true) then some ((plan2.length : Int) != (pieces1.length : Int))
 else some false)).bind fun b2' =>
 (bif b2' then DL29_1 n n.1 size0 pieces1 plan2 5 0
 else DL29_1 n n.1 size0 pieces1 plan2 r1' 0)
theorem S29_D (n : Nat × Nat) (hn : n.2 = 1) : S29 n = D29 n := by
  funext size0 pieces1 plan2; refine (S29_eq n size0 pieces1 plan2).trans ?_
  unfold D29
  (try simp only [DL29_2_eq n hn, DL29_4_eq n hn, DL29_3_eq n hn, DL29_1_eq n hn, S27_D n hn, S67_D n hn, S68_D n hn]) <;> first | with_reducible rfl | rfl
/-D 47 -/
noncomputable def D47 (n : Nat × Nat) (size0 : Int) (pieces1 : List Int) (plan2 : List Int) (k3 : Int) : Option R47 :=
 (D29 n size0 pieces1 plan2).bind fun r1' =>
 (bif (r1' != 0) then some r1'
 else (D43 n size0 pieces1 k3).bind fun r2' =>
 ((bif ((r2'.2 == 0) == true) then (D67 n plan2).bind fun r3' =>
 some (r2'.1 != r3')
 else some false)).bind fun b4' =>
 (bif b4' then some 14
 else some r2'.2))
theorem S47_D (n : Nat × Nat) (hn : n.2 = 1) : S47 n = D47 n := by
  funext size0 pieces1 plan2 k3; refine (S47_eq n size0 pieces1 plan2 k3).trans ?_
  unfold D47
  (try simp only [S29_D n hn, S43_D n hn, S67_D n hn]) <;> first | with_reducible rfl | rfl
/-D 6 -/
noncomputable def D6 (n : Nat × Nat) (size0 : Int) (pieces1 : List Int) (plan2 : List Int) (x3 : Int) : Option R6 :=
 ((bif (decide ((pieces1.length : Int) > 40) == false) then some (decide ((plan2.length : Int) > 40))
 else some true)).bind fun b1' =>
 (bif b1' then (D17 n).bind fun r2' =>
 some r2'
 else (D40 n size0 pieces1).bind fun r3' =>
 (D41 n size0 pieces1).bind fun r4' =>
 (D42 n size0 pieces1 x3).bind fun r5' =>
 (D43 n size0 pieces1 x3).bind fun r6' =>
 (D44 n size0 pieces1).bind fun r7' =>
 (D45 n size0 pieces1).bind fun r8' =>
 ((bif ((r3'.1 == r4'.1) == true) then some (r3'.2 == r4'.2)
 else some false)).bind fun b9' =>
 ((bif (b9' == true) then some (r5'.1 == r6'.1)
 else some false)).bind fun b10' =>
 ((bif (b10' == true) then some (r5'.2 == r6'.2)
 else some false)).bind fun b11' =>
 ((bif (b11' == true) then some (r7'.1 == r8'.1)
 else some false)).bind fun b12' =>
 ((bif (b12' == true) then some (r7'.2 == r8'.2)
 else some false)).bind fun b13' =>
 ((bif (b13' == true) then (D46 n size0 pieces1 plan2 x3).bind fun r14' =>
 (D47 n size0 pieces1 plan2 x3).bind fun r15' =>
 some (r14' == r15')
 else some false)).bind fun b16' =>
 ((bif (b16' == true) then (D17 n).bind fun r17' =>
 some r17'
 else some false)).bind fun b18' =>
 some b18')
theorem S6_D (n : Nat × Nat) (hn : n.2 = 1) : S6 n = D6 n := by
  funext size0 pieces1 plan2 x3; refine (S6_eq n size0 pieces1 plan2 x3).trans ?_
  unfold D6
  (try simp only [S17_D n hn, S40_D n hn, S41_D n hn, S42_D n hn, S43_D n hn, S44_D n hn, S45_D n hn, S46_D n hn, S47_D n hn]) <;> first | with_reducible rfl | rfl
/-D 13 -/
end Go.Proofs.YtgmonagekfjnmaaDoor
set_option linter.unusedVariables false
set_option linter.unusedSimpArgs false
namespace Go.Proofs.YtgmonagekfjnmaaDoor
open Go.Vi
abbrev N : Nat × Nat := (1000000, 1)
theorem works_eq : D17 N = some true := by kernel_rfl
end Go.Proofs.YtgmonagekfjnmaaDoor
set_option linter.unusedVariables false
set_option linter.unusedSimpArgs false
set_option maxRecDepth 100000
namespace Go.Proofs.YtgmonagekfjnmaaDoor
open Go.Vi
noncomputable def c3 : Code := bodyOf Tryd.f3
/-D 16 -/
/-D 19 -/
/-D 21 -/
/-D 73 -/
/-D 74 -/
/-D 23 -/
/-D 3 -/
end Go.Proofs.YtgmonagekfjnmaaDoor
set_option linter.unusedVariables false
set_option linter.unusedSimpArgs false
namespace Go.Proofs.YtgmonagekfjnmaaDoor
open Go.Vi
theorem hN1 : 1000 ≤ N.1 := by decide
theorem wr_ok {x : Int} (h1 : -9223372036854775808 ≤ x) (h2 : x ≤ 9223372036854775807) : wr .i64 x = x := by
  have : wr .i64 x = (x + 9223372036854775808) % 18446744073709551616 - 9223372036854775808 := by
    simp only [wr, IntKind.wrap, IntKind.signed, IntKind.bits]
    simp
    split <;> omega
  rw [this]
  omega
theorem wr_succ {k : Nat} (h : k < 1000000) : wr .i64 ((k : Int) + 1) = ((k + 1 : Nat) : Int) := by
  rw [wr_ok (by omega) (by omega)]; omega
theorem idx_nat {α : Type} {l : List α} {k : Nat} (h : k < l.length) : idx l (k : Int) = some l[k] := by
  unfold idx
  rw [if_pos (by omega), Int.toNat_natCast, List.getElem?_eq_getElem h]
theorem idx_int {α : Type} {l : List α} {k : Nat} {i : Int} (hi : i = k) (h : k < l.length) : idx l i = some l[k] := by
  subst hi
  exact idx_nat h
theorem drop_cons {α : Type} {l : List α} {k : Nat} (h : k < l.length) : l.drop k = l[k] :: l.drop (k + 1) := List.drop_eq_getElem_cons h
theorem inB_nat {k n : Nat} (h : k < n) : inB (k : Int) n = true := by
  unfold inB
  simp [h]
theorem lim_dec {α : Type} {a : Nat} {x : α} (h : a < 1000000) : decide (a + [x].length ≤ lim) = true := decide_eq_true (by simp [lim]; omega)
theorem dlt_t {a b : Nat} (h : a < b) : decide ((a : Int) < (b : Int)) = true := decide_eq_true (by omega)
theorem dlt_f {a b : Nat} (h : ¬ a < b) : decide ((a : Int) < (b : Int)) = false := decide_eq_false (by omega)
theorem take_snoc {α : Type} {l : List α} {k : Nat} (h : k < l.length) : l.take (k + 1) = l.take k ++ [l[k]] := (List.take_append_getElem h).symm
theorem max_if (a b : Int) : (if b > a then b else a) = max a b := by
  by_cases h : b > a
  · rw [if_pos h, Int.max_eq_right (by omega)]
  · rw [if_neg h, Int.max_eq_left (by omega)]
/-- The first place at which something holds, or -1. -/
def fnd (q : Int → Bool) : Nat → List Int → Int
  | _, [] => -1
  | k, x :: l => if q x then (k : Int) else fnd q (k + 1) l
theorem fnd_bnd (q : Int → Bool) : ∀ (l : List Int) (k : Nat), fnd q k l = -1 ∧ (∀ x ∈ l, q x = false) ∨ (k ≤ fnd q k l ∧ fnd q k l < k + l.length ∧ ∃ x ∈ l, q x = true)
  | [], k => by simp [fnd]
  | x :: l, k => by
    unfold fnd
    by_cases h : q x = true
    · rw [if_pos h]
      exact .inr ⟨by omega, by simp; omega, x, by simp, h⟩
    · rw [if_neg h]
      rcases fnd_bnd q l (k + 1) with ⟨h1, h2⟩ | ⟨h1, h2, y, hy, hq⟩
      · exact .inl ⟨h1, fun y hy => (List.mem_cons.1 hy).elim (fun e => by rw [e]; simpa using h) (fun hy => h2 y hy)⟩
      · exact .inr ⟨by omega, by simp; omega, y, by simp [hy], hq⟩
theorem fnd_ge (q : Int → Bool) (l : List Int) (k : Nat) : (0 ≤ fnd q k l) ↔ ∃ x ∈ l, q x = true := by
  rcases fnd_bnd q l k with ⟨h1, h2⟩ | ⟨h1, h2, h3⟩
  · constructor
    · intro h; omega
    · rintro ⟨x, hx, hq⟩; rw [h2 x hx] at hq; cases hq
  · exact ⟨fun _ => h3, fun _ => by omega⟩
/-- A job's error. -/
def BadP (sz p : Int) : Prop := p < 1 ∨ sz < p
instance (sz p : Int) : Decidable (BadP sz p) := inferInstanceAs (Decidable (_ ∨ _))
def chk (sz : Int) (ps : List Int) : Int := if sz < 1 ∨ 24 < sz then 1 else if 8 < ps.length then 3 else if ∃ p ∈ ps, BadP sz p then 1 else 0
structure Job (sz : Int) (ps : List Int) : Prop where
  lo : 1 ≤ sz
  hi : sz ≤ 24
  len : ps.length ≤ 8
  ok : ∀ p ∈ ps, 1 ≤ p ∧ p ≤ sz
theorem chk_job {sz : Int} {ps : List Int} : chk sz ps = 0 ↔ Job sz ps := by
  unfold chk
  constructor
  · intro h
    split at h
    · omega
    · split at h
      · omega
      · split at h
        · omega
        · rename_i h1 h2 h3
          refine ⟨by omega, by omega, by omega, fun p hp => ?_⟩
          have : ¬ BadP sz p := fun hb => h3 ⟨p, hp, hb⟩
          unfold BadP at this
          omega
  · intro h
    have := h.lo
    have := h.hi
    have := h.len
    rw [if_neg (by omega), if_neg (by omega), if_neg]
    rintro ⟨p, hp, hb⟩
    have := h.ok p hp
    unfold BadP at hb
    omega
theorem bad_eq (n : Nat × Nat) (p sz : Int) : D76 n p sz = some (decide (BadP sz p)) := by
  unfold D76 BadP
  by_cases h : p < 1
  · rw [decide_eq_true h]; simp [h]
  · rw [decide_eq_false h]; simp [h]
theorem idxf_loop (n : Nat × Nat) (l : List Int) (sz : Int) (hs : l.length < 100000) : ∀ (m k : Nat), k ≤ l.length → l.length - k < m → DL79c76_1 n m l sz (l.length : Int) (k : Int) = some (fnd (fun p => decide (BadP sz p)) k (l.drop k))
  | 0, k, _, h => by omega
  | m + 1, k, hk, h => by
    rw [DL79c76_1_succ]
    unfold DF79c76_1
    by_cases hlt : k < l.length
    · have ih := idxf_loop n l sz hs m (k + 1) (by omega) (by omega)
      rw [dlt_t hlt, cond_true, idx_nat hlt, Option.bind_some, bad_eq, Option.bind_some, wr_succ (by omega), ih, drop_cons hlt]
      generalize l.drop (k + 1) = t at *
      generalize l[k] = x at *
      unfold fnd
      by_cases e : BadP sz x
      · simp [e]
      · simp only [e, decide_false, cond_false, Bool.false_eq_true, if_false]
        cases t <;> rfl
    · rw [dlt_f hlt, cond_false, List.drop_of_length_le (by omega)]
      rfl
theorem anyb_eq {n : Nat × Nat} (l : List Int) (sz : Int) (hs : l.length < n.1) (hs2 : l.length < 100000) : D75c76 n l sz = some (decide (∃ p ∈ l, BadP sz p)) := by
  unfold D75c76 D79c76
  have := idxf_loop n l sz hs2 n.1 0 (by omega) (by omega)
  rw [show ((0 : Nat) : Int) = 0 from rfl, List.drop_zero] at this
  rw [this, Option.bind_some]
  congr 1
  apply decide_eq_decide.2
  have := fnd_ge (fun p => decide (BadP sz p)) l 0
  simp only [decide_eq_true_eq] at this
  exact this
theorem Check_eq {n : Nat × Nat} (hn : 1000 ≤ n.1) (sz : Int) (ps : List Int) : D26 n sz ps = some (chk sz ps) := by
  unfold D26 chk
  by_cases h1 : sz < 1
  · rw [decide_eq_true h1, if_pos (.inl h1)]; rfl
  · rw [decide_eq_false h1]
    by_cases h2 : 24 < sz
    · rw [if_pos (.inr h2), decide_eq_true (show sz > 24 from h2)]; rfl
    · rw [if_neg (by omega), decide_eq_false (show ¬ sz > 24 from h2)]
      simp only [beq_self_eq_true, cond_true, Option.bind_some, cond_false]
      by_cases h3 : 8 < ps.length
      · rw [if_pos h3, decide_eq_true (show (ps.length : Int) > 8 by omega), cond_true]
      · rw [if_neg h3, decide_eq_false (show ¬ (ps.length : Int) > 8 by omega), cond_false, anyb_eq ps sz (by omega) (by omega), Option.bind_some]
        by_cases h4 : ∃ p ∈ ps, BadP sz p
        · rw [if_pos h4, decide_eq_true h4, cond_true]
        · rw [if_neg h4, decide_eq_false h4, cond_false]
theorem in_eq (n : Nat × Nat) (v lo hi : Int) : D72 n v lo hi = some (decide (lo ≤ v ∧ v ≤ hi)) := by
  unfold D72
  by_cases h : lo ≤ v
  · rw [decide_eq_true (show v ≥ lo from h)]; simp [h]
  · rw [decide_eq_false (show ¬ v ≥ lo from h)]; simp [h]
theorem rcheck_loop (n : Nat × Nat) (sz : Int) (l : List Int) (hs : l.length < 1000) : ∀ (m k : Nat), k ≤ l.length → l.length - k < m → DL27_1 n m sz l (k : Int) = some (if ∃ p ∈ l.drop k, BadP sz p then 1 else 0)
  | 0, k, _, h => by omega
  | m + 1, k, hk, h => by
    rw [DL27_1_succ]
    unfold DF27_1
    by_cases hlt : k < l.length
    · have ih := rcheck_loop n sz l hs m (k + 1) (by omega) (by omega)
      rw [dlt_t hlt, cond_true, idx_nat hlt, Option.bind_some, in_eq, Option.bind_some, wr_succ (by omega), ih, drop_cons hlt]
      generalize l.drop (k + 1) = t at *
      generalize l[k] = x at *
      by_cases e : BadP sz x
      · rw [decide_eq_false (by unfold BadP at e; omega), Bool.not_false, cond_true, if_pos ⟨x, by simp, e⟩]
      · rw [decide_eq_true (by unfold BadP at e; omega), Bool.not_true, cond_false]
        simp [e]
    · rw [dlt_f hlt, cond_false, List.drop_of_length_le (by omega)]
      simp
theorem rCheck_eq {n : Nat × Nat} (hn : 1000 ≤ n.1) (sz : Int) (ps : List Int) : D27 n sz ps = some (chk sz ps) := by
  unfold D27 chk
  rw [in_eq, Option.bind_some]
  by_cases h1 : sz < 1 ∨ 24 < sz
  · rw [if_pos h1, decide_eq_false (by omega), Bool.not_false, cond_true]
  · rw [if_neg h1, decide_eq_true (by omega), Bool.not_true, cond_false]
    by_cases h3 : 8 < ps.length
    · rw [if_pos h3, decide_eq_true (show (ps.length : Int) > 8 by omega), cond_true]
    · rw [if_neg h3, decide_eq_false (show ¬ (ps.length : Int) > 8 by omega), cond_false]
      have := rcheck_loop n sz ps (by omega) n.1 0 (by omega) (by omega)
      rw [show ((0 : Nat) : Int) = 0 from rfl, List.drop_zero] at this
      exact this
/-- How many sheets a plan has. -/
def mny (l : List Int) : Int := l.foldl (fun a s => max a (s + 1)) 0
/-- How much of a sheet is used. -/
def usd : List Int → List Int → Int → Int
  | p :: ps, x :: l, s => (if x = s then p else 0) + usd ps l s
  | _, _, _ => 0
theorem fold_mny : ∀ (l : List Int) (a : Int), a ≤ l.foldl (fun a s => max a (s + 1)) a ∧ (∀ x ∈ l, x < l.foldl (fun a s => max a (s + 1)) a)
  | [], a => by simp
  | x :: l, a => by
    rw [List.foldl_cons]
    obtain ⟨h1, h2⟩ := fold_mny l (max a (x + 1))
    refine ⟨by omega, fun y hy => ?_⟩
    rcases List.mem_cons.1 hy with rfl | hy
    · omega
    · exact h2 y hy
theorem mny_nn (l : List Int) : 0 ≤ mny l := (fold_mny l 0).1
theorem mny_lt {l : List Int} {x : Int} (h : x ∈ l) : x < mny l := (fold_mny l 0).2 x h
theorem mny_snoc (l : List Int) (x : Int) : mny (l ++ [x]) = max (mny l) (x + 1) := by simp [mny, List.foldl_append]
theorem mny_nil : mny [] = 0 := rfl
theorem usd_snoc (s x p : Int) : ∀ {ps l : List Int}, ps.length = l.length → usd (ps ++ [p]) (l ++ [x]) s = usd ps l s + if x = s then p else 0
  | [], [], _ => by simp [usd]
  | q :: ps, y :: l, h => by
    simp only [List.cons_append, usd]
    rw [usd_snoc s x p (by simpa using h)]
    omega
  | [], _ :: _, h => by simp at h
  | _ :: _, [], h => by simp at h
theorem usd_none {s : Int} : ∀ {ps l : List Int}, s ∉ l → usd ps l s = 0
  | [], [], _ => rfl
  | [], _ :: _, _ => rfl
  | _ :: _, [], _ => rfl
  | q :: ps, y :: l, h => by
    simp only [List.mem_cons, not_or] at h
    simp only [usd, if_neg (fun e => h.1 (Eq.symm e)), usd_none h.2]
    omega
theorem usd_nn {s : Int} : ∀ {ps l : List Int}, (∀ p ∈ ps, 0 ≤ p) → 0 ≤ usd ps l s
  | [], _, _ => by simp [usd]
  | _ :: _, [], _ => by simp [usd]
  | q :: ps, y :: l, h => by
    have h1 := h q (by simp)
    have h2 := usd_nn (s := s) (ps := ps) (l := l) (fun p hp => h p (by simp [hp]))
    simp only [usd]
    split <;> omega
theorem usd_le {s : Int} : ∀ {ps l : List Int}, (∀ p ∈ ps, 0 ≤ p ∧ p ≤ 24) → usd ps l s ≤ 24 * ps.length
  | [], _, _ => by simp [usd]
  | _ :: _, [], _ => by simp only [usd, List.length_cons]; omega
  | q :: ps, y :: l, h => by
    have h1 := h q (by simp)
    have h2 := usd_le (s := s) (ps := ps) (l := l) (fun p hp => h p (by simp [hp]))
    simp only [usd, List.length_cons]
    split <;> omega
theorem many_loop (n : Nat × Nat) (l : List Int) (hs : l.length < 1000) (hb : ∀ x ∈ l, 0 ≤ x ∧ x ≤ 100000) : ∀ (m k : Nat) (v : Int), k ≤ l.length → l.length - k < m → DL67_1 n m l v (k : Int) = some ((l.drop k).foldl (fun a s => max a (s + 1)) v)
  | 0, k, v, _, h => by omega
  | m + 1, k, v, hk, h => by
    rw [DL67_1_succ]
    unfold DF67_1
    by_cases hlt : k < l.length
    · have hx := hb _ (List.getElem_mem hlt)
      rw [dlt_t hlt, cond_true, idx_nat hlt, Option.bind_some, wr_ok (x := l[k] + 1) (by omega) (by omega), max_if, wr_succ (by omega), many_loop n l hs hb m (k + 1) _ (by omega) (by omega), drop_cons hlt, List.foldl_cons]
    · rw [dlt_f hlt, cond_false, List.drop_of_length_le (by omega)]
      rfl
theorem many_eq {n : Nat × Nat} (hn : 1000 ≤ n.1) {l : List Int} (hs : l.length < 900) (hb : ∀ x ∈ l, 0 ≤ x ∧ x ≤ 100000) : D67 n l = some (mny l) := by
  unfold D67
  exact many_loop n l (by omega) hb n.1 0 0 (by omega) (by omega)
theorem used_loop (n : Nat × Nat) (ps l : List Int) (s : Int) (hl : l.length = ps.length) (hs : l.length < 1000) (hb : ∀ p ∈ ps, 0 ≤ p ∧ p ≤ 24) : ∀ (m k : Nat) (v : Int), k ≤ l.length → l.length - k < m → 0 ≤ v → v ≤ 24 * k → DL68_1 n m ps l s v (k : Int) = some (v + usd (ps.drop k) (l.drop k) s)
  | 0, k, v, _, h, _, _ => by omega
  | m + 1, k, v, hk, h, h0, h1 => by
    rw [DL68_1_succ]
    unfold DF68_1
    by_cases hlt : k < l.length
    · have hp := hb _ (List.getElem_mem (show k < ps.length by omega))
      rw [dlt_t hlt, cond_true, idx_nat hlt, Option.bind_some, drop_cons hlt, drop_cons (show k < ps.length by omega)]
      simp only [usd]
      by_cases e : l[k] = s
      · rw [show (l[k] == s) = true by simpa using e, cond_true, idx_nat (by omega : k < ps.length), Option.bind_some]
        unfold DL68_2
        rw [wr_ok (by omega) (by omega), wr_succ (by omega), used_loop n ps l s hl hs hb m (k + 1) _ (by omega) (by omega) (by omega) (by omega), if_pos e]
        congr 1
        omega
      · rw [show (l[k] == s) = false from beq_false_of_ne e, cond_false]
        unfold DL68_2
        rw [wr_succ (by omega), used_loop n ps l s hl hs hb m (k + 1) _ (by omega) (by omega) (by omega) (by omega), if_neg e]
        congr 1
        omega
    · rw [dlt_f hlt, cond_false, List.drop_of_length_le (by omega), List.drop_of_length_le (by omega)]
      simp [usd]
theorem used_eq {n : Nat × Nat} (hn : 1000 ≤ n.1) {ps l : List Int} {s : Int} (hl : l.length = ps.length) (hs : l.length < 900) (hb : ∀ p ∈ ps, 0 ≤ p ∧ p ≤ 24) : D68 n ps l s = some (usd ps l s) := by
  unfold D68
  rw [show (0 : Int) = ((0 : Nat) : Int) from rfl, used_loop n ps l s hl (by omega) hb n.1 0 _ (by omega) (by omega) (by omega) (by omega)]
  simp
/-- The error of sheets' order. -/
def oer : Int → List Int → Int
  | _, [] => 0
  | m, x :: l => if x < 0 then 2 else if m < x then 7 else oer (max m (x + 1)) l
/-- What is left of each sheet. -/
def lf (sz : Int) (ps l : List Int) : List Int := (List.range (mny l).toNat).map fun s : Nat => sz - usd ps l (s : Int)
theorem lf_len (sz : Int) (ps l : List Int) : ((lf sz ps l).length : Int) = mny l := by
  have := mny_nn l
  simp [lf]
  omega
theorem lf_get {sz : Int} {ps l : List Int} {s : Nat} (h : s < (lf sz ps l).length) : (lf sz ps l)[s] = sz - usd ps l (s : Int) := by simp [lf]
theorem lf_step (sz p x : Int) {ps l : List Int} (hl : ps.length = l.length) (h0 : 0 ≤ x) (h1 : x ≤ mny l) :
    lf sz (ps ++ [p]) (l ++ [x]) = (if x = mny l then lf sz ps l ++ [sz] else lf sz ps l).set x.toNat (sz - usd ps l x - p) := by
  have hm := mny_nn l
  have hll := lf_len sz ps l
  apply List.ext_getElem
  · have := lf_len sz (ps ++ [p]) (l ++ [x])
    rw [mny_snoc] at this
    rw [List.length_set]
    split
    · simp only [List.length_append, List.length_cons, List.length_nil]; omega
    · omega
  · intro s h2 h3
    rw [lf_get h2, usd_snoc _ _ _ hl, List.getElem_set]
    by_cases e : x.toNat = s
    · rw [if_pos e, if_pos (show x = (s : Int) by omega), show (s : Int) = x by omega]
      omega
    · rw [if_neg e, if_neg (show ¬ x = (s : Int) by omega)]
      rw [List.length_set] at h3
      split at h3
      · rename_i hx
        simp only [List.length_append, List.length_cons, List.length_nil] at h3
        have h4 : s < (lf sz ps l).length := by omega
        simp only [if_pos hx]
        rw [List.getElem_append_left h4, lf_get h4]
        omega
      · rename_i hx
        simp only [if_neg hx]
        rw [lf_get h3]
        omega
theorem neg_eq (n : Nat × Nat) (x : Int) : D93 n x = some (decide (x < 0)) := rfl
theorem idxn_loop (n : Nat × Nat) (l : List Int) (hs : l.length < 1000) : ∀ (m k : Nat), k ≤ l.length → l.length - k < m → DL79c93_1 n m l (l.length : Int) (k : Int) = some (fnd (fun p => decide (p < 0)) k (l.drop k))
  | 0, k, _, h => by omega
  | m + 1, k, hk, h => by
    rw [DL79c93_1_succ]
    unfold DF79c93_1
    by_cases hlt : k < l.length
    · have ih := idxn_loop n l hs m (k + 1) (by omega) (by omega)
      rw [dlt_t hlt, cond_true, idx_nat hlt, Option.bind_some, neg_eq, Option.bind_some, wr_succ (by omega), ih, drop_cons hlt]
      generalize l.drop (k + 1) = t at *
      generalize l[k] = x at *
      unfold fnd
      by_cases e : x < 0
      · simp [e]
      · simp only [e, decide_false, cond_false, Bool.false_eq_true, if_false]
        cases t <;> rfl
    · rw [dlt_f hlt, cond_false, List.drop_of_length_le (by omega)]
      rfl
theorem anyn_eq {n : Nat × Nat} (hn : 1000 ≤ n.1) (l : List Int) (hs : l.length < 900) : D75c93 n l = some (decide (∃ p ∈ l, p < 0)) := by
  unfold D75c93 D79c93
  have := idxn_loop n l (by omega) n.1 0 (by omega) (by omega)
  rw [show ((0 : Nat) : Int) = 0 from rfl, List.drop_zero] at this
  rw [this, Option.bind_some]
  congr 1
  apply decide_eq_decide.2
  have := fnd_ge (fun p => decide (p < 0)) l 0
  simp only [decide_eq_true_eq] at this
  exact this
/-- What is handed back of a plan whose order has an error, or none. -/
def shOut (sz : Int) (ps l : List Int) (e : Int) : List Int × Int := if e ≠ 0 then ([], e) else if ∃ s ∈ lf sz ps l, s < 0 then ([], 15) else (lf sz ps l, 0)
theorem shOut_err {sz : Int} {ps l : List Int} {e : Int} (h : e ≠ 0) : shOut sz ps l e = ([], e) := if_pos h
theorem sheets_loop (n : Nat × Nat) (hn : 1000 ≤ n.1) {sz : Int} {ps l : List Int} (hj : Job sz ps) (hl : l.length = ps.length) : ∀ (m k : Nat), k ≤ l.length → l.length - k < m → mny (l.take k) ≤ k →
    DL66_1 n m sz ps l (l.length : Int) (k : Int) (lf sz (ps.take k) (l.take k)) = some (shOut sz ps l (oer (mny (l.take k)) (l.drop k)))
  | 0, k, _, h, _ => by omega
  | m + 1, k, hk, h, hmk => by
    have h8 := hj.len
    have hlo := hj.lo
    have hhi := hj.hi
    rw [DL66_1_succ]
    unfold DF66_1
    by_cases hlt : k < l.length
    · have hlp : k < ps.length := by omega
      have hp := hj.ok _ (List.getElem_mem hlp)
      have hm0 := mny_nn (l.take k)
      have hll := lf_len sz (ps.take k) (l.take k)
      have ih := sheets_loop n hn hj hl m (k + 1) (by omega) (by omega)
      have hstep := lf_step sz ps[k] l[k] (ps := ps.take k) (l := l.take k) (by simp; omega)
      have hu0 := usd_nn (s := l[k]) (ps := ps.take k) (l := l.take k) (fun p hp => by have := hj.ok p (List.mem_of_mem_take hp); omega)
      have hu1 := usd_le (s := l[k]) (ps := ps.take k) (l := l.take k) (fun p hp => by have := hj.ok p (List.mem_of_mem_take hp); omega)
      rw [List.length_take] at hu1
      rw [← take_snoc hlt, ← take_snoc hlp] at hstep
      have hmn := mny_snoc (l.take k) l[k]
      rw [← take_snoc hlt] at hmn
      have hget : ∀ (q : List Int), q = (if l[k] = mny (l.take k) then lf sz (ps.take k) (l.take k) ++ [sz] else lf sz (ps.take k) (l.take k)) → 0 ≤ l[k] → l[k] ≤ mny (l.take k) → ∃ h : l[k].toNat < q.length, q[l[k].toNat] = sz - usd (ps.take k) (l.take k) l[k] := by
        rintro q rfl h0 h1
        by_cases e : l[k] = mny (l.take k)
        · rw [if_pos e]
          have hz : usd (ps.take k) (l.take k) l[k] = 0 := usd_none (fun hm => by have := mny_lt hm; omega)
          refine ⟨by simp only [List.length_append, List.length_cons, List.length_nil]; omega, ?_⟩
          rw [hz, List.getElem_append_right (by omega)]
          simp
        · rw [if_neg e]
          refine ⟨by omega, ?_⟩
          rw [lf_get, show ((l[k].toNat : Nat) : Int) = l[k] by omega]
      rw [dlt_t hlt, cond_true, idx_nat hlt, Option.bind_some, drop_cons hlt]
      unfold oer
      generalize hL : lf sz (ps.take k) (l.take k) = L at *
      generalize hU : usd (ps.take k) (l.take k) l[k] = u at *
      generalize hx : l[k] = x at *
      by_cases e1 : x < 0
      · rw [decide_eq_true e1, cond_true, if_pos e1, shOut_err (by omega)]
      · rw [decide_eq_false e1, cond_false, if_neg e1, hll]
        by_cases e2 : mny (l.take k) < x
        · rw [decide_eq_true (show x > mny (l.take k) from e2), cond_true, if_pos e2, shOut_err (by omega)]
        · rw [decide_eq_false (show ¬ x > mny (l.take k) from e2), cond_false, if_neg e2]
          have hstep := hstep (by omega) (by omega)
          have ih := ih (by omega)
          rw [hmn] at ih
          have done : ∀ q : List Int, q = (if x = mny (l.take k) then L ++ [sz] else L) → DL66_2 n (DL66_1 n m) sz ps (k : Int) x l (l.length : Int) (k : Int) q = DL66_1 n m sz ps l (l.length : Int) ((k + 1 : Nat) : Int) (lf sz (ps.take (k + 1)) (l.take (k + 1))) := fun q hq => by
            obtain ⟨hql, hqv⟩ := hget q hq (by omega) (by omega)
            unfold DL66_2
            have hxq : x = (x.toNat : Int) := by omega
            have hin : inB x q.length = true := by rw [hxq]; exact inB_nat hql
            rw [hin, cond_true, idx_int hxq hql, Option.bind_some, idx_nat hlp, Option.bind_some, cond_true, Option.bind_some, hqv, wr_succ (by omega), wr_ok (by omega) (by omega), hstep, ← hq]
          by_cases e3 : x = mny (l.take k)
          · rw [show (x == mny (l.take k)) = true by simpa using e3, cond_true, lim_dec (by omega), cond_true, done _ (by rw [if_pos e3]), ih]
          · rw [show (x == mny (l.take k)) = false from beq_false_of_ne e3, cond_false, done _ (by rw [if_neg e3]), ih]
    · have e : k = l.length := by omega
      subst e
      have hll := lf_len sz ps l
      rw [dlt_f hlt, cond_false, List.take_length, List.drop_length, hl, List.take_length]
      rw [List.take_length] at hmk
      rw [anyn_eq hn _ (by omega), Option.bind_some]
      unfold oer shOut
      rw [if_neg (by simp)]
      by_cases e2 : ∃ s ∈ lf sz ps l, s < 0
      · rw [decide_eq_true e2, cond_true, if_pos e2]
      · rw [decide_eq_false e2, cond_false, if_neg e2]
/-- A plan's error. -/
def vld (sz : Int) (ps l : List Int) : Int := if chk sz ps ≠ 0 then chk sz ps else if l.length ≠ ps.length then 5 else if oer 0 l ≠ 0 then oer 0 l else if ∃ x ∈ l, sz < usd ps l x then 15 else 0
def shts (sz : Int) (ps l : List Int) : List Int × Int := if vld sz ps l ≠ 0 then ([], vld sz ps l) else (lf sz ps l, 0)
theorem over_iff {sz : Int} {ps l : List Int} (hj : Job sz ps) (ho : oer 0 l = 0) : (∃ s ∈ lf sz ps l, s < 0) ↔ ∃ x ∈ l, sz < usd ps l x := by
  have hlo := hj.lo
  have hnn : ∀ (l : List Int) (m : Int), oer m l = 0 → ∀ x ∈ l, 0 ≤ x := by
    intro l
    induction l with
    | nil => intro m _ x hx; simp at hx
    | cons y l ih =>
      intro m h x hx
      unfold oer at h
      split at h
      · omega
      · split at h
        · omega
        · rcases List.mem_cons.1 hx with rfl | hx
          · omega
          · exact ih _ h x hx
  constructor
  · rintro ⟨s, hs, h0⟩
    obtain ⟨i, hi, e⟩ := List.getElem_of_mem hs
    rw [lf_get hi] at e
    by_cases hm : (i : Int) ∈ l
    · exact ⟨i, hm, by omega⟩
    · rw [usd_none hm] at e
      omega
  · rintro ⟨x, hx, h0⟩
    have h1 := hnn l 0 ho x hx
    have h2 := mny_lt hx
    have hll := lf_len sz ps l
    have hi : x.toNat < (lf sz ps l).length := by omega
    refine ⟨(lf sz ps l)[x.toNat], List.getElem_mem hi, ?_⟩
    rw [lf_get hi, show ((x.toNat : Nat) : Int) = x by omega]
    omega
theorem shts_err {sz : Int} {ps l : List Int} {e : Int} (h : vld sz ps l = e) (h0 : e ≠ 0) : shts sz ps l = ([], e) := by unfold shts; rw [h, if_pos h0]
theorem sheets_eq {n : Nat × Nat} (hn : 1000 ≤ n.1) (sz : Int) (ps l : List Int) : D66 n sz ps l = some (shts sz ps l) := by
  unfold D66
  rw [Check_eq hn, Option.bind_some]
  by_cases h1 : chk sz ps = 0
  · have hj := chk_job.1 h1
    rw [h1, bne_self_eq_false, cond_false]
    by_cases h2 : l.length = ps.length
    · rw [show ((l.length : Int) != (ps.length : Int)) = false by simp [h2], cond_false]
      have := sheets_loop n hn hj h2 n.1 0 (by omega) (by have := hj.len; omega) (by simp [mny])
      simp only [List.take_zero, List.drop_zero] at this
      rw [show lf sz [] [] = [] from rfl, show ((0 : Nat) : Int) = 0 from rfl, mny_nil] at this
      rw [this]
      congr 1
      by_cases h3 : oer 0 l = 0
      · have hov := over_iff hj h3
        rw [h3]
        unfold shOut
        rw [if_neg (by simp)]
        by_cases h4 : ∃ x ∈ l, sz < usd ps l x
        · rw [if_pos (hov.2 h4), shts_err (e := 15) (by unfold vld; rw [if_neg (by simpa using h1), if_neg (by simpa using h2), if_neg (by simpa using h3), if_pos h4]) (by omega)]
        · rw [if_neg (fun h => h4 (hov.1 h))]
          have e : vld sz ps l = 0 := by unfold vld; rw [if_neg (by simpa using h1), if_neg (by simpa using h2), if_neg (by simpa using h3), if_neg h4]
          unfold shts
          rw [e, if_neg (by simp)]
      · rw [shOut_err h3, shts_err (e := oer 0 l) (by unfold vld; rw [if_neg (by simpa using h1), if_neg (by simpa using h2), if_pos h3]) h3]
    · rw [show ((l.length : Int) != (ps.length : Int)) = true by simpa using (by omega : (l.length : Int) ≠ ps.length), cond_true, shts_err (e := 5) (by unfold vld; rw [if_neg (by simpa using h1), if_pos h2]) (by omega)]
  · rw [show (chk sz ps != 0) = true by simpa using h1, cond_true, shts_err (e := chk sz ps) (by unfold vld; rw [if_pos h1]) h1]
theorem bounds_hi {k n : Nat} (h : k ≤ n) : bounds none (some (k : Int)) none n = true := by
  unfold bounds
  simp
  omega
def vOut (sz : Int) (ps l : List Int) (e : Int) : Int := if e ≠ 0 then e else if ∃ x ∈ l, sz < usd ps l x then 15 else 0
theorem vOut_err {sz : Int} {ps l : List Int} {e : Int} (h : e ≠ 0) : vOut sz ps l e = e := if_pos h
theorem vOut_zero {sz : Int} {ps l : List Int} : vOut sz ps l 0 = if ∃ x ∈ l, sz < usd ps l x then 15 else 0 := if_neg (fun h => h rfl)
theorem rv3_err (n : Nat × Nat) {sz : Int} {ps l : List Int} {e : Int} (h : e ≠ 0) (m : Nat) (i : Int) : DL29_3 n (m + 1) sz ps l e i = some e := by
  rw [DL29_3_succ]
  unfold DF29_3
  rw [show (e == 0) = false from beq_false_of_ne h]
  by_cases hi : i < (l.length : Int)
  · rw [decide_eq_true hi]; rfl
  · rw [decide_eq_false hi]; rfl
theorem rv1_err (n : Nat × Nat) (hn : 1000 ≤ n.1) {sz : Int} {ps l : List Int} {e : Int} (h : e ≠ 0) (m : Nat) (i : Int) : DL29_1 n (m + 1) sz ps l e i = some e := by
  rw [DL29_1_succ]
  unfold DF29_1
  obtain ⟨q, hq⟩ : ∃ q, n.1 = q + 1 := ⟨n.1 - 1, by omega⟩
  rw [show (e == 0) = false from beq_false_of_ne h]
  by_cases hi : i < (l.length : Int)
  · rw [decide_eq_true hi]
    simp only [beq_self_eq_true, cond_true, Option.bind_some, cond_false]
    rw [hq, rv3_err n h]
  · rw [decide_eq_false hi]
    simp only [show (false == true) = false from rfl, cond_false, Option.bind_some]
    rw [hq, rv3_err n h]
theorem rv3_loop (n : Nat × Nat) (hn : 1000 ≤ n.1) {sz : Int} {ps l : List Int} (hj : Job sz ps) (hl : l.length = ps.length) : ∀ (m k : Nat), k ≤ l.length → l.length - k + 1 < m → DL29_3 n m sz ps l 0 (k : Int) = some (if ∃ x ∈ l.drop k, sz < usd ps l x then 15 else 0)
  | 0, k, _, h => by omega
  | m + 1, k, hk, h => by
    have h8 := hj.len
    rw [DL29_3_succ]
    unfold DF29_3
    by_cases hlt : k < l.length
    · have ih := rv3_loop n hn hj hl m (k + 1) (by omega) (by omega)
      rw [dlt_t hlt]
      simp only [beq_self_eq_true, cond_true, Option.bind_some]
      rw [idx_nat hlt, Option.bind_some, used_eq hn hl (by omega) (fun p hp => by have := hj.ok p hp; have := hj.hi; omega), Option.bind_some, drop_cons hlt]
      generalize l.drop (k + 1) = t at *
      generalize l[k] = x at *
      unfold DL29_4
      by_cases e : sz < usd ps l x
      · obtain ⟨q, hq⟩ : ∃ q, m = q + 1 := ⟨m - 1, by omega⟩
        rw [decide_eq_true (show usd ps l x > sz from e), cond_true, wr_succ (by omega), hq, rv3_err n (by omega), if_pos ⟨x, by simp, e⟩]
      · rw [decide_eq_false (show ¬ usd ps l x > sz from e), cond_false, wr_succ (by omega), ih]
        simp [e]
    · rw [dlt_f hlt, List.drop_of_length_le (by omega)]
      simp
theorem rv1_loop (n : Nat × Nat) (hn : 1000 ≤ n.1) {sz : Int} {ps l : List Int} (hj : Job sz ps) (hl : l.length = ps.length) : ∀ (m k : Nat), k ≤ l.length → l.length - k + 1 < m → mny (l.take k) ≤ k → (∀ x ∈ l.take k, 0 ≤ x) →
    DL29_1 n m sz ps l 0 (k : Int) = some (vOut sz ps l (oer (mny (l.take k)) (l.drop k)))
  | 0, k, _, h, _, _ => by omega
  | m + 1, k, hk, h, hmk, h0 => by
    have h8 := hj.len
    rw [DL29_1_succ]
    unfold DF29_1
    obtain ⟨q, hq⟩ : ∃ q, m = q + 1 := ⟨m - 1, by omega⟩
    by_cases hlt : k < l.length
    · have ih := rv1_loop n hn hj hl m (k + 1) (by omega) (by omega)
      have hmn := mny_snoc (l.take k) l[k]
      rw [← take_snoc hlt] at hmn
      have hm0 := mny_nn (l.take k)
      rw [dlt_t hlt]
      simp only [beq_self_eq_true, cond_true, Option.bind_some]
      rw [idx_nat hlt, Option.bind_some, drop_cons hlt]
      have hx0 : ∀ x ∈ l.take (k + 1), x ∈ l.take k ∨ x = l[k] := fun x hx => by
        rw [take_snoc hlt] at hx
        exact (List.mem_append.1 hx).imp id List.mem_singleton.1
      rw [hmn] at ih
      generalize hx : l[k] = x at *
      unfold oer DL29_2
      by_cases e1 : x < 0
      · rw [decide_eq_true e1, cond_true, if_pos e1, vOut_err (by omega), wr_succ (by omega), hq, rv1_err n hn (by omega)]
      · rw [decide_eq_false e1, cond_false, if_neg e1, Option.bind_some, bounds_hi hk, cond_true, Int.toNat_natCast, many_eq hn (by simp; omega) (fun y hy => by have := mny_lt hy; have := h0 y hy; omega), Option.bind_some]
        by_cases e2 : mny (l.take k) < x
        · rw [decide_eq_true (show x > mny (l.take k) from e2), cond_true, if_pos e2, vOut_err (by omega), wr_succ (by omega), hq, rv1_err n hn (by omega)]
        · rw [decide_eq_false (show ¬ x > mny (l.take k) from e2), cond_false, if_neg e2, wr_succ (by omega), ih (by omega) (fun y hy => by rcases hx0 y hy with h | h; exact h0 y h; omega)]
    · have e : k = l.length := by omega
      subst e
      rw [dlt_f hlt, List.drop_length]
      simp only [show (false == true) = false from rfl, cond_false, Option.bind_some]
      have := rv3_loop n hn hj hl n.1 0 (by omega) (by omega)
      rw [show ((0 : Nat) : Int) = 0 from rfl, List.drop_zero] at this
      rw [this]
      unfold oer
      rw [vOut_zero]
theorem rValid_eq {n : Nat × Nat} (hn : 1000 ≤ n.1) (sz : Int) (ps l : List Int) : D29 n sz ps l = some (vld sz ps l) := by
  unfold D29
  rw [rCheck_eq hn, Option.bind_some]
  obtain ⟨q, hq⟩ : ∃ q, n.1 = q + 1 := ⟨n.1 - 1, by omega⟩
  by_cases h1 : chk sz ps = 0
  · have hj := chk_job.1 h1
    rw [h1]
    simp only [beq_self_eq_true, cond_true, Option.bind_some]
    by_cases h2 : l.length = ps.length
    · rw [show ((l.length : Int) != (ps.length : Int)) = false by simp [h2], cond_false]
      have := rv1_loop n hn hj h2 n.1 0 (by omega) (by have := hj.len; omega) (by simp [mny]) (by simp)
      simp only [List.take_zero, List.drop_zero] at this
      rw [show ((0 : Nat) : Int) = 0 from rfl, mny_nil] at this
      rw [this]
      congr 1
      unfold vOut vld
      rw [if_neg (show ¬ chk sz ps ≠ 0 by simpa using h1), if_neg (show ¬ l.length ≠ ps.length by simpa using h2)]
    · rw [show ((l.length : Int) != (ps.length : Int)) = true by simpa using (by omega : (l.length : Int) ≠ ps.length), cond_true, hq, rv1_err n hn (by omega)]
      unfold vld
      rw [if_neg (by simpa using h1), if_pos h2]
  · rw [show (chk sz ps == 0) = false from beq_false_of_ne h1]
    simp only [show (false == true) = false from rfl, cond_false, Option.bind_some]
    rw [hq, rv1_err n hn h1]
    unfold vld
    rw [if_pos h1]
/-- A plan that is one. -/
structure Pln (sz : Int) (ps l : List Int) : Prop where
  job : Job sz ps
  len : l.length = ps.length
  ord : oer 0 l = 0
  fit : ∀ x ∈ l, usd ps l x ≤ sz
theorem vld_pln {sz : Int} {ps l : List Int} : vld sz ps l = 0 ↔ Pln sz ps l := by
  unfold vld
  constructor
  · intro h
    split at h
    · omega
    · rename_i h1
      split at h
      · omega
      · rename_i h2
        split at h
        · omega
        · rename_i h3
          split at h
          · omega
          · rename_i h4
            refine ⟨chk_job.1 (by simpa using h1), by simpa using h2, by simpa using h3, fun x hx => ?_⟩
            have : ¬ sz < usd ps l x := fun hh => h4 ⟨x, hx, hh⟩
            omega
  · intro h
    rw [if_neg (by simpa using chk_job.2 h.job), if_neg (by simpa using h.len), if_neg (by simpa using h.ord), if_neg]
    rintro ⟨x, hx, h0⟩
    have := h.fit x hx
    omega
theorem oer_bnd : ∀ (l : List Int) (m : Int), 0 ≤ m → oer m l = 0 → (∀ x ∈ l, 0 ≤ x ∧ x < m + l.length) ∧ l.foldl (fun a s => max a (s + 1)) m ≤ m + l.length
  | [], m, _, _ => by simp
  | x :: l, m, hm, h => by
    unfold oer at h
    split at h
    · omega
    · split at h
      · omega
      · obtain ⟨h1, h2⟩ := oer_bnd l _ (by omega) h
        rw [List.foldl_cons, List.length_cons]
        refine ⟨fun y hy => ?_, by omega⟩
        rcases List.mem_cons.1 hy with rfl | hy
        · omega
        · have := h1 y hy
          omega
theorem Pln.rng {sz : Int} {ps l : List Int} (h : Pln sz ps l) : ∀ x ∈ l, 0 ≤ x ∧ x ≤ 100000 := fun x hx => by
  have := (oer_bnd l 0 (by omega) h.ord).1 x hx
  have := h.job.len
  have := h.len
  omega
theorem Pln.mny {sz : Int} {ps l : List Int} (h : Pln sz ps l) : mny l ≤ 8 := by
  have h1 := (oer_bnd l 0 (by omega) h.ord).2
  have := h.job.len
  have := h.len
  unfold Proofs.YtgmonagekfjnmaaDoor.mny
  omega
/-- The groups' numbers, put where their pieces are: an error, or none, and what there is. -/
def pin (g : Int) : List Int → List Int → Int × List Int
  | [], out => (0, out)
  | x :: r, out => if x < 0 ∨ (out.length : Int) ≤ x then (2, out) else if 0 ≤ out.getD x.toNat 0 then (6, out) else pin g r (out.set x.toNat g)
theorem rep_eq : ∀ k ≤ 8, D69 N [-1] ((k : Nat) : Int) = some (List.replicate k (-1))
  | 0, _ => by kernel_rfl
  | 1, _ => by kernel_rfl
  | 2, _ => by kernel_rfl
  | 3, _ => by kernel_rfl
  | 4, _ => by kernel_rfl
  | 5, _ => by kernel_rfl
  | 6, _ => by kernel_rfl
  | 7, _ => by kernel_rfl
  | 8, _ => by kernel_rfl
  | k + 9, h => by omega
end Go.Proofs.YtgmonagekfjnmaaDoor
/-
  Sheets: the search, for any function that is handed plans.
-/
set_option linter.unusedVariables false
set_option linter.unusedSimpArgs false
namespace Go.Proofs.YtgmonagekfjnmaaDoor
open Go.Vi
/-! All plans with at most so many sheets that begin with some numbers, in ascending order. -/
def rm (sz : Int) (L : List Int) (s : Nat) : Int := L.getD s sz
def up (sz : Int) (L : List Int) (s : Nat) (p : Int) : List Int := (if s = L.length then L ++ [sz] else L).set s (rm sz L s - p)
def pl (sz : Int) (mo : Nat) : List Int → List Int → List Int → List (List Int)
  | [], b, _ => [b]
  | p :: r, b, L => (List.range' 0 (min (L.length + 1) mo)).flatMap fun s => if p ≤ rm sz L s then pl sz mo r (b ++ [(s : Int)]) (up sz L s p) else []
/-- A function handed all plans, as long as it returns true. -/
def fv {V : Type} (c : List Int → V → Bool × V) : List (List Int) → V → Bool × V
  | [], v => (true, v)
  | q :: r, v => if (c q v).1 then fv c r (c q v).2 else (false, (c q v).2)
theorem fv_app {V : Type} (c : List Int → V → Bool × V) (b : List (List Int)) : ∀ (a : List (List Int)) (v : V), fv c (a ++ b) v = if (fv c a v).1 then fv c b (fv c a v).2 else (false, (fv c a v).2)
  | [], v => by simp [fv]
  | q :: r, v => by
    have e1 : ∀ l, fv c (q :: l) v = if (c q v).1 then fv c l (c q v).2 else (false, (c q v).2) := fun _ => rfl
    rw [List.cons_append, e1, e1]
    by_cases h : (c q v).1 = true
    · rw [if_pos h, if_pos h, fv_app c b r]
    · rw [if_neg h, if_neg h]; rfl
/-! The search's three places. -/
section
variable {V : Type}
abbrev SR (V : Type) := Unit × V × Unit
abbrev FN (V : Type) := Int → List Int → Int → Int → V → List Int → List Int → Option (SR V)
def lpF (b x f2 : FN V) : FN V := fun size0 pieces1 most2 i10 v plan8 left9 =>
    (bif inB i10 plan8.length then (idx plan8 i10).bind fun x21' =>
      (bif inB i10 plan8.length then (idx plan8 i10).bind fun x22' =>
        (bif inB i10 (plan8.set (Int.toNat i10) (wr .i64 (x21' + 1))).length then (idx (plan8.set (Int.toNat i10) (wr .i64 (x21' + 1))) i10).bind fun x23' =>
          ((bif (decide (x23' ≥ most2) == false) then ((bif (decide (x23' > 0) == true) then (bif inB (wr .i64 (x23' - 1)) left9.length then (idx left9 (wr .i64 (x23' - 1))).bind fun x24' =>
                    some (x24' == size0)
                  else none)
                else some false)).bind fun b25' =>
              some b25'
            else some true)).bind fun b26' =>
          (bif b26' then (bif inB i10 (plan8.set (Int.toNat i10) (wr .i64 (x21' + 1))).length then (idx (plan8.set (Int.toNat i10) (wr .i64 (x21' + 1))) i10).bind fun x27' =>
              b size0 pieces1 most2 i10 v ((plan8.set (Int.toNat i10) (wr .i64 (x21' + 1))).set (Int.toNat i10) (-1)) left9
            else none)
          else (bif inB x23' left9.length then (idx left9 x23').bind fun x28' =>
              (idx pieces1 i10).bind fun x29' =>
              (bif decide (x28' ≥ x29') then (bif inB x23' left9.length then (idx left9 x23').bind fun x30' =>
                  (idx pieces1 i10).bind fun x31' =>
                  (bif inB x23' left9.length then (idx left9 x23').bind fun x32' =>
                    x size0 pieces1 most2 (wr .i64 (i10 + 1)) v (plan8.set (Int.toNat i10) (wr .i64 (x21' + 1))) (left9.set (Int.toNat x23') (wr .i64 (x30' - x31')))
                  else none)
                else none)
              else f2 size0 pieces1 most2 i10 v (plan8.set (Int.toNat i10) (wr .i64 (x21' + 1))) left9)
            else none))
        else none)
      else none)
    else none)
def LP (b x : FN V) : Nat → FN V
  | 0 => fun _ _ _ _ _ _ _ => none
  | q + 1 => lpF b x (LP b x q)
def bkF (x : FN V) : FN V := fun size0 pieces1 most2 i10 v plan8 left9 =>
    (bif decide (wr .i64 (i10 - 1) < 0) then some ((), v, ())
    else (bif inB (wr .i64 (i10 - 1)) plan8.length then (idx plan8 (wr .i64 (i10 - 1))).bind fun x4' =>
        (bif inB x4' left9.length then (idx left9 x4').bind fun x5' =>
          (idx pieces1 (wr .i64 (i10 - 1))).bind fun x6' =>
          (bif inB x4' left9.length then (idx left9 x4').bind fun x7' =>
            x size0 pieces1 most2 (wr .i64 (i10 - 1)) v plan8 (left9.set (Int.toNat x4') (wr .i64 (x5' + x6')))
          else none)
        else none)
      else none))
def nxF (C : List Int → V → Option (Bool × List Int × V × Unit)) (q0 : Nat) (b x : FN V) : FN V := fun size0 pieces1 most2 i10 v plan8 left9 =>
    (bif (i10 == (pieces1.length : Int)) then (C plan8 v).bind fun r20' =>
      (bif Nat.beq r20'.2.1.length plan8.length then (bif (!r20'.1) then some ((), r20'.2.2.1, ())
        else b size0 pieces1 most2 i10 r20'.2.2.1 r20'.2.1 left9)
      else none)
    else LP b x q0 size0 pieces1 most2 i10 v plan8 left9)
def GB (C : List Int → V → Option (Bool × List Int × V × Unit)) (q0 : Nat) : Nat → FN V × FN V
  | 0 => ((fun _ _ _ _ _ _ _ => none), (fun _ _ _ _ _ _ _ => none))
  | m + 1 => (bkF (GB C q0 m).2, nxF C q0 (GB C q0 m).1 (GB C q0 m).2)
def srch (C : List Int → V → Option (Bool × List Int × V × Unit)) (q0 : Nat) (size0 : Int) (pieces1 : List Int) (most2 : Int) (cp : V) (r1' r2' : List Int) : Option (SR V) :=
    (bif (0 == (pieces1.length : Int)) then (C r1' cp).bind fun r3' =>
      (bif Nat.beq r3'.2.1.length r1'.length then (bif (!r3'.1) then some ((), r3'.2.2.1, ())
        else (GB C q0 q0).1 size0 pieces1 most2 0 r3'.2.2.1 r3'.2.1 r2')
      else none)
    else LP (GB C q0 q0).1 (GB C q0 q0).2 q0 size0 pieces1 most2 0 cp r1' r2')
theorem idx_app {α : Type} (b : List α) (t : α) (R : List α) : idx (b ++ t :: R) (b.length : Int) = some t := by
  rw [idx_nat (by simp)]
  simp
theorem set_app {α : Type} (b : List α) (t y : α) (R : List α) : (b ++ t :: R).set (Int.toNat (b.length : Int)) y = b ++ y :: R := by
  rw [Int.toNat_natCast]
  simp [List.set_append]
def fil (sz : Int) (mo : Nat) (L : List Int) : List Int := L ++ List.replicate (mo - L.length) sz
theorem fil_len {sz : Int} {mo : Nat} {L : List Int} (h : L.length ≤ mo) : (fil sz mo L).length = mo := by simp [fil]; omega
theorem fil_get {sz : Int} {mo : Nat} {L : List Int} {s : Nat} (hs : s < (fil sz mo L).length) : (fil sz mo L)[s] = rm sz L s := by
  unfold fil rm at *
  by_cases h : s < L.length
  · rw [List.getElem_append_left h, List.getD_eq_getElem?_getD, List.getElem?_eq_getElem h, Option.getD_some]
  · rw [List.getElem_append_right (by omega), List.getElem_replicate, List.getD_eq_getElem?_getD, List.getElem?_eq_none (by omega), Option.getD_none]
theorem fil_up {sz : Int} {mo : Nat} {L : List Int} {s : Nat} (p : Int) (h1 : s ≤ L.length) (h2 : s < mo) : (fil sz mo L).set s (rm sz L s - p) = fil sz mo (up sz L s p) := by
  unfold up
  generalize rm sz L s - p = y
  unfold fil
  by_cases h : s = L.length
  · rw [if_pos h]
    subst h
    obtain ⟨k, hk⟩ : ∃ k, mo - L.length = k + 1 := ⟨mo - L.length - 1, by omega⟩
    rw [hk, List.replicate_succ, List.set_append, if_neg (by omega), Nat.sub_self, List.set_cons_zero, List.set_append, if_neg (by omega), Nat.sub_self, List.set_cons_zero]
    simp only [List.length_append, List.length_cons, List.length_nil, List.append_assoc, List.singleton_append]
    rw [show mo - (L.length + (0 + 1)) = k by omega]
  · rw [if_neg h, List.set_append, if_pos (by omega), List.length_set]
theorem fil_back {sz : Int} {mo : Nat} {L : List Int} {s : Nat} (p : Int) (h1 : s ≤ L.length) (h2 : s < mo) (h3 : L.length ≤ mo) : (fil sz mo (up sz L s p)).set s (rm sz L s) = fil sz mo L := by
  rw [← fil_up p h1 h2, List.set_set]
  have hs : s < (fil sz mo L).length := by rw [fil_len h3]; exact h2
  rw [← fil_get hs]
  simp
theorem up_len {sz : Int} {L : List Int} {s : Nat} (p : Int) (h1 : s ≤ L.length) : (up sz L s p).length = max L.length (s + 1) := by
  unfold up
  rw [List.length_set]
  split
  · simp; omega
  · omega
theorem rm_get {sz : Int} {L : List Int} {s : Nat} (hs : s < L.length) : rm sz L s = L[s] := by unfold rm; rw [List.getD_eq_getElem?_getD, List.getElem?_eq_getElem hs, Option.getD_some]
theorem up_get {sz : Int} {L : List Int} {s i : Nat} (p : Int) (hi : i < (up sz L s p).length) : (up sz L s p)[i] = if s = i then rm sz L s - p else rm sz L i := by
  unfold up at hi ⊢
  rw [List.getElem_set]
  split
  · rfl
  · rename_i hne
    rw [List.length_set] at hi
    split
    · rename_i he
      simp only [if_pos he, List.length_append, List.length_cons, List.length_nil] at hi
      rw [List.getElem_append_left (by omega)]
      exact (rm_get _).symm
    · rename_i he
      simp only [if_neg he] at hi
      exact (rm_get _).symm
theorem rm_up {sz : Int} {L : List Int} {s : Nat} (p : Int) (h1 : s ≤ L.length) : rm sz (up sz L s p) s = rm sz L s - p := by
  have h := up_len (sz := sz) p h1
  have hs : s < (up sz L s p).length := by omega
  rw [rm_get hs, up_get p hs, if_pos rfl]
theorem up_mem {sz : Int} {L : List Int} {s : Nat} {p : Int} (h1 : s ≤ L.length) : ∀ x ∈ up sz L s p, x = rm sz L s - p ∨ x ∈ L := fun x hx => by
  obtain ⟨i, hi, e⟩ := List.getElem_of_mem hx
  have hl := up_len (sz := sz) p h1
  rw [up_get p hi] at e
  split at e
  · exact .inl e.symm
  · rename_i hne
    right
    rw [rm_get (by omega)] at e
    rw [← e]
    exact List.getElem_mem _
theorem rm_rng {sz : Int} {L : List Int} (hL : ∀ x ∈ L, 0 ≤ x ∧ x < sz) (h : 0 ≤ sz) (s : Nat) : 0 ≤ rm sz L s ∧ rm sz L s ≤ sz := by
  unfold rm
  by_cases hs : s < L.length
  · rw [List.getD_eq_getElem?_getD, List.getElem?_eq_getElem hs, Option.getD_some]
    have := hL _ (List.getElem_mem hs)
    omega
  · rw [List.getD_eq_getElem?_getD, List.getElem?_eq_none (by omega), Option.getD_none]
    omega
theorem up_rng {sz : Int} {L : List Int} {s : Nat} {p : Int} (hL : ∀ x ∈ L, 0 ≤ x ∧ x < sz) (h : 0 ≤ sz) (h1 : s ≤ L.length) (hp : 1 ≤ p) (hf : p ≤ rm sz L s) : ∀ x ∈ up sz L s p, 0 ≤ x ∧ x < sz := fun x hx => by
  have := rm_rng hL h s
  rcases up_mem h1 x hx with e | e
  · omega
  · exact hL x e
/-! The loop over the sheets for one piece. -/
structure SI (sz : Int) (mo : Nat) (ps : List Int) (b L : List Int) : Prop where
  job : Job sz ps
  le : b.length ≤ ps.length
  lm : L.length ≤ mo
  lb : L.length ≤ b.length
  rng : ∀ x ∈ L, 0 ≤ x ∧ x < sz
  mo : mo ≤ 1000
theorem SI.child {sz : Int} {mo : Nat} {ps b L : List Int} (h : SI sz mo ps b L) (hb : b.length < ps.length) {s : Nat} (h1 : s ≤ L.length) (h2 : s < mo) (hf : ps[b.length] ≤ rm sz L s) : SI sz mo ps (b ++ [(s : Int)]) (up sz L s ps[b.length]) := by
  have hl := up_len (sz := sz) ps[b.length] h1
  have := h.lm
  have := h.lb
  have := h.job.lo
  have hp := h.job.ok _ (List.getElem_mem hb)
  exact ⟨h.job, by simp; omega, by omega, by simp; omega, up_rng h.rng (by omega) h1 hp.1 hf, h.mo⟩
variable {b1 x1 f2 : FN V} {sz : Int} {mo : Nat} {ps b L : List Int}
theorem lp_end (h : SI sz mo ps b L) (hb : b.length < ps.length) (v : V) (R : List Int) :
    lpF b1 x1 f2 sz ps mo (b.length : Int) v (b ++ (((min (L.length + 1) mo : Nat) : Int) - 1) :: R) (fil sz mo L) = b1 sz ps mo (b.length : Int) v (b ++ (-1) :: R) (fil sz mo L) := by
  have := h.mo
  have := h.lm
  have h8 := h.job.len
  have hlb := h.lb
  have hfl := fil_len (sz := sz) h.lm
  generalize hM : min (L.length + 1) mo = M
  unfold lpF
  rw [inB_nat (by simp), cond_true, idx_app, Option.bind_some, cond_true, Option.bind_some, wr_ok (by omega) (by omega), show (M : Int) - 1 + 1 = M by omega, set_app, inB_nat (by simp), cond_true, idx_app, Option.bind_some, cond_true, Option.bind_some, set_app]
  by_cases e : mo ≤ M
  · rw [decide_eq_true (show (M : Int) ≥ mo by omega)]
    simp only [show (true == false) = false from rfl, cond_false, Option.bind_some, cond_true]
  · have hM1 : M = L.length + 1 := by omega
    rw [decide_eq_false (show ¬ (M : Int) ≥ mo by omega), decide_eq_true (show (M : Int) > 0 by omega), wr_ok (by omega) (by omega), show (M : Int) - 1 = (L.length : Int) by omega, inB_nat (by omega), idx_nat (by omega), fil_get (by omega)]
    have : rm sz L L.length = sz := by unfold rm; rw [List.getD_eq_getElem?_getD, List.getElem?_eq_none (by omega), Option.getD_none]
    rw [this]
    simp only [beq_self_eq_true, cond_true, Option.bind_some]
/-- One sheet, which is used or the next one: whether the piece has room. -/
theorem lp_one (h : SI sz mo ps b L) (hb : b.length < ps.length) (v : V) (R : List Int) {s : Nat} (h1 : s ≤ L.length) (h2 : s < mo) :
    lpF b1 x1 f2 sz ps mo (b.length : Int) v (b ++ ((s : Int) - 1) :: R) (fil sz mo L) =
      if ps[b.length] ≤ rm sz L s then x1 sz ps mo ((b.length + 1 : Nat) : Int) v (b ++ (s : Int) :: R) (fil sz mo (up sz L s ps[b.length])) else f2 sz ps mo (b.length : Int) v (b ++ (s : Int) :: R) (fil sz mo L) := by
  have := h.mo
  have := h.lm
  have h8 := h.job.len
  have hlb := h.lb
  have hlo := h.job.lo
  have hhi := h.job.hi
  have hfl := fil_len (sz := sz) h.lm
  have hp := h.job.ok _ (List.getElem_mem hb)
  have hr := rm_rng h.rng (by omega) s
  unfold lpF
  rw [inB_nat (by simp), cond_true, idx_app, Option.bind_some, cond_true, Option.bind_some, wr_ok (by omega) (by omega), show (s : Int) - 1 + 1 = s by omega, set_app, inB_nat (by simp), cond_true, idx_app, Option.bind_some, cond_true, Option.bind_some, set_app]
  rw [decide_eq_false (show ¬ (s : Int) ≥ mo by omega)]
  have hc : ((bif (decide ((s : Int) > 0) == true) then (bif inB (wr .i64 ((s : Int) - 1)) (fil sz mo L).length then (idx (fil sz mo L) (wr .i64 ((s : Int) - 1))).bind fun x24' => some (x24' == sz) else none) else some false)) = some false := by
    by_cases e : s = 0
    · subst e; rfl
    · rw [decide_eq_true (show (s : Int) > 0 by omega), wr_ok (by omega) (by omega), show (s : Int) - 1 = ((s - 1 : Nat) : Int) by omega, inB_nat (by omega), idx_nat (by omega), fil_get (by omega)]
      simp only [beq_self_eq_true, cond_true, Option.bind_some]
      have hs : s - 1 < L.length := by omega
      have e2 : rm sz L (s - 1) = L[s - 1] := by unfold rm; rw [List.getD_eq_getElem?_getD, List.getElem?_eq_getElem hs, Option.getD_some]
      have := h.rng _ (List.getElem_mem hs)
      rw [e2, beq_false_of_ne (by omega)]
  simp only [beq_self_eq_true, cond_true]
  rw [hc]
  simp only [Option.bind_some, cond_false]
  rw [inB_nat (by omega : s < (fil sz mo L).length), idx_nat (by omega : s < (fil sz mo L).length), fil_get (by omega), idx_nat hb]
  simp only [Option.bind_some, cond_true]
  by_cases e : ps[b.length] ≤ rm sz L s
  · rw [decide_eq_true (show rm sz L s ≥ ps[b.length] from e), if_pos e, cond_true, wr_ok (x := rm sz L s - ps[b.length]) (by omega) (by omega), Int.toNat_natCast, fil_up _ h1 h2, wr_succ (by omega)]
  · rw [decide_eq_false (show ¬ rm sz L s ≥ ps[b.length] from e), if_neg e, cond_false]
/-! All of it. -/
def fu : Nat → Nat → Nat
  | 0, _ => 1
  | r + 1, i => 1 + (i + 1) * (2 + fu r (i + 1))
/-- What a function does that is handed plans and hands them back. -/
def Pure (C : List Int → V → Option (Bool × List Int × V × Unit)) (c : List Int → V → Bool × V) : Prop := ∀ (q : List Int) (v : V), q.length ≤ 8 → C q v = some ((c q v).1, q, (c q v).2, ())
variable {C : List Int → V → Option (Bool × List Int × V × Unit)} {c : List Int → V → Bool × V} {q0 : Nat}
theorem srch_leaf (hC : Pure C c) (h : SI sz mo ps b L) (hb : b.length = ps.length) (v : V) (m : Nat) :
    (GB C q0 (m + 1)).2 sz ps mo (b.length : Int) v b (fil sz mo L) = if (fv c [b] v).1 then (GB C q0 m).1 sz ps mo (b.length : Int) (fv c [b] v).2 b (fil sz mo L) else some ((), (fv c [b] v).2, ()) := by
  show nxF C q0 _ _ sz ps mo (b.length : Int) v b (fil sz mo L) = _
  unfold nxF
  have := h.job.len
  rw [show ((b.length : Int) == (ps.length : Int)) = true by simp [hb], cond_true, hC b v (by omega), Option.bind_some, show Nat.beq b.length b.length = true by simp, cond_true]
  unfold fv
  by_cases e : (c b v).1 = true
  · simp only [e, Bool.not_true, cond_false, if_true, fv]
  · simp only [Bool.not_eq_true] at e
    simp only [e, Bool.not_false, cond_true, Bool.false_eq_true, if_false]
/-- Back from a piece's sheet. -/
theorem srch_back (h : SI sz mo ps b L) (hb : b.length < ps.length) (v : V) (R : List Int) {s : Nat} (h1 : s ≤ L.length) (h2 : s < mo) (hf : ps[b.length] ≤ rm sz L s) (m : Nat) :
    (GB C q0 (m + 1)).1 sz ps mo ((b.length + 1 : Nat) : Int) v (b ++ (s : Int) :: R) (fil sz mo (up sz L s ps[b.length])) = (GB C q0 m).2 sz ps mo (b.length : Int) v (b ++ (s : Int) :: R) (fil sz mo L) := by
  have h8 := h.job.len
  have hlo := h.job.lo
  have hhi := h.job.hi
  have hlm := h.lm
  have hp := h.job.ok _ (List.getElem_mem hb)
  have hr := rm_rng h.rng (by omega) s
  have hul := up_len (sz := sz) ps[b.length] h1
  have hfl := fil_len (sz := sz) (mo := mo) (L := up sz L s ps[b.length]) (by omega)
  show bkF _ sz ps mo _ v _ _ = _
  unfold bkF
  rw [wr_ok (by omega) (by omega), show ((b.length + 1 : Nat) : Int) - 1 = (b.length : Int) by omega, decide_eq_false (by omega), cond_false, inB_nat (by simp), cond_true, idx_app, Option.bind_some, inB_nat (by omega), cond_true, idx_nat (by omega : s < (fil sz mo (up sz L s ps[b.length])).length), Option.bind_some, idx_nat hb, Option.bind_some, cond_true, Option.bind_some, fil_get (by omega), rm_up _ h1, wr_ok (by omega) (by omega), Int.toNat_natCast, show rm sz L s - ps[b.length] + ps[b.length] = rm sz L s by omega, fil_back _ h1 h2 hlm]
theorem srch_node (hC : Pure C c) (hq : 1100 ≤ q0) : ∀ (r b L : List Int), SI sz mo ps b L → ps.drop b.length = r → ∀ v, ∃ K, K ≤ fu r.length b.length ∧ ∀ m,
    (GB C q0 (m + K)).2 sz ps mo (b.length : Int) v (b ++ List.replicate (ps.length - b.length) (-1)) (fil sz mo L) = if (fv c (pl sz mo r b L) v).1 then (GB C q0 m).1 sz ps mo (b.length : Int) (fv c (pl sz mo r b L) v).2 (b ++ List.replicate (ps.length - b.length) (-1)) (fil sz mo L) else some ((), (fv c (pl sz mo r b L) v).2, ()) := by
  intro r
  induction r with
  | nil =>
    intro b L h hr v
    have hle := h.le
    have hb : b.length = ps.length := by have := List.drop_eq_nil_iff.1 hr; omega
    refine ⟨1, Nat.le_refl _, fun m => ?_⟩
    rw [hb, Nat.sub_self, List.replicate_zero, List.append_nil, ← hb]
    exact srch_leaf hC h hb v m
  | cons p r ih =>
    intro b L h hr v
    have hb : b.length < ps.length := by
      rcases Nat.lt_or_ge b.length ps.length with h | h
      · exact h
      · rw [List.drop_eq_nil_of_le h] at hr; cases hr
    have hp : ps[b.length] = p ∧ ps.drop (b.length + 1) = r := by
      rw [drop_cons hb] at hr
      exact ⟨(List.cons.inj hr).1, (List.cons.inj hr).2⟩
    obtain ⟨hp1, hp2⟩ := hp
    have hmo := h.mo
    have hlm := h.lm
    have hlb := h.lb
    have h8 := h.job.len
    -- the loop from some sheet on
    have loop : ∀ (d s : Nat), s + d = min (L.length + 1) mo → ∀ (v : V) (q : Nat), d < q → ∃ K, K ≤ d * (2 + fu r.length (b.length + 1)) ∧ ∀ m,
        LP (GB C q0 (m + K)).1 (GB C q0 (m + K)).2 q sz ps mo (b.length : Int) v (b ++ ((s : Int) - 1) :: List.replicate (ps.length - (b.length + 1)) (-1)) (fil sz mo L) =
          if (fv c ((List.range' s d).flatMap fun s => if p ≤ rm sz L s then pl sz mo r (b ++ [(s : Int)]) (up sz L s p) else []) v).1 then (GB C q0 m).1 sz ps mo (b.length : Int) (fv c ((List.range' s d).flatMap fun s => if p ≤ rm sz L s then pl sz mo r (b ++ [(s : Int)]) (up sz L s p) else []) v).2 (b ++ (-1) :: List.replicate (ps.length - (b.length + 1)) (-1)) (fil sz mo L)
          else some ((), (fv c ((List.range' s d).flatMap fun s => if p ≤ rm sz L s then pl sz mo r (b ++ [(s : Int)]) (up sz L s p) else []) v).2, ()) := by
      intro d
      induction d with
      | zero =>
        intro s hs v q hq1
        obtain ⟨q, rfl⟩ : ∃ k, q = k + 1 := ⟨q - 1, by omega⟩
        refine ⟨0, Nat.zero_le _, fun m => ?_⟩
        have := lp_end (b1 := (GB C q0 m).1) (x1 := (GB C q0 m).2) (f2 := LP (GB C q0 m).1 (GB C q0 m).2 q) h hb v (List.replicate (ps.length - (b.length + 1)) (-1))
        rw [← hs, Nat.add_zero] at this
        exact this
      | succ d ihd =>
        intro s hs v q hq1
        obtain ⟨q, rfl⟩ : ∃ k, q = k + 1 := ⟨q - 1, by omega⟩
        have h1 : s ≤ L.length := by omega
        have h2 : s < mo := by omega
        rw [List.range'_succ, List.flatMap_cons]
        have one := fun m => lp_one (b1 := (GB C q0 m).1) (x1 := (GB C q0 m).2) (f2 := LP (GB C q0 m).1 (GB C q0 m).2 q) h hb v (List.replicate (ps.length - (b.length + 1)) (-1)) h1 h2
        rw [hp1] at one
        by_cases hf : p ≤ rm sz L s
        · have hch := h.child hb h1 h2 (by rw [hp1]; exact hf)
          rw [hp1] at hch
          obtain ⟨Kc, hKc, hc⟩ := ih (b ++ [(s : Int)]) (up sz L s p) hch (by simp only [List.length_append, List.length_cons, List.length_nil]; exact hp2) v
          simp only [List.length_append, List.length_cons, List.length_nil, Nat.zero_add, List.append_assoc, List.singleton_append] at hc hKc
          rw [if_pos hf]
          simp only [if_pos hf] at one
          generalize hQ : pl sz mo r (b ++ [(s : Int)]) (up sz L s p) = Q at *
          by_cases hgo : (fv c Q v).1 = true
          · obtain ⟨K2, hK2, hl⟩ := ihd (s + 1) (by omega) (fv c Q v).2 q0 (by omega)
            refine ⟨K2 + 2 + Kc, ?_, fun m => ?_⟩
            · rw [Nat.add_mul, Nat.one_mul]; omega
            · refine (one _).trans ?_
              have := hc (m + (K2 + 2))
              rw [show m + (K2 + 2) + Kc = m + (K2 + 2 + Kc) by omega] at this
              rw [this, if_pos hgo, show m + (K2 + 2) = (m + K2 + 1) + 1 by omega]
              have hbk := srch_back (C := C) (q0 := q0) h hb (fv c Q v).2 (List.replicate (ps.length - (b.length + 1)) (-1)) h1 h2 (by rw [hp1]; exact hf) (m + K2 + 1)
              rw [hp1] at hbk
              rw [hbk]
              have hx : (GB C q0 (m + K2 + 1)).2 = nxF C q0 (GB C q0 (m + K2)).1 (GB C q0 (m + K2)).2 := rfl
              rw [hx]
              unfold nxF
              rw [beq_false_of_ne (show (b.length : Int) ≠ (ps.length : Int) by omega), cond_false]
              have := hl m
              rw [show ((s + 1 : Nat) : Int) - 1 = (s : Int) by omega] at this
              rw [this]
              simp only [fv_app]
              simp only [if_pos hgo]
          · refine ⟨Kc, ?_, fun m => ?_⟩
            · rw [Nat.add_mul, Nat.one_mul]; omega
            · refine (one _).trans ?_
              rw [hc m, if_neg hgo]
              simp only [fv_app]
              simp only [if_neg hgo]
              simp
        · rw [if_neg hf, List.nil_append]
          obtain ⟨K, hK, hl⟩ := ihd (s + 1) (by omega) v q (by omega)
          refine ⟨K, ?_, fun m => ?_⟩
          · rw [Nat.add_mul, Nat.one_mul]; omega
          · have := one (m + K)
            rw [if_neg hf] at this
            refine this.trans ?_
            rw [← hl m, show ((s + 1 : Nat) : Int) - 1 = (s : Int) by omega]
    obtain ⟨K, hK, hl⟩ := loop (min (L.length + 1) mo) 0 (by omega) v q0 (by omega)
    refine ⟨K + 1, ?_, fun m => ?_⟩
    · have : min (L.length + 1) mo * (2 + fu r.length (b.length + 1)) ≤ (b.length + 1) * (2 + fu r.length (b.length + 1)) := Nat.mul_le_mul_right _ (by omega)
      simp only [List.length_cons, fu]
      omega
    · have hx : (GB C q0 (m + (K + 1))).2 = nxF C q0 (GB C q0 (m + K)).1 (GB C q0 (m + K)).2 := rfl
      have hrep : List.replicate (ps.length - b.length) (-1 : Int) = (-1) :: List.replicate (ps.length - (b.length + 1)) (-1) := by
        rw [← List.replicate_succ]; congr 1; omega
      rw [hx, hrep]
      unfold nxF
      rw [beq_false_of_ne (show (b.length : Int) ≠ (ps.length : Int) by omega), cond_false]
      have := hl m
      rw [show ((0 : Nat) : Int) - 1 = -1 by omega] at this
      rw [this]
      rfl
/-- The search hands over all plans with at most so many sheets, in ascending order. -/
theorem srch_eq (hC : Pure C c) (hq : 1000000 ≤ q0) (hj : Job sz ps) (hm : mo ≤ 1000) (v : V) : srch C q0 sz ps mo v (List.replicate ps.length (-1)) (List.replicate mo sz) = some ((), (fv c (pl sz mo ps [] []) v).2, ()) := by
  have hsi : SI sz mo ps [] [] := ⟨hj, by simp, by simp, by simp, by simp, hm⟩
  have h8 := hj.len
  have back0 : ∀ (m : Nat) (v : V) (a l : List Int), (GB C q0 (m + 1)).1 sz ps mo 0 v a l = some ((), v, ()) := fun m v a l => rfl
  have hfu : fu ps.length 0 ≤ 900000 := by
    have : ∀ k ≤ 8, fu k 0 ≤ 900000 := by decide
    exact this _ h8
  obtain ⟨K, hK, h⟩ := srch_node (q0 := q0) hC (by omega) ps [] [] hsi rfl v
  rw [List.length_nil] at hK
  have key : ∀ m, K ≤ m → (GB C q0 (m + 1)).2 sz ps mo 0 v (List.replicate ps.length (-1)) (List.replicate mo sz) = some ((), (fv c (pl sz mo ps [] []) v).2, ()) := fun m hm => by
    have := h (m + 1 - K)
    rw [show m + 1 - K + K = m + 1 by omega] at this
    have e : fil sz mo [] = List.replicate mo sz := by simp [fil]
    rw [e] at this
    refine Eq.trans this ?_
    split
    · rw [show m + 1 - K = (m - K) + 1 by omega]
      rfl
    · rfl
  have hx : ∀ m, (GB C q0 (m + 1)).2 = nxF C q0 (GB C q0 m).1 (GB C q0 m).2 := fun _ => rfl
  have k2 := key q0 (by omega)
  rw [hx] at k2
  unfold nxF at k2
  unfold srch
  exact k2
end
end Go.Proofs.YtgmonagekfjnmaaDoor
set_option linter.unusedVariables false
set_option linter.unusedSimpArgs false
set_option maxRecDepth 100000
namespace Go.Proofs.YtgmonagekfjnmaaDoor
open Go.Vi
noncomputable def c5 : Code := bodyOf Tryd.f5
/-D 37 -/
/-D 39 -/
/-D 5 -/
end Go.Proofs.YtgmonagekfjnmaaDoor
set_option linter.unusedVariables false
set_option linter.unusedSimpArgs false
namespace Go.Proofs.YtgmonagekfjnmaaDoor
open Go.Vi
theorem rep2_eq (x : Int) : ∀ k ≤ 8, D69 N [x] ((k : Nat) : Int) = some (List.replicate k x)
  | 0, _ => by kernel_rfl
  | 1, _ => by kernel_rfl
  | 2, _ => by kernel_rfl
  | 3, _ => by kernel_rfl
  | 4, _ => by kernel_rfl
  | 5, _ => by kernel_rfl
  | 6, _ => by kernel_rfl
  | 7, _ => by kernel_rfl
  | 8, _ => by kernel_rfl
  | k + 9, h => by omega
theorem L84c98io0001_LP (n : Nat × Nat) (f1 : FN (Bool) × FN (Bool)) : ∀ q, DL84c98io0001_4 n f1 q = LP f1.1 f1.2 q
  | 0 => rfl
  | q + 1 => by
    rw [DL84c98io0001_4_succ, L84c98io0001_LP n f1 q]
    rfl
theorem G84c98io0001_GB (n : Nat × Nat) : ∀ m, DG84c98io0001_1 n m = GB (D98io11 n) n.1 m
  | 0 => rfl
  | m + 1 => by
    rw [DG84c98io0001_1_succ, G84c98io0001_GB n m]
    refine Prod.ext rfl ?_
    funext a b d e v p l
    show DF84c98io0001_3 n _ a b d e v p l = nxF (D98io11 n) n.1 _ _ a b d e v p l
    unfold DF84c98io0001_3 nxF
    rw [L84c98io0001_LP]
theorem M84c98io0001_LP (n : Nat × Nat) : ∀ q, DL84c98io0001_2 n q = LP (GB (D98io11 n) n.1 n.1).1 (GB (D98io11 n) n.1 n.1).2 q
  | 0 => rfl
  | q + 1 => by
    rw [DL84c98io0001_2_succ, M84c98io0001_LP n q, ← G84c98io0001_GB]
    rfl
theorem D84c98io0001_srch (n : Nat × Nat) (sz : Int) (ps : List Int) (most : Int) (v : Bool) : D84c98io0001 n sz ps most v = (D69 n [-1] (ps.length : Int)).bind fun r1 => (D69 n [sz] most).bind fun r2 => srch (D98io11 n) n.1 sz ps most v r1 r2 := by
  unfold D84c98io0001 srch
  rw [M84c98io0001_LP, ← G84c98io0001_GB]
  rfl
theorem D84c98io0001_eq {c : List Int → Bool → Bool × Bool} (hC : Pure (D98io11 N) c) {sz : Int} {ps : List Int} (hj : Job sz ps) {mo : Nat} (hm : mo ≤ 8) (v : Bool) : D84c98io0001 N sz ps mo v = some ((), (fv c (pl sz mo ps [] []) v).2, ()) := by
  rw [D84c98io0001_srch, rep_eq _ hj.len, Option.bind_some, rep2_eq _ _ hm, Option.bind_some]
  exact srch_eq hC (Nat.le_refl _) hj (by omega) v
theorem pure98 : Pure (D98io11 N) (fun _ _ => (false, true)) := fun q v h => rfl
theorem fv98 : ∀ (l : List (List Int)), (fv (fun _ (_ : Bool) => (false, true)) l false).2 = !l.isEmpty
  | [] => rfl
  | _ :: _ => rfl
theorem used_loop2 (n : Nat × Nat) (ps l : List Int) (s : Int) (hl : l.length ≤ ps.length) (hs : l.length < 1000) (hb : ∀ p ∈ ps, 0 ≤ p ∧ p ≤ 24) : ∀ (m k : Nat) (v : Int), k ≤ l.length → l.length - k < m → 0 ≤ v → v ≤ 24 * k → DL68_1 n m ps l s v (k : Int) = some (v + usd (ps.drop k) (l.drop k) s)
  | 0, k, v, _, h, _, _ => by omega
  | m + 1, k, v, hk, h, h0, h1 => by
    rw [DL68_1_succ]
    unfold DF68_1
    by_cases hlt : k < l.length
    · have hp := hb _ (List.getElem_mem (show k < ps.length by omega))
      rw [dlt_t hlt, cond_true, idx_nat hlt, Option.bind_some, drop_cons hlt, drop_cons (show k < ps.length by omega)]
      simp only [usd]
      by_cases e : l[k] = s
      · rw [show (l[k] == s) = true by simpa using e, cond_true, idx_nat (by omega : k < ps.length), Option.bind_some]
        unfold DL68_2
        rw [wr_ok (by omega) (by omega), wr_succ (by omega), used_loop2 n ps l s hl hs hb m (k + 1) _ (by omega) (by omega) (by omega) (by omega), if_pos e]
        congr 1
        omega
      · rw [show (l[k] == s) = false from beq_false_of_ne e, cond_false]
        unfold DL68_2
        rw [wr_succ (by omega), used_loop2 n ps l s hl hs hb m (k + 1) _ (by omega) (by omega) (by omega) (by omega), if_neg e]
        congr 1
        omega
    · rw [dlt_f hlt, cond_false, List.drop_of_length_le (l := l) (by omega)]
      cases ps.drop k <;> simp [usd]
theorem used_eq2 {n : Nat × Nat} (hn : 1000 ≤ n.1) {ps l : List Int} {s : Int} (hl : l.length ≤ ps.length) (hs : l.length < 900) (hb : ∀ p ∈ ps, 0 ≤ p ∧ p ≤ 24) : D68 n ps l s = some (usd ps l s) := by
  unfold D68
  rw [show (0 : Int) = ((0 : Nat) : Int) from rfl, used_loop2 n ps l s hl (by omega) hb n.1 0 _ (by omega) (by omega) (by omega) (by omega)]
  simp
theorem usd_take (s : Int) : ∀ (ps l : List Int), usd ps l s = usd (ps.take l.length) l s
  | [], [] => rfl
  | [], _ :: _ => rfl
  | _ :: _, [] => rfl
  | p :: ps, x :: l => by
    simp only [List.length_cons, List.take_succ_cons, usd]
    rw [usd_take s ps l]
/-! How many plans there are at most. -/
def cb : Nat → Nat → Nat
  | 0, _ => 1
  | r + 1, i => (i + 1) * cb r (i + 1)
theorem flat_len {α β : Type} (f : α → List β) (k : Nat) : ∀ (l : List α), (∀ a ∈ l, (f a).length ≤ k) → (l.flatMap f).length ≤ l.length * k
  | [], _ => by simp
  | a :: l, h => by
    have h1 := h a (by simp)
    have h2 := flat_len f k l (fun b hb => h b (by simp [hb]))
    rw [List.flatMap_cons, List.length_append, List.length_cons, Nat.succ_mul]
    omega
theorem pl_count (sz : Int) (mo : Nat) : ∀ (r b L : List Int), L.length ≤ b.length → (pl sz mo r b L).length ≤ cb r.length b.length
  | [], b, L, _ => by simp [pl, cb]
  | p :: r, b, L, h => by
    unfold pl
    refine Nat.le_trans (flat_len _ (cb r.length (b.length + 1)) _ (fun s hs => ?_)) ?_
    · have hs1 : s ≤ L.length := by have := List.mem_range'_1.1 hs; omega
      split
      · have := pl_count sz mo r (b ++ [(s : Int)]) (up sz L s p) (by rw [up_len p hs1]; simp; omega)
        simpa using this
      · simp
    · simp only [List.length_range', List.length_cons, cb]
      exact Nat.mul_le_mul_right _ (by omega)
/-- What begins a plan. -/
structure Rs (sz : Int) (ps b L : List Int) : Prop where
  job : Job sz ps
  le : b.length ≤ ps.length
  nn : ∀ x ∈ b, 0 ≤ x
  my : mny b ≤ b.length
  left : L = lf sz (ps.take b.length) b
theorem Rs.len {sz : Int} {ps b L : List Int} (h : Rs sz ps b L) : (L.length : Int) = mny b := by rw [h.left]; exact lf_len _ _ _
theorem Rs.rm {sz : Int} {ps b L : List Int} (h : Rs sz ps b L) {s : Nat} (hs : s ≤ L.length) : rm sz L s = sz - usd (ps.take b.length) b s := by
  have hl := h.len
  by_cases e : s < L.length
  · rw [rm_get e]
    have := h.left
    subst this
    exact lf_get e
  · unfold Proofs.YtgmonagekfjnmaaDoor.rm
    rw [List.getD_eq_getElem?_getD, List.getElem?_eq_none (by omega), Option.getD_none, usd_none (fun hm => by have := mny_lt hm; omega)]
    omega
theorem Rs.child {sz : Int} {ps b L : List Int} (h : Rs sz ps b L) (hb : b.length < ps.length) {s : Nat} (hs : s ≤ L.length) : Rs sz ps (b ++ [(s : Int)]) (up sz L s ps[b.length]) := by
  have hl := h.len
  have hmy := h.my
  refine ⟨h.job, by simp; omega, fun x hx => ?_, ?_, ?_⟩
  · rcases List.mem_append.1 hx with hx | hx
    · exact h.nn x hx
    · rw [List.mem_singleton.1 hx]; omega
  · rw [mny_snoc, List.length_append]
    simp only [List.length_cons, List.length_nil]
    omega
  · have := lf_step sz ps[b.length] (s : Int) (ps := ps.take b.length) (l := b) (by simp; omega) (by omega) (by omega)
    rw [← take_snoc hb, ← h.left, ← h.rm hs] at this
    rw [List.length_append, List.length_singleton, this]
    unfold up
    rw [Int.toNat_natCast]
    by_cases e : s = L.length
    · rw [if_pos e, if_pos (by omega)]
    · rw [if_neg e, if_neg (by omega)]
theorem Rs.nil {sz : Int} {ps : List Int} (h : Job sz ps) : Rs sz ps [] [] := ⟨h, by simp, by simp, by simp [mny], rfl⟩
/-! The reference's plans. -/
theorem rplans_eq {sz : Int} {ps : List Int} {mo : Nat} (hmo : mo ≤ 1000) : ∀ (r b L : List Int), Rs sz ps b L → ps.drop b.length = r → ∀ d, r.length < d → DT99 N d sz ps b mo = some (pl sz mo r b L) := by
  intro r
  induction r with
  | nil =>
    intro b L h hr d hd
    obtain ⟨d, rfl⟩ : ∃ k, d = k + 1 := ⟨d - 1, by omega⟩
    have hle := h.le
    have hb : b.length = ps.length := by have := List.drop_eq_nil_iff.1 hr; omega
    rw [DT99_succ]
    unfold DB99
    rw [show ((b.length : Int) == (ps.length : Int)) = true by simp [hb], cond_true]
    rfl
  | cons p r ih =>
    intro b L h hr d hd
    obtain ⟨d, rfl⟩ : ∃ k, d = k + 1 := ⟨d - 1, by omega⟩
    have hb : b.length < ps.length := by
      rcases Nat.lt_or_ge b.length ps.length with h | h
      · exact h
      · rw [List.drop_eq_nil_of_le h] at hr; cases hr
    have hp : ps[b.length] = p ∧ ps.drop (b.length + 1) = r := by
      rw [drop_cons hb] at hr
      exact ⟨(List.cons.inj hr).1, (List.cons.inj hr).2⟩
    obtain ⟨hp1, hp2⟩ := hp
    have h8 := h.job.len
    have hlen := h.len
    have hmy := h.my
    have hlo := h.job.lo
    have hhi := h.job.hi
    have hrl : r.length + b.length + 1 ≤ 8 := by
      have := congrArg List.length hp2
      rw [List.length_drop] at this
      omega
    have hlo8 : ∀ k ≤ 8, ∀ i ≤ 8, k + i ≤ 8 → cb k i ≤ 100000 := by decide
    have hbb : ∀ x ∈ b, 0 ≤ x ∧ x ≤ 100000 := fun x hx => by have := mny_lt hx; have := h.nn x hx; omega
    rw [DT99_succ]
    unfold DB99
    rw [beq_false_of_ne (show (b.length : Int) ≠ (ps.length : Int) by omega), cond_false]
    have loop : ∀ (e s : Nat), s + e = min (L.length + 1) mo → ∀ (m : Nat), e < m → ∀ out : List (List Int), out.length + e * 100000 ≤ 900000000 →
        DL99_1 N (DT99 N d) m sz ps b mo (s : Int) out = some (out ++ (List.range' s e).flatMap fun s => if p ≤ rm sz L s then pl sz mo r (b ++ [(s : Int)]) (up sz L s p) else []) := by
      intro e
      induction e with
      | zero =>
        intro s hs m hm out _
        obtain ⟨m, rfl⟩ : ∃ k, m = k + 1 := ⟨m - 1, by omega⟩
        rw [DL99_1_succ]
        unfold DF99_1
        rw [many_eq hN1 (by omega) hbb, Option.bind_some]
        by_cases h1 : (s : Int) ≤ mny b
        · rw [decide_eq_true h1, decide_eq_false (show ¬ (s : Int) < mo by omega)]
          simp
        · rw [decide_eq_false h1]
          simp
      | succ e ihe =>
        intro s hs m hm out hout
        obtain ⟨m, rfl⟩ : ∃ k, m = k + 1 := ⟨m - 1, by omega⟩
        rw [DL99_1_succ]
        unfold DF99_1
        have h1 : s ≤ L.length := by omega
        have ho2 : out.length + e * 100000 ≤ 900000000 := Nat.le_trans (Nat.add_le_add_left (Nat.mul_le_mul_right _ (Nat.le_succ e)) _) hout
        have ih2 := ihe (s + 1) (by omega) m (by omega) out ho2
        rw [many_eq hN1 (by omega) hbb, Option.bind_some, decide_eq_true (show (s : Int) ≤ mny b by omega), decide_eq_true (show (s : Int) < mo by omega)]
        simp only [beq_self_eq_true, cond_true, Option.bind_some, List.nil_append]
        have hch := h.child hb h1
        rw [hp1] at hch
        have hu : usd ps (b ++ [(s : Int)]) (s : Int) = sz - rm sz L s + p := by
          rw [usd_take, List.length_append, List.length_singleton, take_snoc hb, usd_snoc _ _ _ (by simp; omega), if_pos rfl, h.rm h1, hp1]
          omega
        rw [decide_eq_true (show ([] : List Int).length + b.length ≤ lim by simp [lim]; omega), cond_true, lim_dec (by omega), cond_true, used_eq2 hN1 (by simp; omega) (by simp; omega) (fun q hq => by have := h.job.ok q hq; omega), Option.bind_some, hu]
        rw [List.range'_succ, List.flatMap_cons]
        unfold DL99_2
        rw [wr_succ (by omega)]
        by_cases hf : p ≤ rm sz L s
        · rw [decide_eq_true (show sz - rm sz L s + p ≤ sz by omega), cond_true, if_pos hf, ih _ _ hch (by simp only [List.length_append, List.length_cons, List.length_nil]; exact hp2) d (by simp only [List.length_cons] at hd; omega), Option.bind_some]
          have hcnt := pl_count sz mo r (b ++ [(s : Int)]) (up sz L s p) (by rw [up_len p h1]; simp; omega)
          have hc2 := hlo8 r.length (by omega) (b.length + 1) (by omega) (by omega)
          simp only [List.length_append, List.length_singleton] at hcnt
          generalize pl sz mo r (b ++ [(s : Int)]) (up sz L s p) = Q at *
          rw [decide_eq_true (show out.length + Q.length ≤ lim by unfold lim; omega), cond_true, ihe (s + 1) (by omega) m (by omega) (out ++ Q) (by rw [List.length_append]; omega), List.append_assoc]
        · rw [decide_eq_false (show ¬ sz - rm sz L s + p ≤ sz by omega), cond_false, if_neg hf, List.nil_append, ih2]
    have := loop (min (L.length + 1) mo) 0 (by omega) N.1 (by have : N.1 = 1000000 := rfl; omega) [] (by simp only [List.length_nil]; omega)
    rw [show ((0 : Nat) : Int) = 0 from rfl, List.nil_append] at this
    rw [this]
    rfl
theorem rPlans_eq {sz : Int} {ps : List Int} (hj : Job sz ps) {mo : Nat} (hmo : mo ≤ 1000) : D99 N sz ps [] mo = some (pl sz mo ps [] []) := by
  unfold D99
  exact rplans_eq hmo ps [] [] (Rs.nil hj) rfl N.1 (by have := hj.len; have : N.1 = 1000000 := rfl; omega)
/-! Plans by their number of sheets. -/
theorem mny_app (a : List Int) : ∀ b : List Int, mny a ≤ mny (a ++ b) := fun b => by
  unfold mny
  rw [List.foldl_append]
  exact (fold_mny b _).1
theorem pl_pre {sz : Int} {mo : Nat} : ∀ (r b L q : List Int), q ∈ pl sz mo r b L → ∃ t, t.length = r.length ∧ q = b ++ t
  | [], b, L, q, h => ⟨[], rfl, by simpa [pl] using h⟩
  | p :: r, b, L, q, h => by
    unfold pl at h
    obtain ⟨s, _, hq⟩ := List.mem_flatMap.1 h
    split at hq
    · obtain ⟨t, ht, e⟩ := pl_pre r _ _ q hq
      exact ⟨(s : Int) :: t, by simp [ht], by rw [e]; simp⟩
    · simp at hq
theorem flat_congr {α β : Type} {f g : α → List β} : ∀ {l : List α}, (∀ a ∈ l, f a = g a) → l.flatMap f = l.flatMap g
  | [], _ => rfl
  | a :: l, h => by rw [List.flatMap_cons, List.flatMap_cons, h a (by simp), flat_congr (fun b hb => h b (by simp [hb]))]
theorem pl_filter {sz : Int} {mo big : Nat} (hmb : mo ≤ big) : ∀ (r b L : List Int), (L.length : Int) = mny b → L.length ≤ mo → pl sz mo r b L = (pl sz big r b L).filter fun q => decide (mny q ≤ mo)
  | [], b, L, h, hm => by
    unfold pl
    rw [List.filter_cons, if_pos (by simp; omega), List.filter_nil]
  | p :: r, b, L, h, hm => by
    have hkid : ∀ s ≤ L.length, max L.length (s + 1) ≤ mo → (if p ≤ rm sz L s then pl sz mo r (b ++ [(s : Int)]) (up sz L s p) else []) = (if p ≤ rm sz L s then pl sz big r (b ++ [(s : Int)]) (up sz L s p) else []).filter fun q => decide (mny q ≤ mo) := fun s hs hs2 => by
      split
      · refine pl_filter hmb r _ _ ?_ (by rw [up_len p hs]; exact hs2)
        rw [up_len p hs, mny_snoc]
        omega
      · rfl
    unfold pl
    rw [List.filter_flatMap]
    by_cases h1 : L.length + 1 ≤ mo
    · rw [Nat.min_eq_left h1, Nat.min_eq_left (Nat.le_trans h1 hmb)]
      refine flat_congr ?_
      intro s hs
      have := List.mem_range'_1.1 hs
      exact hkid s (by omega) (by omega)
    · have hL : mo = L.length := by omega
      rw [Nat.min_eq_right (by omega : mo ≤ L.length + 1)]
      have hk2 : ((List.range' 0 mo).flatMap fun s => if p ≤ rm sz L s then pl sz mo r (b ++ [(s : Int)]) (up sz L s p) else []) = (List.range' 0 mo).flatMap fun a => (if p ≤ rm sz L a then pl sz big r (b ++ [(a : Int)]) (up sz L a p) else []).filter fun q => decide (mny q ≤ mo) := by
        refine flat_congr ?_
        intro s hs
        have := List.mem_range'_1.1 hs
        exact hkid s (by omega) (by omega)
      rw [hk2]
      by_cases h2 : big = mo
      · rw [h2, Nat.min_eq_right (by omega : mo ≤ L.length + 1)]
      · rw [Nat.min_eq_left (by omega : L.length + 1 ≤ big), List.range'_1_concat, List.flatMap_append, List.flatMap_cons, List.flatMap_nil, List.append_nil, ← hL]
        suffices hz : ((if p ≤ rm sz L (0 + mo) then pl sz big r (b ++ [((0 + mo : Nat) : Int)]) (up sz L (0 + mo) p) else []).filter fun q => decide (mny q ≤ mo)) = [] by rw [hz, List.append_nil]
        rw [List.filter_eq_nil_iff]
        intro q hq
        split at hq
        · obtain ⟨t, _, e⟩ := pl_pre r _ _ q hq
          have := mny_app (b ++ [((0 + mo : Nat) : Int)]) t
          rw [mny_snoc, ← e] at this
          simp only [decide_eq_true_eq]
          omega
        · simp at hq
theorem pl_ne {sz : Int} {mo : Nat} : ∀ (r b L : List Int), (∀ p ∈ r, p ≤ sz) → L.length + r.length ≤ mo → pl sz mo r b L ≠ []
  | [], b, L, _, _ => by simp [pl]
  | p :: r, b, L, hp, hm => by
    rw [List.length_cons] at hm
    have hr : rm sz L L.length = sz := by unfold rm; rw [List.getD_eq_getElem?_getD, List.getElem?_eq_none (by omega), Option.getD_none]
    have ih := pl_ne (sz := sz) (mo := mo) r (b ++ [(L.length : Int)]) (up sz L L.length p) (fun q hq => hp q (by simp [hq])) (by rw [up_len p (Nat.le_refl _)]; omega)
    obtain ⟨q, hq⟩ := List.exists_mem_of_ne_nil _ ih
    refine List.ne_nil_of_mem (a := q) ?_
    unfold pl
    refine List.mem_flatMap.2 ⟨L.length, List.mem_range'_1.2 (by omega), ?_⟩
    rw [if_pos (by rw [hr]; exact hp p (by simp))]
    exact hq
/-- All plans with at most so many sheets. -/
def apl (sz : Int) (ps : List Int) (mo : Nat) : List (List Int) := pl sz mo ps [] []
def fwg (f : Nat → Bool) : Nat → Nat → Nat
  | 0, k => k
  | d + 1, k => if f k then k else fwg f d (k + 1)
theorem fwg_spec (f : Nat → Bool) : ∀ (d k : Nat), f (k + d) = true → f (fwg f d k) = true ∧ k ≤ fwg f d k ∧ fwg f d k ≤ k + d ∧ ∀ j, k ≤ j → j < fwg f d k → f j = false
  | 0, k, h => ⟨h, Nat.le_refl _, Nat.le_refl _, fun j h1 h2 => by unfold fwg at h2; omega⟩
  | d + 1, k, h => by
    unfold fwg
    by_cases e : f k = true
    · rw [if_pos e]
      exact ⟨e, Nat.le_refl _, by omega, fun j h1 h2 => by omega⟩
    · rw [if_neg e]
      obtain ⟨h1, h2, h3, h4⟩ := fwg_spec f d (k + 1) (by rw [show k + 1 + d = k + (d + 1) by omega]; exact h)
      refine ⟨h1, by omega, by omega, fun j hj1 hj2 => ?_⟩
      by_cases hj : j = k
      · rw [hj]; simpa using e
      · exact h4 j (by omega) hj2
/-- The fewest sheets. -/
def fw (sz : Int) (ps : List Int) : Nat := fwg (fun k => !(apl sz ps k).isEmpty) ps.length 0
theorem apl_len {sz : Int} {ps : List Int} (hj : Job sz ps) : apl sz ps ps.length ≠ [] := pl_ne ps [] [] (fun p hp => (hj.ok p hp).2) (by simp)
theorem fw_spec {sz : Int} {ps : List Int} (hj : Job sz ps) : apl sz ps (fw sz ps) ≠ [] ∧ fw sz ps ≤ ps.length ∧ ∀ j < fw sz ps, apl sz ps j = [] := by
  have h0 : (fun k => !(apl sz ps k).isEmpty) (0 + ps.length) = true := by
    rw [Nat.zero_add]
    have := apl_len hj
    show (!(apl sz ps ps.length).isEmpty) = true
    cases h : apl sz ps ps.length
    · exact absurd h this
    · rfl
  obtain ⟨h1, h2, h3, h4⟩ := fwg_spec (fun k => !(apl sz ps k).isEmpty) ps.length 0 h0
  refine ⟨fun e => ?_, by unfold fw; omega, fun j hj => ?_⟩
  · unfold fw at e
    simp only [e] at h1
    exact absurd h1 (by simp)
  · have := h4 j (by omega) hj
    cases h : apl sz ps j
    · rfl
    · simp [h] at this
theorem apl_filter {sz : Int} {ps : List Int} {mo big : Nat} (h : mo ≤ big) : apl sz ps mo = (apl sz ps big).filter fun q => decide (mny q ≤ mo) := pl_filter h ps [] [] rfl (by simp)
theorem apl_le {sz : Int} {ps : List Int} {mo : Nat} {q : List Int} (h : q ∈ apl sz ps mo) : mny q ≤ mo := by
  rw [apl_filter (Nat.le_refl mo)] at h
  simpa using (List.mem_filter.1 h).2
theorem apl_down {sz : Int} {ps : List Int} {mo big : Nat} {q : List Int} (hb : q ∈ apl sz ps big) (h : mny q ≤ mo) (hm : mo ≤ big) : q ∈ apl sz ps mo := by
  rw [apl_filter hm]
  exact List.mem_filter.2 ⟨hb, by simpa using h⟩
theorem fw_mny {sz : Int} {ps : List Int} (hj : Job sz ps) {q : List Int} (h : q ∈ apl sz ps (fw sz ps)) : mny q = fw sz ps := by
  obtain ⟨h1, h2, h3⟩ := fw_spec hj
  have h4 := apl_le h
  by_cases e : mny q = fw sz ps
  · exact e
  · have h0 := mny_nn q
    have := apl_down (mo := fw sz ps - 1) h (by omega) (by omega)
    rw [h3 _ (by omega)] at this
    cases this
theorem apl_qlen {sz : Int} {ps : List Int} {mo : Nat} {q : List Int} (h : q ∈ apl sz ps mo) : q.length = ps.length := by
  obtain ⟨t, ht, e⟩ := pl_pre ps [] [] q h
  rw [e, List.nil_append, ht]
theorem pl_nn {sz : Int} {mo : Nat} : ∀ (r b L q : List Int), (∀ x ∈ b, 0 ≤ x) → q ∈ pl sz mo r b L → ∀ x ∈ q, 0 ≤ x
  | [], b, L, q, hb, h => by
    have : q = b := by simpa [pl] using h
    rw [this]; exact hb
  | p :: r, b, L, q, hb, h => by
    unfold pl at h
    obtain ⟨s, _, hq⟩ := List.mem_flatMap.1 h
    split at hq
    · refine pl_nn r _ _ q (fun x hx => ?_) hq
      rcases List.mem_append.1 hx with hx | hx
      · exact hb x hx
      · rw [List.mem_singleton.1 hx]; omega
    · simp at hq
theorem apl_nn {sz : Int} {ps : List Int} {mo : Nat} {q : List Int} (h : q ∈ apl sz ps mo) : ∀ x ∈ q, 0 ≤ x := pl_nn ps [] [] q (by simp) h
theorem least_loop {sz : Int} {ps : List Int} (hj : Job sz ps) : ∀ (m k : Nat), k ≤ fw sz ps → fw sz ps - k < m → DL82_1 N m sz ps (k : Int) = some ((fw sz ps : Nat) : Int)
  | 0, k, _, h => by omega
  | m + 1, k, hk, h => by
    obtain ⟨h1, h2, h3⟩ := fw_spec hj
    have h8 := hj.len
    rw [DL82_1_succ]
    unfold DF82_1
    rw [D84c98io0001_eq pure98 hj (by omega : k ≤ 8), Option.bind_some, fv98]
    by_cases e : k = fw sz ps
    · subst e
      have : (pl sz (fw sz ps) ps [] []).isEmpty = false := by
        cases hh : pl sz (fw sz ps) ps [] []
        · exact absurd hh h1
        · rfl
      simp only [this, Bool.not_false, show (true == false) = false from rfl, cond_false, Option.bind_some, cond_true]
    · have : pl sz k ps [] [] = [] := h3 k (by omega)
      simp only [this, List.isEmpty_nil, Bool.not_true, beq_self_eq_true, cond_true, Option.bind_some]
      rw [beq_false_of_ne (show (k : Int) ≠ (ps.length : Int) by omega), cond_false, wr_succ (by omega), least_loop hj m (k + 1) (by omega) (by omega)]
theorem least_eq {sz : Int} {ps : List Int} (hj : Job sz ps) : D82 N sz ps = some ((fw sz ps : Nat) : Int) := by
  unfold D82
  obtain ⟨h1, h2, h3⟩ := fw_spec hj
  exact least_loop hj N.1 0 (by omega) (by have : N.1 = 1000000 := rfl; have := hj.len; omega)
theorem best_loop {sz : Int} {ps : List Int} (hj : Job sz ps) : ∀ (m k : Nat), k ≤ fw sz ps → fw sz ps - k < m → DL83_1 N m sz ps (k : Int) = some (apl sz ps (fw sz ps))
  | 0, k, _, h => by omega
  | m + 1, k, hk, h => by
    obtain ⟨h1, h2, h3⟩ := fw_spec hj
    have h8 := hj.len
    rw [DL83_1_succ]
    unfold DF83_1
    rw [rPlans_eq hj (by omega), Option.bind_some]
    by_cases e : k = fw sz ps
    · subst e
      have : 0 < (pl sz (fw sz ps) ps [] []).length := List.length_pos_iff.2 h1
      rw [decide_eq_true (show ((pl sz (fw sz ps) ps [] []).length : Int) > 0 by omega), cond_true]
      rfl
    · have : pl sz k ps [] [] = [] := h3 k (by omega)
      rw [this, wr_succ (by omega), best_loop hj m (k + 1) (by omega) (by omega)]
      rfl
theorem rbest_eq {sz : Int} {ps : List Int} (hj : Job sz ps) : D83 N sz ps = some (apl sz ps (fw sz ps)) := by
  unfold D83
  obtain ⟨h1, h2, h3⟩ := fw_spec hj
  exact best_loop hj N.1 0 (by omega) (by have : N.1 = 1000000 := rfl; have := hj.len; omega)
def fwS (sz : Int) (ps : List Int) : Int × Int := if chk sz ps ≠ 0 then (0, chk sz ps) else (fw sz ps, 0)
theorem head_mem {l : List (List Int)} (h : l ≠ []) : ∃ hl : 0 < l.length, l[0] = l.headD [] ∧ l.headD [] ∈ l := by
  cases l with
  | nil => exact absurd rfl h
  | cons a l => exact ⟨by simp, rfl, by simp⟩
theorem rFewest_eq (sz : Int) (ps : List Int) : D35 N sz ps = some (fwS sz ps) := by
  unfold D35 fwS
  rw [rCheck_eq hN1, Option.bind_some]
  by_cases h : chk sz ps = 0
  · have hj := chk_job.1 h
    obtain ⟨h1, h2, h3⟩ := fw_spec hj
    have h8 := hj.len
    obtain ⟨hl, e, hm⟩ := head_mem h1
    have hq := apl_qlen hm
    have hmy := fw_mny hj hm
    rw [h, bne_self_eq_false, cond_false, if_neg (by simp), rbest_eq hj, Option.bind_some, show (0 : Int) = ((0 : Nat) : Int) from rfl, inB_nat hl, cond_true, idx_nat hl, Option.bind_some, e, many_eq hN1 (by omega) (fun x hx => by have := apl_nn hm x hx; have := mny_lt hx; omega), Option.bind_some, hmy]
  · rw [show (chk sz ps != 0) = true by simpa using h, cond_true, if_pos h]
/-- A piece's length. -/
def pc (l : List Int) (i : Int) : Int := l.getD i.toNat 0
theorem idx_pc {l : List Int} {i : Int} (h0 : 0 ≤ i) (h1 : i < l.length) : idx l i = some (pc l i) := by
  rw [idx_int (k := i.toNat) (by omega) (by omega)]
  simp [pc, show i.toNat < l.length by omega]
theorem pc_mem {l : List Int} {i : Int} (h0 : 0 ≤ i) (h1 : i < l.length) : pc l i ∈ l := by
  unfold pc
  rw [List.getD_eq_getElem?_getD, List.getElem?_eq_getElem (by omega), Option.getD_some]
  exact List.getElem_mem _
/-- Numbers are put into a list that falls, and numbers one after the other. -/
def insR (c : Int → Int → Bool) (x : Int) : List Int → List Int
  | [] => [x]
  | y :: Q => bif c x y then y :: insR c x Q else x :: y :: Q
def srt (c : Int → Int → Bool) : List Int → List Int → List Int
  | Q, [] => Q
  | Q, x :: r => srt c (insR c x Q) r
theorem insR_perm (c : Int → Int → Bool) (x : Int) : ∀ Q, (insR c x Q).Perm (x :: Q)
  | [] => List.Perm.refl _
  | y :: Q => by
    unfold insR
    cases c x y
    · exact List.Perm.refl _
    · exact (List.Perm.cons y (insR_perm c x Q)).trans (List.Perm.swap x y Q)
theorem insR_len (c : Int → Int → Bool) (x : Int) (Q : List Int) : (insR c x Q).length = Q.length + 1 := (insR_perm c x Q).length_eq
theorem srt_perm (c : Int → Int → Bool) : ∀ r Q, (srt c Q r).Perm (r ++ Q)
  | [], Q => List.Perm.refl _
  | x :: r, Q => by
    unfold srt
    refine (srt_perm c r _).trans (((insR_perm c x Q).append_left r).trans ?_)
    exact List.perm_middle
theorem insR_sort {c : Int → Int → Bool} {R : Int → Int → Prop} (ht : ∀ i j k, R i j → R j k → R i k) {x : Int} : ∀ {Q : List Int}, (∀ y ∈ Q, (c x y = true → R x y) ∧ (c x y = false → R y x)) → Q.Pairwise (fun a b => R b a) → (insR c x Q).Pairwise (fun a b => R b a)
  | [], _, _ => by simp [insR]
  | y :: Q, h, hp => by
    rw [List.pairwise_cons] at hp
    unfold insR
    cases e : c x y
    · rw [cond_false]
      have hy := (h y (by simp)).2 e
      refine List.pairwise_cons.2 ⟨fun z hz => ?_, List.pairwise_cons.2 hp⟩
      rcases List.mem_cons.1 hz with e' | hz
      · subst e'; exact hy
      · exact ht _ _ _ (hp.1 z hz) hy
    · rw [cond_true]
      refine List.pairwise_cons.2 ⟨fun z hz => ?_, insR_sort ht (fun y hy => h y (by simp [hy])) hp.2⟩
      rcases List.mem_cons.1 ((insR_perm c x Q).mem_iff.1 hz) with e' | hz
      · subst e'; exact (h y (by simp)).1 e
      · exact hp.1 z hz
theorem srt_sort {c : Int → Int → Bool} {R : Int → Int → Prop} (ht : ∀ i j k, R i j → R j k → R i k) {P : Int → Prop} (hc : ∀ x y, P x → P y → y < x → (c x y = true → R x y) ∧ (c x y = false → R y x)) : ∀ {r Q : List Int}, (∀ x ∈ r, P x) → (∀ x ∈ Q, P x) → (∀ x ∈ r, ∀ y ∈ Q, y < x) → r.Pairwise (· < ·) → Q.Pairwise (fun a b => R b a) → (srt c Q r).Pairwise (fun a b => R b a)
  | [], Q, _, _, _, _, hQ => hQ
  | x :: r, Q, pr, pQ, hlt, hr, hQ => by
    unfold srt
    rw [List.pairwise_cons] at hr
    refine srt_sort ht hc (fun y hy => pr y (by simp [hy])) (fun y hy => ?_) (fun y hy z hz => ?_) hr.2 (insR_sort ht (fun y hy => hc x y (pr x (by simp)) (pQ y hy) (hlt x (by simp) y hy)) hQ)
    · rcases List.mem_cons.1 ((insR_perm c x Q).mem_iff.1 hy) with e | hy
      · subst e; exact pr y (by simp)
      · exact pQ y hy
    · rcases List.mem_cons.1 ((insR_perm c x Q).mem_iff.1 hz) with e | hz
      · subst e; exact hr.1 y hy
      · exact hlt y (by simp [hy]) z hz
theorem idx_at {α : Type} {A r : List α} {y : α} {k : Nat} (h : A.length = k) : idx (A ++ y :: r) (k : Int) = some y := by
  rw [idx_nat (by simp; omega)]
  simp [← h]
theorem set_at {α : Type} {A r : List α} {y z : α} {k : Nat} (h : A.length = k) : (A ++ y :: r).set k z = A ++ z :: r := by
  subst h
  induction A with
  | nil => rfl
  | cons a A ih => simp only [List.cons_append, List.length_cons, List.set_cons_succ, ih]
def cmf (l : List Int) (x y : Int) : Bool := decide (pc l y < pc l x)
theorem cmpf (n : Nat × Nat) {l : List Int} (hb : ∀ s ∈ l, 1 ≤ s ∧ s ≤ 24) {i j : Int} (hi : 0 ≤ i ∧ i < l.length) (hj : 0 ≤ j ∧ j < l.length) : ∃ r : Int, D97 n i j l = some r ∧ decide (r < 0) = cmf l i j := by
  unfold D97 cmf
  rw [idx_pc hi.1 hi.2, idx_pc hj.1 hj.2]
  have o1 := hb _ (pc_mem hi.1 hi.2)
  have o2 := hb _ (pc_mem hj.1 hj.2)
  refine ⟨pc l j - pc l i, ?_, ?_⟩
  · simp only [Option.bind_some]
    rw [wr_ok (by omega) (by omega)]
  · exact decide_eq_decide.2 (by omega)
theorem inf_loop (n : Nat × Nat) (l : List Int) (hb : ∀ s ∈ l, 1 ≤ s ∧ s ≤ 24) (f : Int → Int → Int → List Int → List Int → Option R105c97io1001) (b i : Int) (x : Int) (hx : 0 ≤ x ∧ x < l.length) : ∀ (m : Nat) (Q T : List Int), Q.length < m → Q.length < 1000 → (∀ y ∈ Q, 0 ≤ y ∧ y < l.length) →
    DL105c97io1001_2 n f m 0 b i (Q.length : Int) (Q.reverse ++ x :: T) l = f 0 b (wr .i64 (i + 1)) ((insR (cmf l) x Q).reverse ++ T) l
  | 0, Q, T, h, _, _ => by omega
  | m + 1, [], T, h, _, hQ => by
    rw [DL105c97io1001_2_succ]
    unfold DF105c97io1001_2
    simp [insR]
  | m + 1, y :: Q, T, h, h8, hQ => by
    rw [DL105c97io1001_2_succ]
    unfold DF105c97io1001_2
    rw [List.length_cons] at h h8
    have hy := hQ y (by simp)
    obtain ⟨r, hr, hd⟩ := cmpf n hb hx hy
    have ih := inf_loop n l hb f b i x hx m Q (y :: T) (by omega) (by omega) (fun z hz => hQ z (by simp [hz]))
    have e : (y :: Q).reverse ++ x :: T = Q.reverse ++ y :: x :: T := by simp
    have w : wr .i64 (((y :: Q).length : Int) - 1) = (Q.length : Int) := by rw [List.length_cons, wr_ok (by omega) (by omega)]; omega
    have a1 : ∀ T' : List Int, idx (Q.reverse ++ y :: x :: T') ((y :: Q).length : Int) = some x := fun T' => by
      have := idx_at (A := Q.reverse ++ [y]) (r := T') (y := x) (k := (y :: Q).length) (by simp)
      simpa using this
    have a2 : ∀ T' : List Int, idx (Q.reverse ++ y :: T') (Q.length : Int) = some y := fun T' => idx_at (by simp)
    have a3 : (Q.reverse ++ y :: x :: T).set (y :: Q).length y = Q.reverse ++ y :: y :: T := by
      have := set_at (A := Q.reverse ++ [y]) (r := T) (y := x) (z := y) (k := (y :: Q).length) (by simp)
      rw [List.append_assoc, List.append_assoc] at this
      exact this
    have a4 : (Q.reverse ++ y :: y :: T).set Q.length x = Q.reverse ++ x :: y :: T := set_at (by simp)
    rw [e]
    rw [decide_eq_true (show (((y :: Q).length : Nat) : Int) > 0 by rw [List.length_cons]; omega), w]
    simp only [beq_self_eq_true, cond_true]
    rw [inB_nat (show (y :: Q).length < (Q.reverse ++ y :: x :: T).length by simp <;> omega), inB_nat (show Q.length < (Q.reverse ++ y :: x :: T).length by simp <;> omega)]
    simp only [cond_true, a1, a2, Option.bind_some, hr, hd]
    unfold insR
    cases cmf l x y
    · simp only [cond_false]
      congr 1
      simp
    · simp only [cond_true]
      rw [Int.toNat_natCast, Int.toNat_natCast, a3, a2, inB_nat (show Q.length < (Q.reverse ++ y :: y :: T).length by simp <;> omega)]
      simp only [cond_true, Option.bind_some, a4, ih]
      congr 1
      simp
theorem sof_loop (n : Nat × Nat) (hn : 1000 ≤ n.1) (l : List Int) (hb : ∀ s ∈ l, 1 ≤ s ∧ s ≤ 24) : ∀ (m : Nat) (r Q : List Int), r.length < m → Q.length + r.length < 900 → (∀ y ∈ Q, 0 ≤ y ∧ y < l.length) → (∀ y ∈ r, 0 ≤ y ∧ y < l.length) →
    DL105c97io1001_1 n m 0 ((Q.length + r.length : Nat) : Int) (Q.length : Int) (Q.reverse ++ r) l = some ((), (srt (cmf l) Q r).reverse, l, ())
  | 0, r, Q, h, _, _, _ => by omega
  | m + 1, [], Q, h, _, _, _ => by
    rw [DL105c97io1001_1_succ]
    unfold DF105c97io1001_1
    rw [dlt_f (by simp), cond_false]
    simp [srt]
  | m + 1, x :: r, Q, h, h8, hQ, hr => by
    rw [DL105c97io1001_1_succ]
    unfold DF105c97io1001_1
    rw [List.length_cons] at h h8
    have ih := sof_loop n hn l hb m r (insR (cmf l) x Q) (by omega) (by rw [insR_len]; omega) (fun y hy => by
      rcases List.mem_cons.1 ((insR_perm _ x Q).mem_iff.1 hy) with e | hy
      · subst e; exact hr y (by simp)
      · exact hQ y hy) (fun y hy => hr y (by simp [hy]))
    rw [dlt_t (by simp), cond_true, inf_loop n l hb _ _ _ x (hr x (by simp)) n.1 Q r (by omega) (by omega) hQ, wr_succ (by omega)]
    rw [insR_len] at ih
    rw [show Q.length + 1 + r.length = Q.length + (x :: r).length by rw [List.length_cons]; omega] at ih
    rw [ih]
    rfl
theorem sortf_eq {n : Nat × Nat} (hn : 1000 ≤ n.1) {l : List Int} (hb : ∀ s ∈ l, 1 ≤ s ∧ s ≤ 24) {r : List Int} (h7 : r.length ≤ 8) (hr : ∀ y ∈ r, 0 ≤ y ∧ y < l.length) : D96c97io11 n r l = some ((), (srt (cmf l) [] r).reverse, l, ()) := by
  have hs5 : D105c97io1001 n r 0 (r.length : Int) l = some ((), (srt (cmf l) [] r).reverse, l, ()) := by
    unfold D105c97io1001
    match r, h7, hr with
    | [], _, _ =>
      have : n.1 = (n.1 - 1) + 1 := by omega
      rw [this, DL105c97io1001_1_succ]
      unfold DF105c97io1001_1
      rw [show wr .i64 ((0 : Int) + 1) = 1 by rw [wr_ok (by omega) (by omega)]; omega]
      rfl
    | x :: r, h7, hr =>
      have := sof_loop n hn l hb n.1 r [x] (by simp at h7; omega) (by simp at h7 ⊢; omega) (fun y hy => by rw [List.mem_singleton] at hy; subst hy; exact hr y (by simp)) (fun y hy => hr y (by simp [hy]))
      rw [show wr .i64 ((0 : Int) + 1) = 1 by rw [wr_ok (by omega) (by omega)]; omega]
      simpa [srt, insR, Nat.add_comm] using this
  have hl : (srt (cmf l) [] r).reverse.length = r.length := by
    rw [List.length_reverse, (srt_perm (cmf l) r []).length_eq]
    simp
  have hs4 : D104c97io101 n r (r.length : Int) l = some ((), (srt (cmf l) [] r).reverse, l, ()) := by
    unfold D104c97io101
    obtain ⟨k, hk⟩ : ∃ k, n.1 = k + 1 := ⟨n.1 - 1, by omega⟩
    rw [hk, DL104c97io101_1_succ]
    unfold DF104c97io101_1
    rw [decide_eq_false (show ¬ (20 : Int) ≤ (r.length : Int) by omega), cond_false, hs5]
    simp only [Option.bind_some]
    rw [show Nat.beq (srt (cmf l) [] r).reverse.length r.length = true by rw [hl]; exact Nat.beq_refl _, cond_true, hk, DL104c97io101_2_succ]
    unfold DF104c97io101_2
    rw [decide_eq_false (show ¬ (20 : Int) < (r.length : Int) by omega), cond_false]
  unfold D96c97io11
  rw [hs4]
  simp only [Option.bind_some]
  rw [show Nat.beq (srt (cmf l) [] r).reverse.length r.length = true by rw [hl]; exact Nat.beq_refl _, cond_true]
/-- The falling order. -/
def fal (ps : List Int) : List Int := (srt (cmf ps) [] ((List.range ps.length).map fun i : Nat => (i : Int))).reverse
theorem fal_loop (n : Nat × Nat) (hn : 1000 ≤ n.1) {ps : List Int} (hb : ∀ s ∈ ps, 1 ≤ s ∧ s ≤ 24) (h8 : ps.length ≤ 8) : ∀ (m k : Nat), k ≤ ps.length → ps.length - k < m →
    DL77_1 n m (ps.length : Int) (k : Int) ps (((List.range k).map fun i : Nat => (i : Int)) ++ List.replicate (ps.length - k) 0) = some (fal ps)
  | 0, k, _, h => by omega
  | m + 1, k, hk, h => by
    rw [DL77_1_succ]
    unfold DF77_1
    by_cases hlt : k < ps.length
    · have hrep : List.replicate (ps.length - k) (0 : Int) = 0 :: List.replicate (ps.length - (k + 1)) 0 := by
        rw [← List.replicate_succ]; congr 1; omega
      have hk2 : ((List.range k).map fun i : Nat => (i : Int)).length = k := by simp
      have e2 : (List.range (k + 1)).map (fun i : Nat => (i : Int)) = ((List.range k).map fun i : Nat => (i : Int)) ++ [(k : Int)] := by
        rw [List.range_succ, List.map_append]; rfl
      rw [dlt_t hlt, cond_true, hrep, inB_nat (by simp), cond_true, idx_at hk2, Option.bind_some, Int.toNat_natCast, set_at hk2, wr_succ (by omega)]
      have ih := fal_loop n hn hb h8 m (k + 1) (by omega) (by omega)
      rw [e2, List.append_assoc, List.singleton_append] at ih
      exact ih
    · have e : k = ps.length := by omega
      subst e
      have hr : ∀ y ∈ (List.range ps.length).map (fun i : Nat => (i : Int)), 0 ≤ y ∧ y < ps.length := fun y hy => by
        obtain ⟨i, hi, rfl⟩ := List.mem_map.1 hy
        have := List.mem_range.1 hi
        omega
      rw [dlt_f hlt, cond_false, Nat.sub_self, List.replicate_zero, List.append_nil, sortf_eq hn hb (by simp; omega) hr, Option.bind_some]
      have hl : (srt (cmf ps) [] ((List.range ps.length).map fun i : Nat => (i : Int))).reverse.length = ((List.range ps.length).map fun i : Nat => (i : Int)).length := by
        rw [List.length_reverse, (srt_perm (cmf ps) _ []).length_eq]
        simp
      rw [show Nat.beq (srt (cmf ps) [] ((List.range ps.length).map fun i : Nat => (i : Int))).reverse.length ((List.range ps.length).map fun i : Nat => (i : Int)).length = true by rw [hl]; exact Nat.beq_refl _, cond_true]
      rfl
theorem fall_eq {n : Nat × Nat} (hn : 1000 ≤ n.1) {ps : List Int} (hb : ∀ s ∈ ps, 1 ≤ s ∧ s ≤ 24) (h8 : ps.length ≤ 8) : D77 n ps = some (fal ps) := by
  unfold D77
  rw [decide_eq_true (show (0 : Int) ≤ (ps.length : Int) by omega), decide_eq_true (show (ps.length : Int) ≤ (ps.length : Int) by omega), decide_eq_true (show (ps.length : Int) ≤ lim by unfold lim; omega), Int.toNat_natCast, List.length_replicate]
  have := fal_loop n hn hb h8 n.1 0 (by omega) (by omega)
  exact this
theorem fal_perm (ps : List Int) : (fal ps).Perm ((List.range ps.length).map fun i : Nat => (i : Int)) := by
  unfold fal
  refine (List.reverse_perm _).trans ((srt_perm _ _ []).trans ?_)
  rw [List.append_nil]
/-- The order of the falling order. -/
def Fbf (ps : List Int) (i j : Int) : Prop := pc ps j < pc ps i ∨ pc ps i = pc ps j ∧ i < j
theorem fal_sort (ps : List Int) : (fal ps).Pairwise (Fbf ps) := by
  unfold fal
  rw [List.pairwise_reverse]
  refine srt_sort (R := Fbf ps) (fun i j k h1 h2 => by unfold Fbf at *; omega) (P := fun _ => True) (fun x y _ _ hlt => ?_) (fun _ _ => trivial) (fun _ _ => trivial) (fun _ _ y hy => by cases hy) ?_ List.Pairwise.nil
  · unfold cmf Fbf
    refine ⟨fun h => ?_, fun h => ?_⟩
    · have := of_decide_eq_true h; omega
    · have := of_decide_eq_false h; omega
  · rw [List.pairwise_map]
    exact (List.pairwise_lt_range).imp (fun h => by omega)
end Go.Proofs.YtgmonagekfjnmaaDoor
