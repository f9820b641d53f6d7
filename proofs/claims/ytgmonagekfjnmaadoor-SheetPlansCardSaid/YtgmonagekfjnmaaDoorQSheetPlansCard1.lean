/- Texts of this claim, joined: G16 to So3. -/
import Derived.KernelRfl
import Derived.Test.YtgmonagekfjnmaaDoorProg
import Derived.WalkKit
import Derived.Test.YtgmonagekfjnmaaDoorP6
set_option linter.unusedVariables false
set_option linter.unusedSimpArgs false
set_option maxRecDepth 100000
namespace Go.Proofs.YtgmonagekfjnmaaDoor
open Go.Vi
abbrev R16 := Bool
noncomputable def c16 : Code := bodyOf Tryd.f16
noncomputable def an16 : Ann := (.s .l (.s (.s .l (.j [0] .l .l)) (.s (.s .l (.j [] (.j [0, 3] (.s (.s .l (.j [0, 3] .l .l)) (.s (.j [0, 3] (.s .l (.j [0, 3] .l .l)) .l) .l)) .l) .l)) .l)))
def pk16 : List PK := [.c (.sl (.sl (.int .i64)))]
def rk16 : List RK := [.c .bool 2]
noncomputable def rt16 (st : St) : Option R16 := rtG rk16 st
noncomputable def E16 (n : Nat × Nat) : Env := { T := tab, phi := noPhi, eff := fun _ => false, fuel := n.1, hold := n.2 }
noncomputable def kq16_3 (n : Nat × Nat) : St → Option R16 := run (E16 n) (cB (cB (cB c16))) (Ann.snd (Ann.snd (Ann.snd an16))) rt16 (fun _ _ => none) rt16
noncomputable def xb16_5 (n : Nat × Nat) : Nat → St → Option R16 := fun j s => bif Nat.beq j 0 then normC [] s (kq16_3 n) else (fun _ _ => none) j s
noncomputable def F16_6 (n : Nat × Nat) : (St → Option R16) → St → Option R16 := fun K s => run (E16 n) (cA (cA (cB (cA (cB (cB c16)))))) (Ann.fst (Ann.fst (Ann.snd (Ann.fst (Ann.snd (Ann.snd an16)))))) (fun s => normC [0, 3] s K) (xb16_5 n) rt16 s
noncomputable def L16_1 (n : Nat × Nat) (m : Nat) (l0 : List (List Int)) (i3 : Int) : Option R16 := loopN (F16_6 n) m { tm := [.c (.sl (.sl (.int .i64)) l0 false), uu, uu, .c (.int .i64 i3), uu, uu, uu, uu, uu, uu, uu, uu, uu, uu, uu, uu, uu, uu, uu], hp := emp }
theorem L16_1_eq (n : Nat × Nat) (m1 : Nat) (l0 : List (List Int)) (i3 : Int) : L16_1 n (m1 + 1) l0 i3 =
 (bif decide (i3 < (l0.length : Int)) then (idx l0 i3).bind fun x1' =>
 (bif decide ((x1'.length : Int) > 40) then some true
 else L16_1 n m1 l0 (wr .i64 (i3 + 1)))
 else some false) := by kernel_rfl
noncomputable def S16 (n : Nat × Nat) (l0 : List (List Int)) : Option R16 := run (E16 n) c16 an16 rt16 (fun _ _ => none) rt16 { tm := [.c (.sl (.sl (.int .i64)) l0 false), uu, uu, uu, uu, uu, uu, uu, uu, uu, uu, uu, uu, uu, uu, uu, uu, uu, uu], hp := emp }
theorem S16_eq (n : Nat × Nat) (l0 : List (List Int)) : S16 n l0 =
 (bif decide ((l0.length : Int) > 40) then some true
 else L16_1 n n.1 l0 0) := by kernel_rfl
theorem S16_run (n : Nat × Nat) (xs : pksDen pk16) : S16 n xs.1 = runG (E16 n) noScope c16 an16 (rtG rk16) (fun _ _ => none) (rtG rk16) (st0 pk16 xs Tryd.f16.ntmps) := by kernel_rfl
noncomputable def P16 (n : Nat × Nat) := phiOf pk16 rk16 (fun xs => S16 n xs.1)
theorem call16 : CallOK Tryd.prog 16 := callOK_of Tryd.func16 (by kernel_rfl) (by kernel_rfl)
theorem env16 (n : Nat × Nat) : EnvOK Tryd.prog (E16 n) := envOK0 noPhi_ok rfl rfl
theorem par16 (n : Nat × Nat) : EnvPar (E16 n) := envPar0 noPhi_par rfl
theorem FC16 (n : Nat × Nat) : FCs Tryd.prog 16 (P16 n) := phiOf_FCs fun xs r h vs hv => FC.of_runG tabOK eqsOK (env16 n) (par16 n) mixed (fun _ p _ => noScope_ok p.1 p.2) Tryd.func16 (c := c16) (an := an16) (pks := pk16) (rks := rk16) (by kernel_rfl) (by kernel_rfl) hv ((S16_run n xs).symm.trans h)
abbrev R72 := Bool
noncomputable def c72 : Code := bodyOf Tryd.f72
noncomputable def an72 : Ann := .l
def pk72 : List PK := [.c (.int .i64), .c (.int .i64), .c (.int .i64)]
def rk72 : List RK := [.c .bool 6]
noncomputable def rt72 (st : St) : Option R72 := rtG rk72 st
noncomputable def E72 (n : Nat × Nat) : Env := { T := tab, phi := noPhi, eff := fun _ => false, fuel := n.1, hold := n.2 }
noncomputable def S72 (n : Nat × Nat) (v0 : Int) (lo1 : Int) (hi2 : Int) : Option R72 := run (E72 n) c72 an72 rt72 (fun _ _ => none) rt72 { tm := [.c (.int .i64 v0), .c (.int .i64 lo1), .c (.int .i64 hi2), uu, uu, uu, uu, uu, uu, uu, uu, uu, uu, uu, uu], hp := emp }
theorem S72_eq (n : Nat × Nat) (v0 : Int) (lo1 : Int) (hi2 : Int) : S72 n v0 lo1 hi2 =
 ((bif (decide (v0 ≥ lo1) == true) then some (decide (v0 ≤ hi2))
 else some false)).bind fun b1' =>
 some b1' := by kernel_rfl
theorem S72_run (n : Nat × Nat) (xs : pksDen pk72) : S72 n xs.1 xs.2.1 xs.2.2.1 = runG (E72 n) noScope c72 an72 (rtG rk72) (fun _ _ => none) (rtG rk72) (st0 pk72 xs Tryd.f72.ntmps) := by kernel_rfl
noncomputable def P72 (n : Nat × Nat) := phiOf pk72 rk72 (fun xs => S72 n xs.1 xs.2.1 xs.2.2.1)
theorem call72 : CallOK Tryd.prog 72 := callOK_of Tryd.func72 (by kernel_rfl) (by kernel_rfl)
theorem env72 (n : Nat × Nat) : EnvOK Tryd.prog (E72 n) := envOK0 noPhi_ok rfl rfl
theorem par72 (n : Nat × Nat) : EnvPar (E72 n) := envPar0 noPhi_par rfl
theorem FC72 (n : Nat × Nat) : FCs Tryd.prog 72 (P72 n) := phiOf_FCs fun xs r h vs hv => FC.of_runG tabOK eqsOK (env72 n) (par72 n) mixed (fun _ p _ => noScope_ok p.1 p.2) Tryd.func72 (c := c72) (an := an72) (pks := pk72) (rks := rk72) (by kernel_rfl) (by kernel_rfl) hv ((S72_run n xs).symm.trans h)
abbrev R27 := Int
noncomputable def c27 : Code := bodyOf Tryd.f27
noncomputable def an27 : Ann := (.s .l (.s (.s .l (.j [0, 1] .l .l)) (.s (.s .l (.j [0, 1] .l .l)) (.s (.s .l (.j [] (.j [0, 1, 5] (.s (.s .l (.j [0, 1, 5] .l .l)) (.s (.j [0, 1, 5] (.s .l (.j [0, 1, 5] .l .l)) .l) .l)) .l) .l)) .l))))
def pk27 : List PK := [.c (.int .i64), .c (.sl (.int .i64))]
def rk27 : List RK := [.c (.int .i64) 4]
noncomputable def rt27 (st : St) : Option R27 := rtG rk27 st
noncomputable def E27 (n : Nat × Nat) : Env := { T := tab, phi := (consPhi 72 (fun _ => true) (P72 n) noPhi), eff := fun _ => false, fuel := n.1, hold := n.2 }
noncomputable def kq27_5 (n : Nat × Nat) : St → Option R27 := run (E27 n) (cB (cB (cB (cB c27)))) (Ann.snd (Ann.snd (Ann.snd (Ann.snd an27)))) rt27 (fun _ _ => none) rt27
noncomputable def xb27_7 (n : Nat × Nat) : Nat → St → Option R27 := fun j s => bif Nat.beq j 0 then normC [] s (kq27_5 n) else (fun _ _ => none) j s
noncomputable def F27_8 (n : Nat × Nat) : (St → Option R27) → St → Option R27 := fun K s => run (E27 n) (cA (cA (cB (cA (cB (cB (cB c27))))))) (Ann.fst (Ann.fst (Ann.snd (Ann.fst (Ann.snd (Ann.snd (Ann.snd an27))))))) (fun s => normC [0, 1, 5] s K) (xb27_7 n) rt27 s
noncomputable def L27_1 (n : Nat × Nat) (m : Nat) (size0 : Int) (pieces1 : List Int) (i5 : Int) : Option R27 := loopN (F27_8 n) m { tm := [.c (.int .i64 size0), .c (.sl (.int .i64) pieces1 false), uu, uu, uu, .c (.int .i64 i5), uu, uu, uu, uu, uu, uu, uu, uu, uu, uu, uu, uu, uu, uu, uu, uu, uu, uu, uu], hp := emp }
theorem L27_1_eq (n : Nat × Nat) (m1 : Nat) (size0 : Int) (pieces1 : List Int) (i5 : Int) : L27_1 n (m1 + 1) size0 pieces1 i5 =
 (bif decide (i5 < (pieces1.length : Int)) then (idx pieces1 i5).bind fun x2' =>
 (S72 n x2' 1 size0).bind fun r3' =>
 (bif (!r3') then some 1
 else L27_1 n m1 size0 pieces1 (wr .i64 (i5 + 1)))
 else some 0) := by kernel_rfl
noncomputable def S27 (n : Nat × Nat) (size0 : Int) (pieces1 : List Int) : Option R27 := run (E27 n) c27 an27 rt27 (fun _ _ => none) rt27 { tm := [.c (.int .i64 size0), .c (.sl (.int .i64) pieces1 false), uu, uu, uu, uu, uu, uu, uu, uu, uu, uu, uu, uu, uu, uu, uu, uu, uu, uu, uu, uu, uu, uu, uu], hp := emp }
theorem S27_eq (n : Nat × Nat) (size0 : Int) (pieces1 : List Int) : S27 n size0 pieces1 =
 (S72 n size0 1 24).bind fun r1' =>
 (bif (!r1') then some 1
 else (bif decide ((pieces1.length : Int) > 8) then some 3
 else L27_1 n n.1 size0 pieces1 0)) := by kernel_rfl
theorem S27_run (n : Nat × Nat) (xs : pksDen pk27) : S27 n xs.1 xs.2.1 = runG (E27 n) noScope c27 an27 (rtG rk27) (fun _ _ => none) (rtG rk27) (st0 pk27 xs Tryd.f27.ntmps) := by kernel_rfl
noncomputable def P27 (n : Nat × Nat) := phiOf pk27 rk27 (fun xs => S27 n xs.1 xs.2.1)
theorem call27 : CallOK Tryd.prog 27 := callOK_of Tryd.func27 (by kernel_rfl) (by kernel_rfl)
theorem env27 (n : Nat × Nat) : EnvOK Tryd.prog (E27 n) := envOK0 (consPhi_ok (FC72 n) call72 noPhi_ok) rfl rfl
theorem par27 (n : Nat × Nat) : EnvPar (E27 n) := envPar0 (consPhi_par phiOf_Par1 noPhi_par) rfl
theorem FC27 (n : Nat × Nat) : FCs Tryd.prog 27 (P27 n) := phiOf_FCs fun xs r h vs hv => FC.of_runG tabOK eqsOK (env27 n) (par27 n) mixed (fun _ p _ => noScope_ok p.1 p.2) Tryd.func27 (c := c27) (an := an27) (pks := pk27) (rks := rk27) (by kernel_rfl) (by kernel_rfl) hv ((S27_run n xs).symm.trans h)
abbrev R67 := Int
noncomputable def c67 : Code := bodyOf Tryd.f67
noncomputable def an67 : Ann := (.s .l (.s .l (.s (.s .l (.j [3] (.j [0, 3, 4] (.s (.s .l (.j [0, 3, 4] .l .l)) (.s (.j [0, 3, 4] .l .l) .l)) .l) .l)) .l)))
def pk67 : List PK := [.c (.sl (.int .i64))]
def rk67 : List RK := [.c (.int .i64) 2]
noncomputable def rt67 (st : St) : Option R67 := rtG rk67 st
noncomputable def E67 (n : Nat × Nat) : Env := { T := tab, phi := noPhi, eff := fun _ => false, fuel := n.1, hold := n.2 }
noncomputable def kq67_1 (n : Nat × Nat) : St → Option R67 := run (E67 n) (cB (cB (cB c67))) (Ann.snd (Ann.snd (Ann.snd an67))) rt67 (fun _ _ => none) rt67
noncomputable def xb67_3 (n : Nat × Nat) : Nat → St → Option R67 := fun j s => bif Nat.beq j 0 then normC [3] s (kq67_1 n) else (fun _ _ => none) j s
noncomputable def F67_4 (n : Nat × Nat) : (St → Option R67) → St → Option R67 := fun K s => run (E67 n) (cA (cA (cB (cA (cB (cB c67)))))) (Ann.fst (Ann.fst (Ann.snd (Ann.fst (Ann.snd (Ann.snd an67)))))) (fun s => normC [0, 3, 4] s K) (xb67_3 n) rt67 s
noncomputable def L67_1 (n : Nat × Nat) (m : Nat) (plan0 : List Int) (v3 : Int) (i4 : Int) : Option R67 := loopN (F67_4 n) m { tm := [.c (.sl (.int .i64) plan0 false), uu, uu, .c (.int .i64 v3), .c (.int .i64 i4), uu, uu, uu, uu, uu, uu, uu, uu, uu, uu, uu, uu, uu, uu], hp := emp }
theorem L67_1_eq (n : Nat × Nat) (m1 : Nat) (plan0 : List Int) (v3 : Int) (i4 : Int) : L67_1 n (m1 + 1) plan0 v3 i4 =
 (bif decide (i4 < (plan0.length : Int)) then (idx plan0 i4).bind fun x1' =>
      L67_1 n m1 plan0 (if (wr .i64 (x1' + 1)) > v3 then (wr .i64 (x1' + 1)) else v3) (wr .i64 (i4 + 1))
 else some v3) := by kernel_rfl
noncomputable def S67 (n : Nat × Nat) (plan0 : List Int) : Option R67 := run (E67 n) c67 an67 rt67 (fun _ _ => none) rt67 { tm := [.c (.sl (.int .i64) plan0 false), uu, uu, uu, uu, uu, uu, uu, uu, uu, uu, uu, uu, uu, uu, uu, uu, uu, uu], hp := emp }
theorem S67_eq (n : Nat × Nat) (plan0 : List Int) : S67 n plan0 =
    L67_1 n n.1 plan0 0 0 := by kernel_rfl
theorem S67_run (n : Nat × Nat) (xs : pksDen pk67) : S67 n xs.1 = runG (E67 n) noScope c67 an67 (rtG rk67) (fun _ _ => none) (rtG rk67) (st0 pk67 xs Tryd.f67.ntmps) := by kernel_rfl
noncomputable def P67 (n : Nat × Nat) := phiOf pk67 rk67 (fun xs => S67 n xs.1)
theorem call67 : CallOK Tryd.prog 67 := callOK_of Tryd.func67 (by kernel_rfl) (by kernel_rfl)
theorem env67 (n : Nat × Nat) : EnvOK Tryd.prog (E67 n) := envOK0 noPhi_ok rfl rfl
theorem par67 (n : Nat × Nat) : EnvPar (E67 n) := envPar0 noPhi_par rfl
theorem FC67 (n : Nat × Nat) : FCs Tryd.prog 67 (P67 n) := phiOf_FCs fun xs r h vs hv => FC.of_runG tabOK eqsOK (env67 n) (par67 n) mixed (fun _ p _ => noScope_ok p.1 p.2) Tryd.func67 (c := c67) (an := an67) (pks := pk67) (rks := rk67) (by kernel_rfl) (by kernel_rfl) hv ((S67_run n xs).symm.trans h)
abbrev R68 := Int
noncomputable def c68 : Code := bodyOf Tryd.f68
noncomputable def an68 : Ann := (.s .l (.s .l (.s (.s .l (.j [7] (.j [0, 1, 2, 7, 8] (.s (.s .l (.j [0, 1, 2, 7, 8] .l .l)) (.j [] (.j [0, 1, 2, 7, 8] (.s .l (.j [0, 1, 2, 7, 8] .l .l)) .l) .l)) .l) .l)) .l)))
def pk68 : List PK := [.c (.sl (.int .i64)), .c (.sl (.int .i64)), .c (.int .i64)]
def rk68 : List RK := [.c (.int .i64) 6]
noncomputable def rt68 (st : St) : Option R68 := rtG rk68 st
noncomputable def E68 (n : Nat × Nat) : Env := { T := tab, phi := noPhi, eff := fun _ => false, fuel := n.1, hold := n.2 }
noncomputable def kq68_1 (n : Nat × Nat) : St → Option R68 := run (E68 n) (cB (cB (cB c68))) (Ann.snd (Ann.snd (Ann.snd an68))) rt68 (fun _ _ => none) rt68
noncomputable def xb68_3 (n : Nat × Nat) : Nat → St → Option R68 := fun j s => bif Nat.beq j 0 then normC [7] s (kq68_1 n) else (fun _ _ => none) j s
noncomputable def F68_4 (n : Nat × Nat) : (St → Option R68) → St → Option R68 := fun K s => run (E68 n) (cA (cA (cB (cA (cB (cB c68)))))) (Ann.fst (Ann.fst (Ann.snd (Ann.fst (Ann.snd (Ann.snd an68)))))) (fun s => normC [0, 1, 2, 7, 8] s K) (xb68_3 n) rt68 s
noncomputable def kq68_7 (n : Nat × Nat) (m1 : Nat) : St → Option R68 := run (E68 n) (cB (cB (cA (cA (cB (cA (cB (cB c68)))))))) (Ann.snd (Ann.snd (Ann.fst (Ann.fst (Ann.snd (Ann.fst (Ann.snd (Ann.snd an68)))))))) (fun s => normC [0, 1, 2, 7, 8] s (loopN (F68_4 n) m1)) (xb68_3 n) rt68
noncomputable def L68_1 (n : Nat × Nat) (m : Nat) (pieces0 : List Int) (plan1 : List Int) (sheet2 : Int) (v7 : Int) (i8 : Int) : Option R68 := loopN (F68_4 n) m { tm := [.c (.sl (.int .i64) pieces0 false), .c (.sl (.int .i64) plan1 false), .c (.int .i64 sheet2), uu, uu, uu, uu, .c (.int .i64 v7), .c (.int .i64 i8), uu, uu, uu, uu, uu, uu, uu, uu, uu, uu, uu, uu, uu, uu, uu, uu, uu, uu, uu], hp := emp }
noncomputable def L68_2 (n : Nat × Nat) (m1 : Nat) (pieces0 : List Int) (plan1 : List Int) (sheet2 : Int) (v7 : Int) (i8 : Int) : Option R68 := loopN (fun _ => (kq68_7 n m1)) n.2 { tm := [.c (.sl (.int .i64) pieces0 false), .c (.sl (.int .i64) plan1 false), .c (.int .i64 sheet2), uu, uu, uu, uu, .c (.int .i64 v7), .c (.int .i64 i8), uu, uu, uu, uu, uu, uu, uu, uu, uu, uu, uu, uu, uu, uu, uu, uu, uu, uu, uu], hp := emp }
theorem L68_1_eq (n : Nat × Nat) (m1 : Nat) (pieces0 : List Int) (plan1 : List Int) (sheet2 : Int) (v7 : Int) (i8 : Int) : L68_1 n (m1 + 1) pieces0 plan1 sheet2 v7 i8 =
 (bif decide (i8 < (plan1.length : Int)) then (idx plan1 i8).bind fun x1' =>
 (bif (x1' == sheet2) then (idx pieces0 i8).bind fun x2' =>
        L68_2 n m1 pieces0 plan1 sheet2 (wr .i64 (v7 + x2')) i8
 else L68_2 n m1 pieces0 plan1 sheet2 v7 i8)
 else some v7) := by kernel_rfl
theorem L68_2_raw (n : Nat × Nat) (m1 : Nat) (pieces0 : List Int) (plan1 : List Int) (sheet2 : Int) (v7 : Int) (i8 : Int) : (kq68_7 n m1) { tm := [.c (.sl (.int .i64) pieces0 false), .c (.sl (.int .i64) plan1 false), .c (.int .i64 sheet2), uu, uu, uu, uu, .c (.int .i64 v7), .c (.int .i64 i8), uu, uu, uu, uu, uu, uu, uu, uu, uu, uu, uu, uu, uu, uu, uu, uu, uu, uu, uu], hp := emp } =
    L68_1 n m1 pieces0 plan1 sheet2 v7 (wr .i64 (i8 + 1)) := by kernel_rfl
noncomputable def S68 (n : Nat × Nat) (pieces0 : List Int) (plan1 : List Int) (sheet2 : Int) : Option R68 := run (E68 n) c68 an68 rt68 (fun _ _ => none) rt68 { tm := [.c (.sl (.int .i64) pieces0 false), .c (.sl (.int .i64) plan1 false), .c (.int .i64 sheet2), uu, uu, uu, uu, uu, uu, uu, uu, uu, uu, uu, uu, uu, uu, uu, uu, uu, uu, uu, uu, uu, uu, uu, uu, uu], hp := emp }
theorem S68_eq (n : Nat × Nat) (pieces0 : List Int) (plan1 : List Int) (sheet2 : Int) : S68 n pieces0 plan1 sheet2 =
    L68_1 n n.1 pieces0 plan1 sheet2 0 0 := by kernel_rfl
theorem S68_run (n : Nat × Nat) (xs : pksDen pk68) : S68 n xs.1 xs.2.1 xs.2.2.1 = runG (E68 n) noScope c68 an68 (rtG rk68) (fun _ _ => none) (rtG rk68) (st0 pk68 xs Tryd.f68.ntmps) := by kernel_rfl
noncomputable def P68 (n : Nat × Nat) := phiOf pk68 rk68 (fun xs => S68 n xs.1 xs.2.1 xs.2.2.1)
theorem call68 : CallOK Tryd.prog 68 := callOK_of Tryd.func68 (by kernel_rfl) (by kernel_rfl)
theorem env68 (n : Nat × Nat) : EnvOK Tryd.prog (E68 n) := envOK0 noPhi_ok rfl rfl
theorem par68 (n : Nat × Nat) : EnvPar (E68 n) := envPar0 noPhi_par rfl
theorem FC68 (n : Nat × Nat) : FCs Tryd.prog 68 (P68 n) := phiOf_FCs fun xs r h vs hv => FC.of_runG tabOK eqsOK (env68 n) (par68 n) mixed (fun _ p _ => noScope_ok p.1 p.2) Tryd.func68 (c := c68) (an := an68) (pks := pk68) (rks := rk68) (by kernel_rfl) (by kernel_rfl) hv ((S68_run n xs).symm.trans h)
abbrev R29 := Int
noncomputable def c29 : Code := bodyOf Tryd.f29
noncomputable def an29 : Ann := (.s .l (.s .l (.s (.s .l (.j [0, 1, 2, 7, 27, 28, 51, 52] .l .l)) (.s (.s .l (.j [0, 1, 2, 7, 51, 52] (.j [0, 1, 2, 7, 8, 27, 28, 51, 52] (.s (.s .l (.j [0, 1, 2, 7, 8, 27, 28, 51, 52] .l .l)) (.j [] (.j [0, 1, 2, 7, 8, 27, 28, 51, 52] (.s .l (.j [0, 1, 2, 7, 8, 27, 28, 51, 52] .l (.s .l (.j [0, 1, 2, 7, 8, 27, 28, 51, 52] .l .l)))) .l) .l)) .l) .l)) (.s (.s .l (.j [7] (.j [0, 1, 2, 7, 9, 51, 52] (.s (.s .l (.j [0, 1, 2, 7, 9, 51, 52] .l .l)) (.j [] (.j [0, 1, 2, 7, 9, 51, 52] (.s .l (.j [0, 1, 2, 7, 9, 51, 52] .l .l)) .l) .l)) .l) .l)) .l)))))
def pk29 : List PK := [.c (.int .i64), .c (.sl (.int .i64)), .c (.sl (.int .i64))]
def rk29 : List RK := [.c (.int .i64) 6]
noncomputable def rt29 (st : St) : Option R29 := rtG rk29 st
noncomputable def E29 (n : Nat × Nat) : Env := { T := tab, phi := (consPhi 27 (fun _ => true) (P27 n) (consPhi 67 (fun _ => true) (P67 n) (consPhi 68 (fun _ => true) (P68 n) noPhi))), eff := fun _ => false, fuel := n.1, hold := n.2 }
noncomputable def kq29_3 (n : Nat × Nat) : St → Option R29 := run (E29 n) (cB (cB (cB (cB c29)))) (Ann.snd (Ann.snd (Ann.snd (Ann.snd an29)))) rt29 (fun _ _ => none) rt29
noncomputable def xb29_5 (n : Nat × Nat) : Nat → St → Option R29 := fun j s => bif Nat.beq j 0 then normC [0, 1, 2, 7, 51, 52] s (kq29_3 n) else (fun _ _ => none) j s
noncomputable def F29_6 (n : Nat × Nat) : (St → Option R29) → St → Option R29 := fun K s => run (E29 n) (cA (cA (cB (cA (cB (cB (cB c29))))))) (Ann.fst (Ann.fst (Ann.snd (Ann.fst (Ann.snd (Ann.snd (Ann.snd an29))))))) (fun s => normC [0, 1, 2, 7, 8, 27, 28, 51, 52] s K) (xb29_5 n) rt29 s
noncomputable def kq29_9 (n : Nat × Nat) (m1 : Nat) : St → Option R29 := run (E29 n) (cB (cB (cA (cA (cB (cA (cB (cB (cB c29))))))))) (Ann.snd (Ann.snd (Ann.fst (Ann.fst (Ann.snd (Ann.fst (Ann.snd (Ann.snd (Ann.snd an29))))))))) (fun s => normC [0, 1, 2, 7, 8, 27, 28, 51, 52] s (loopN (F29_6 n) m1)) (xb29_5 n) rt29
noncomputable def kq29_14 (n : Nat × Nat) : St → Option R29 := run (E29 n) (cB (cB (cB (cB (cB c29))))) (Ann.snd (Ann.snd (Ann.snd (Ann.snd (Ann.snd an29))))) rt29 (fun _ _ => none) rt29
noncomputable def xb29_16 (n : Nat × Nat) : Nat → St → Option R29 := fun j s => bif Nat.beq j 2 then normC [7] s (kq29_14 n) else (fun _ _ => none) j s
noncomputable def F29_17 (n : Nat × Nat) : (St → Option R29) → St → Option R29 := fun K s => run (E29 n) (cA (cA (cB (cA (cB (cB (cB (cB c29)))))))) (Ann.fst (Ann.fst (Ann.snd (Ann.fst (Ann.snd (Ann.snd (Ann.snd (Ann.snd an29)))))))) (fun s => normC [0, 1, 2, 7, 9, 51, 52] s K) (xb29_16 n) rt29 s
noncomputable def kq29_20 (n : Nat × Nat) (m1 : Nat) : St → Option R29 := run (E29 n) (cB (cB (cA (cA (cB (cA (cB (cB (cB (cB c29)))))))))) (Ann.snd (Ann.snd (Ann.fst (Ann.fst (Ann.snd (Ann.fst (Ann.snd (Ann.snd (Ann.snd (Ann.snd an29)))))))))) (fun s => normC [0, 1, 2, 7, 9, 51, 52] s (loopN (F29_17 n) m1)) (xb29_16 n) rt29
noncomputable def L29_1 (n : Nat × Nat) (m : Nat) (size0 : Int) (pieces1 : List Int) (plan2 : List Int) (e7 : Int) (i8 : Int) : Option R29 := loopN (F29_6 n) m { tm := [.c (.int .i64 size0), .c (.sl (.int .i64) pieces1 false), .c (.sl (.int .i64) plan2 false), uu, uu, uu, uu, .c (.int .i64 e7), .c (.int .i64 i8), uu, uu, uu, uu, uu, uu, uu, uu, uu, uu, uu, uu, uu, uu, uu, uu, uu, uu, uu, uu, uu, uu, uu, uu, uu, uu, uu, uu, uu, uu, uu, uu, uu, uu, uu, uu, uu, uu, uu, uu, uu, uu, uu, uu, uu, uu, uu, uu, uu, uu, uu, uu, uu, uu, uu, uu, uu], hp := emp }
noncomputable def L29_2 (n : Nat × Nat) (m1 : Nat) (size0 : Int) (pieces1 : List Int) (plan2 : List Int) (e7 : Int) (i8 : Int) : Option R29 := loopN (fun _ => (kq29_9 n m1)) n.2 { tm := [.c (.int .i64 size0), .c (.sl (.int .i64) pieces1 false), .c (.sl (.int .i64) plan2 false), uu, uu, uu, uu, .c (.int .i64 e7), .c (.int .i64 i8), uu, uu, uu, uu, uu, uu, uu, uu, uu, uu, uu, uu, uu, uu, uu, uu, uu, uu, uu, uu, uu, uu, uu, uu, uu, uu, uu, uu, uu, uu, uu, uu, uu, uu, uu, uu, uu, uu, uu, uu, uu, uu, uu, uu, uu, uu, uu, uu, uu, uu, uu, uu, uu, uu, uu, uu, uu], hp := emp }
noncomputable def L29_3 (n : Nat × Nat) (m : Nat) (size0 : Int) (pieces1 : List Int) (plan2 : List Int) (e7 : Int) (i9 : Int) : Option R29 := loopN (F29_17 n) m { tm := [.c (.int .i64 size0), .c (.sl (.int .i64) pieces1 false), .c (.sl (.int .i64) plan2 false), uu, uu, uu, uu, .c (.int .i64 e7), uu, .c (.int .i64 i9), uu, uu, uu, uu, uu, uu, uu, uu, uu, uu, uu, uu, uu, uu, uu, uu, uu, uu, uu, uu, uu, uu, uu, uu, uu, uu, uu, uu, uu, uu, uu, uu, uu, uu, uu, uu, uu, uu, uu, uu, uu, uu, uu, uu, uu, uu, uu, uu, uu, uu, uu, uu, uu, uu, uu, uu], hp := emp }
noncomputable def L29_4 (n : Nat × Nat) (m1 : Nat) (size0 : Int) (pieces1 : List Int) (plan2 : List Int) (e7 : Int) (i9 : Int) : Option R29 := loopN (fun _ => (kq29_20 n m1)) n.2 { tm := [.c (.int .i64 size0), .c (.sl (.int .i64) pieces1 false), .c (.sl (.int .i64) plan2 false), uu, uu, uu, uu, .c (.int .i64 e7), uu, .c (.int .i64 i9), uu, uu, uu, uu, uu, uu, uu, uu, uu, uu, uu, uu, uu, uu, uu, uu, uu, uu, uu, uu, uu, uu, uu, uu, uu, uu, uu, uu, uu, uu, uu, uu, uu, uu, uu, uu, uu, uu, uu, uu, uu, uu, uu, uu, uu, uu, uu, uu, uu, uu, uu, uu, uu, uu, uu, uu], hp := emp }
theorem L29_1_eq (n : Nat × Nat) (m1 : Nat) (size0 : Int) (pieces1 : List Int) (plan2 : List Int) (e7 : Int) (i8 : Int) : L29_1 n (m1 + 1) size0 pieces1 plan2 e7 i8 =
 ((bif (decide (i8 < (plan2.length : Int)) == true) then some (e7 == 0)
 else some false)).bind fun b3' =>
 (bif b3' then (idx plan2 i8).bind fun x4' =>
 (bif decide (x4' < 0) then L29_2 n m1 size0 pieces1 plan2 2 i8
 else (idx plan2 i8).bind fun x5' =>
 (bif bounds none (some i8) none plan2.length then (S67 n (plan2.take (Int.toNat i8))).bind fun r6' =>
 (bif decide (x5' > r6') then L29_2 n m1 size0 pieces1 plan2 7 i8
 else L29_2 n m1 size0 pieces1 plan2 e7 i8)
 else none))
 else L29_3 n n.1 size0 pieces1 plan2 e7 0) := by kernel_rfl
theorem L29_2_raw (n : Nat × Nat) (m1 : Nat) (size0 : Int) (pieces1 : List Int) (plan2 : List Int) (e7 : Int) (i8 : Int) : (kq29_9 n m1) { tm := [.c (.int .i64 size0), .c (.sl (.int .i64) pieces1 false), .c (.sl (.int .i64) plan2 false), uu, uu, uu, uu, .c (.int .i64 e7), .c (.int .i64 i8), uu, uu, uu, uu, uu, uu, uu, uu, uu, uu, uu, uu, uu, uu, uu, uu, uu, uu, uu, uu, uu, uu, uu, uu, uu, uu, uu, uu, uu, uu, uu, uu, uu, uu, uu, uu, uu, uu, uu, uu, uu, uu, uu, uu, uu, uu, uu, uu, uu, uu, uu, uu, uu, uu, uu, uu, uu], hp := emp } =
    L29_1 n m1 size0 pieces1 plan2 e7 (wr .i64 (i8 + 1)) := by kernel_rfl
theorem L29_3_eq (n : Nat × Nat) (m1 : Nat) (size0 : Int) (pieces1 : List Int) (plan2 : List Int) (e7 : Int) (i9 : Int) : L29_3 n (m1 + 1) size0 pieces1 plan2 e7 i9 =
 ((bif (decide (i9 < (plan2.length : Int)) == true) then some (e7 == 0)
 else some false)).bind fun b7' =>
 (bif b7' then (idx plan2 i9).bind fun x8' =>
 (S68 n pieces1 plan2 x8').bind fun r9' =>
 (bif decide (r9' > size0) then L29_4 n m1 size0 pieces1 plan2 15 i9
 else L29_4 n m1 size0 pieces1 plan2 e7 i9)
 else some e7) := by kernel_rfl
theorem L29_4_raw (n : Nat × Nat) (m1 : Nat) (size0 : Int) (pieces1 : List Int) (plan2 : List Int) (e7 : Int) (i9 : Int) : (kq29_20 n m1) { tm := [.c (.int .i64 size0), .c (.sl (.int .i64) pieces1 false), .c (.sl (.int .i64) plan2 false), uu, uu, uu, uu, .c (.int .i64 e7), uu, .c (.int .i64 i9), uu, uu, uu, uu, uu, uu, uu, uu, uu, uu, uu, uu, uu, uu, uu, uu, uu, uu, uu, uu, uu, uu, uu, uu, uu, uu, uu, uu, uu, uu, uu, uu, uu, uu, uu, uu, uu, uu, uu, uu, uu, uu, uu, uu, uu, uu, uu, uu, uu, uu, uu, uu, uu, uu, uu, uu], hp := emp } =
    L29_3 n m1 size0 pieces1 plan2 e7 (wr .i64 (i9 + 1)) := by kernel_rfl
noncomputable def S29 (n : Nat × Nat) (size0 : Int) (pieces1 : List Int) (plan2 : List Int) : Option R29 := run (E29 n) c29 an29 rt29 (fun _ _ => none) rt29 { tm := [.c (.int .i64 size0), .c (.sl (.int .i64) pieces1 false), .c (.sl (.int .i64) plan2 false), uu, uu, uu, uu, uu, uu, uu, uu, uu, uu, uu, uu, uu, uu, uu, uu, uu, uu, uu, uu, uu, uu, uu, uu, uu, uu, uu, uu, uu, uu, uu, uu, uu, uu, uu, uu, uu, uu, uu, uu, uu, uu, uu, uu, uu, uu, uu, uu, uu, uu, uu, uu, uu, uu, uu, uu, uu, uu, uu, uu, uu, uu, uu], hp := emp }
theorem S29_eq (n : Nat × Nat) (size0 : Int) (pieces1 : List Int) (plan2 : List Int) : S29 n size0 pieces1 plan2 =
 (S27 n size0 pieces1).bind fun r1' =>
 ((bif ((r1' == 0) == true) then some ((plan2.length : Int) != (pieces1.length : Int))
 else some false)).bind fun b2' =>
 (bif b2' then L29_1 n n.1 size0 pieces1 plan2 5 0
 else L29_1 n n.1 size0 pieces1 plan2 r1' 0) := by kernel_rfl
theorem S29_run (n : Nat × Nat) (xs : pksDen pk29) : S29 n xs.1 xs.2.1 xs.2.2.1 = runG (E29 n) noScope c29 an29 (rtG rk29) (fun _ _ => none) (rtG rk29) (st0 pk29 xs Tryd.f29.ntmps) := by kernel_rfl
noncomputable def P29 (n : Nat × Nat) := phiOf pk29 rk29 (fun xs => S29 n xs.1 xs.2.1 xs.2.2.1)
theorem call29 : CallOK Tryd.prog 29 := callOK_of Tryd.func29 (by kernel_rfl) (by kernel_rfl)
theorem env29 (n : Nat × Nat) : EnvOK Tryd.prog (E29 n) := envOK0 (consPhi_ok (FC27 n) call27 (consPhi_ok (FC67 n) call67 (consPhi_ok (FC68 n) call68 noPhi_ok))) rfl rfl
theorem par29 (n : Nat × Nat) : EnvPar (E29 n) := envPar0 (consPhi_par phiOf_Par1 (consPhi_par phiOf_Par1 (consPhi_par phiOf_Par1 noPhi_par))) rfl
theorem FC29 (n : Nat × Nat) : FCs Tryd.prog 29 (P29 n) := phiOf_FCs fun xs r h vs hv => FC.of_runG tabOK eqsOK (env29 n) (par29 n) mixed (fun _ p _ => noScope_ok p.1 p.2) Tryd.func29 (c := c29) (an := an29) (pks := pk29) (rks := rk29) (by kernel_rfl) (by kernel_rfl) hv ((S29_run n xs).symm.trans h)
abbrev R19 := List Int × Int
noncomputable def c19 : Code := bodyOf Tryd.f19
noncomputable def an19 : Ann := (.s .l (.s .l (.s (.s .l (.j [0, 1, 2] .l .l)) (.s .l (.s (.s .l (.j [9] (.j [0, 1, 2, 9, 10] (.s (.s .l (.j [0, 1, 2, 9, 10] .l .l)) (.s (.j [0, 1, 2, 9, 10] .l .l) .l)) .l) .l)) .l)))))
def pk19 : List PK := [.c (.int .i64), .c (.sl (.int .i64)), .c (.sl (.int .i64))]
def rk19 : List RK := [.own (.int .i64) 6, .c (.int .i64) 7]
noncomputable def rt19 (st : St) : Option R19 := rtG rk19 st
noncomputable def E19 (n : Nat × Nat) : Env := { T := tab, phi := (consPhi 29 (fun _ => true) (P29 n) (consPhi 67 (fun _ => true) (P67 n) (consPhi 68 (fun _ => true) (P68 n) noPhi))), eff := fun _ => false, fuel := n.1, hold := n.2 }
noncomputable def kq19_3 (n : Nat × Nat) : St → Option R19 := run (E19 n) (cB (cB (cB (cB (cB c19))))) (Ann.snd (Ann.snd (Ann.snd (Ann.snd (Ann.snd an19))))) rt19 (fun _ _ => none) rt19
noncomputable def xb19_5 (n : Nat × Nat) : Nat → St → Option R19 := fun j s => bif Nat.beq j 0 then normC [9] s (kq19_3 n) else (fun _ _ => none) j s
noncomputable def F19_6 (n : Nat × Nat) : (St → Option R19) → St → Option R19 := fun K s => run (E19 n) (cA (cA (cB (cA (cB (cB (cB (cB c19)))))))) (Ann.fst (Ann.fst (Ann.snd (Ann.fst (Ann.snd (Ann.snd (Ann.snd (Ann.snd an19)))))))) (fun s => normC [0, 1, 2, 9, 10] s K) (xb19_5 n) rt19 s
noncomputable def L19_1 (n : Nat × Nat) (m : Nat) (size0 : Int) (pieces1 : List Int) (plan2 : List Int) (s10 : Int) (out9 : List Int) : Option R19 := loopN (F19_6 n) m { tm := [.c (.int .i64 size0), .c (.sl (.int .i64) pieces1 false), .c (.sl (.int .i64) plan2 false), uu, uu, uu, uu, uu, uu, .own 9 none false, .c (.int .i64 s10), uu, uu, uu, uu, uu, uu, uu, uu, uu, uu, uu, uu, uu, uu, uu, uu, uu, uu, uu, uu, uu, uu, uu], hp := (upd emp 9 (.arr (.int .i64) out9 false)) }
theorem L19_1_eq (n : Nat × Nat) (m1 : Nat) (size0 : Int) (pieces1 : List Int) (plan2 : List Int) (s10 : Int) (out9 : List Int) : L19_1 n (m1 + 1) size0 pieces1 plan2 s10 out9 =
 (S67 n plan2).bind fun r2' =>
 (bif decide (s10 < r2') then (S68 n pieces1 plan2 s10).bind fun r3' =>
 (bif decide (out9.length + [wr .i64 (size0 - r3')].length ≤ lim) then L19_1 n m1 size0 pieces1 plan2 (wr .i64 (s10 + 1)) (out9 ++ [wr .i64 (size0 - r3')])
 else none)
 else some (out9, 0)) := by kernel_rfl
noncomputable def S19 (n : Nat × Nat) (size0 : Int) (pieces1 : List Int) (plan2 : List Int) : Option R19 := run (E19 n) c19 an19 rt19 (fun _ _ => none) rt19 { tm := [.c (.int .i64 size0), .c (.sl (.int .i64) pieces1 false), .c (.sl (.int .i64) plan2 false), uu, uu, uu, uu, uu, uu, uu, uu, uu, uu, uu, uu, uu, uu, uu, uu, uu, uu, uu, uu, uu, uu, uu, uu, uu, uu, uu, uu, uu, uu, uu], hp := emp }
theorem S19_eq (n : Nat × Nat) (size0 : Int) (pieces1 : List Int) (plan2 : List Int) : S19 n size0 pieces1 plan2 =
 (S29 n size0 pieces1 plan2).bind fun r1' =>
 (bif (r1' != 0) then some ([], r1')
 else L19_1 n n.1 size0 pieces1 plan2 0 []) := by kernel_rfl
theorem S19_run (n : Nat × Nat) (xs : pksDen pk19) : S19 n xs.1 xs.2.1 xs.2.2.1 = runG (E19 n) noScope c19 an19 (rtG rk19) (fun _ _ => none) (rtG rk19) (st0 pk19 xs Tryd.f19.ntmps) := by kernel_rfl
noncomputable def P19 (n : Nat × Nat) := phiOf pk19 rk19 (fun xs => S19 n xs.1 xs.2.1 xs.2.2.1)
theorem call19 : CallOK Tryd.prog 19 := callOK_of Tryd.func19 (by kernel_rfl) (by kernel_rfl)
theorem env19 (n : Nat × Nat) : EnvOK Tryd.prog (E19 n) := envOK0 (consPhi_ok (FC29 n) call29 (consPhi_ok (FC67 n) call67 (consPhi_ok (FC68 n) call68 noPhi_ok))) rfl rfl
theorem par19 (n : Nat × Nat) : EnvPar (E19 n) := envPar0 (consPhi_par phiOf_Par1 (consPhi_par phiOf_Par1 (consPhi_par phiOf_Par1 noPhi_par))) rfl
theorem FC19 (n : Nat × Nat) : FCs Tryd.prog 19 (P19 n) := phiOf_FCs fun xs r h vs hv => FC.of_runG tabOK eqsOK (env19 n) (par19 n) mixed (fun _ p _ => noScope_ok p.1 p.2) Tryd.func19 (c := c19) (an := an19) (pks := pk19) (rks := rk19) (by kernel_rfl) (by kernel_rfl) hv ((S19_run n xs).symm.trans h)
abbrev R21 := List (List Int) × Int
noncomputable def c21 : Code := bodyOf Tryd.f21
noncomputable def an21 : Ann := (.s .l (.s .l (.s (.s .l (.j [2] .l .l)) (.s .l (.s (.s .l (.j [9] (.j [2, 9, 10] (.s (.s .l (.j [2, 9, 10] .l .l)) (.s (.j [2, 9, 10] (.s .l (.s (.s .l (.j [2, 9, 10, 11] (.j [2, 9, 10, 11, 12] (.s (.s .l (.j [2, 9, 10, 11, 12] .l .l)) (.j [] (.j [2, 9, 10, 11, 12] (.s .l (.j [2, 9, 10, 11, 12] .l .l)) .l) .l)) .l) .l)) .l)) .l) .l)) .l) .l)) .l)))))
def pk21 : List PK := [.c (.int .i64), .c (.sl (.int .i64)), .c (.sl (.int .i64))]
def rk21 : List RK := [.own (.sl (.int .i64)) 6, .c (.int .i64) 7]
noncomputable def rt21 (st : St) : Option R21 := rtG rk21 st
noncomputable def E21 (n : Nat × Nat) : Env := { T := tab, phi := (consPhi 29 (fun _ => true) (P29 n) (consPhi 67 (fun _ => true) (P67 n) noPhi)), eff := fun _ => false, fuel := n.1, hold := n.2 }
noncomputable def kq21_3 (n : Nat × Nat) : St → Option R21 := run (E21 n) (cB (cB (cB (cB (cB c21))))) (Ann.snd (Ann.snd (Ann.snd (Ann.snd (Ann.snd an21))))) rt21 (fun _ _ => none) rt21
noncomputable def xb21_5 (n : Nat × Nat) : Nat → St → Option R21 := fun j s => bif Nat.beq j 0 then normC [9] s (kq21_3 n) else (fun _ _ => none) j s
noncomputable def F21_6 (n : Nat × Nat) : (St → Option R21) → St → Option R21 := fun K s => run (E21 n) (cA (cA (cB (cA (cB (cB (cB (cB c21)))))))) (Ann.fst (Ann.fst (Ann.snd (Ann.fst (Ann.snd (Ann.snd (Ann.snd (Ann.snd an21)))))))) (fun s => normC [2, 9, 10] s K) (xb21_5 n) rt21 s
noncomputable def kq21_9 (n : Nat × Nat) (m1 : Nat) : St → Option R21 := run (E21 n) (cB (cB (cA (cA (cB (cA (cB (cB (cB (cB c21)))))))))) (Ann.snd (Ann.snd (Ann.fst (Ann.fst (Ann.snd (Ann.fst (Ann.snd (Ann.snd (Ann.snd (Ann.snd an21)))))))))) (fun s => normC [2, 9, 10] s (loopN (F21_6 n) m1)) (xb21_5 n) rt21
noncomputable def kc21_10 (n : Nat × Nat) (m1 : Nat) : St → Option R21 := fun s => normC [2, 9, 10] s (kq21_9 n m1)
noncomputable def xb21_11 (n : Nat × Nat) (m1 : Nat) : Nat → St → Option R21 := fun j s => bif Nat.beq j 1 then normC [2, 9, 10] s (kq21_9 n m1) else (xb21_5 n) j s
noncomputable def kq21_12 (n : Nat × Nat) (m1 : Nat) : St → Option R21 := run (E21 n) (cB (cB (cA (cA (cB (cA (cA (cB (cA (cB (cB (cB (cB c21))))))))))))) (Ann.snd (Ann.snd (Ann.fst (Ann.fst (Ann.snd (Ann.fst (Ann.fst (Ann.snd (Ann.fst (Ann.snd (Ann.snd (Ann.snd (Ann.snd an21))))))))))))) (kc21_10 n m1) (xb21_11 n m1) rt21
noncomputable def xb21_14 (n : Nat × Nat) (m1 : Nat) : Nat → St → Option R21 := fun j s => bif Nat.beq j 2 then normC [2, 9, 10, 11] s (kq21_12 n m1) else (xb21_11 n m1) j s
noncomputable def F21_15 (n : Nat × Nat) (m1 : Nat) : (St → Option R21) → St → Option R21 := fun K s => run (E21 n) (cA (cA (cB (cA (cB (cA (cA (cB (cA (cA (cB (cA (cB (cB (cB (cB c21)))))))))))))))) (Ann.fst (Ann.fst (Ann.snd (Ann.fst (Ann.snd (Ann.fst (Ann.fst (Ann.snd (Ann.fst (Ann.fst (Ann.snd (Ann.fst (Ann.snd (Ann.snd (Ann.snd (Ann.snd an21)))))))))))))))) (fun s => normC [2, 9, 10, 11, 12] s K) (xb21_14 n m1) rt21 s
noncomputable def kq21_18 (n : Nat × Nat) (m1 m2 : Nat) : St → Option R21 := run (E21 n) (cB (cB (cA (cA (cB (cA (cB (cA (cA (cB (cA (cA (cB (cA (cB (cB (cB (cB c21)))))))))))))))))) (Ann.snd (Ann.snd (Ann.fst (Ann.fst (Ann.snd (Ann.fst (Ann.snd (Ann.fst (Ann.fst (Ann.snd (Ann.fst (Ann.fst (Ann.snd (Ann.fst (Ann.snd (Ann.snd (Ann.snd (Ann.snd an21)))))))))))))))))) (fun s => normC [2, 9, 10, 11, 12] s (loopN (F21_15 n m1) m2)) (xb21_14 n m1) rt21
noncomputable def L21_1 (n : Nat × Nat) (m : Nat) (plan2 : List Int) (s10 : Int) (out9 : List (List Int)) : Option R21 := loopN (F21_6 n) m { tm := [uu, uu, .c (.sl (.int .i64) plan2 false), uu, uu, uu, uu, uu, uu, .own 9 none false, .c (.int .i64 s10), uu, uu, uu, uu, uu, uu, uu, uu, uu, uu, uu, uu, uu, uu, uu, uu, uu, uu, uu, uu, uu, uu, uu, uu, uu, uu, uu, uu, uu, uu, uu, uu, uu, uu, uu, uu], hp := (upd emp 9 (.arr (.sl (.int .i64)) out9 false)) }
noncomputable def L21_2 (n : Nat × Nat) (m1 : Nat) (m : Nat) (plan2 : List Int) (s10 : Int) (i12 : Int) (out9 : List (List Int)) (l11 : List Int) : Option R21 := loopN (F21_15 n m1) m { tm := [uu, uu, .c (.sl (.int .i64) plan2 false), uu, uu, uu, uu, uu, uu, .own 9 none false, .c (.int .i64 s10), .own 11 none false, .c (.int .i64 i12), uu, uu, uu, uu, uu, uu, uu, uu, uu, uu, uu, uu, uu, uu, uu, uu, uu, uu, uu, uu, uu, uu, uu, uu, uu, uu, uu, uu, uu, uu, uu, uu, uu, uu], hp := (upd (upd emp 11 (.arr (.int .i64) l11 false)) 9 (.arr (.sl (.int .i64)) out9 false)) }
noncomputable def L21_3 (n : Nat × Nat) (m1 m2 : Nat) (plan2 : List Int) (s10 : Int) (i12 : Int) (out9 : List (List Int)) (l11 : List Int) : Option R21 := loopN (fun _ => (kq21_18 n m1 m2)) n.2 { tm := [uu, uu, .c (.sl (.int .i64) plan2 false), uu, uu, uu, uu, uu, uu, .own 9 none false, .c (.int .i64 s10), .own 11 none false, .c (.int .i64 i12), uu, uu, uu, uu, uu, uu, uu, uu, uu, uu, uu, uu, uu, uu, uu, uu, uu, uu, uu, uu, uu, uu, uu, uu, uu, uu, uu, uu, uu, uu, uu, uu, uu, uu], hp := (upd (upd emp 11 (.arr (.int .i64) l11 false)) 9 (.arr (.sl (.int .i64)) out9 false)) }
theorem L21_1_eq (n : Nat × Nat) (m1 : Nat) (plan2 : List Int) (s10 : Int) (out9 : List (List Int)) : L21_1 n (m1 + 1) plan2 s10 out9 =
 (S67 n plan2).bind fun r2' =>
 (bif decide (s10 < r2') then L21_2 n m1 n.1 plan2 s10 0 out9 []
 else some (out9, 0)) := by kernel_rfl
theorem L21_2_eq (n : Nat × Nat) (m1 m2 : Nat) (plan2 : List Int) (s10 : Int) (i12 : Int) (out9 : List (List Int)) (l11 : List Int) : L21_2 n m1 (m2 + 1) plan2 s10 i12 out9 l11 =
 (bif decide (i12 < (plan2.length : Int)) then (idx plan2 i12).bind fun x3' =>
 (bif (x3' == s10) then (bif decide (l11.length + [i12].length ≤ lim) then L21_3 n m1 m2 plan2 s10 i12 out9 (l11 ++ [i12])
 else none)
 else L21_3 n m1 m2 plan2 s10 i12 out9 l11)
 else (bif decide (out9.length + [l11].length ≤ lim) then L21_1 n m1 plan2 (wr .i64 (s10 + 1)) (out9 ++ [l11])
 else none)) := by kernel_rfl
theorem L21_3_raw (n : Nat × Nat) (m1 m2 : Nat) (plan2 : List Int) (s10 : Int) (i12 : Int) (out9 : List (List Int)) (l11 : List Int) : (kq21_18 n m1 m2) { tm := [uu, uu, .c (.sl (.int .i64) plan2 false), uu, uu, uu, uu, uu, uu, .own 9 none false, .c (.int .i64 s10), .own 11 none false, .c (.int .i64 i12), uu, uu, uu, uu, uu, uu, uu, uu, uu, uu, uu, uu, uu, uu, uu, uu, uu, uu, uu, uu, uu, uu, uu, uu, uu, uu, uu, uu, uu, uu, uu, uu, uu, uu], hp := (upd (upd emp 11 (.arr (.int .i64) l11 false)) 9 (.arr (.sl (.int .i64)) out9 false)) } =
    L21_2 n m1 m2 plan2 s10 (wr .i64 (i12 + 1)) out9 l11 := by kernel_rfl
noncomputable def S21 (n : Nat × Nat) (size0 : Int) (pieces1 : List Int) (plan2 : List Int) : Option R21 := run (E21 n) c21 an21 rt21 (fun _ _ => none) rt21 { tm := [.c (.int .i64 size0), .c (.sl (.int .i64) pieces1 false), .c (.sl (.int .i64) plan2 false), uu, uu, uu, uu, uu, uu, uu, uu, uu, uu, uu, uu, uu, uu, uu, uu, uu, uu, uu, uu, uu, uu, uu, uu, uu, uu, uu, uu, uu, uu, uu, uu, uu, uu, uu, uu, uu, uu, uu, uu, uu, uu, uu, uu], hp := emp }
theorem S21_eq (n : Nat × Nat) (size0 : Int) (pieces1 : List Int) (plan2 : List Int) : S21 n size0 pieces1 plan2 =
 (S29 n size0 pieces1 plan2).bind fun r1' =>
 (bif (r1' != 0) then some ([], r1')
 else L21_1 n n.1 plan2 0 []) := by kernel_rfl
theorem S21_run (n : Nat × Nat) (xs : pksDen pk21) : S21 n xs.1 xs.2.1 xs.2.2.1 = runG (E21 n) noScope c21 an21 (rtG rk21) (fun _ _ => none) (rtG rk21) (st0 pk21 xs Tryd.f21.ntmps) := by kernel_rfl
noncomputable def P21 (n : Nat × Nat) := phiOf pk21 rk21 (fun xs => S21 n xs.1 xs.2.1 xs.2.2.1)
theorem call21 : CallOK Tryd.prog 21 := callOK_of Tryd.func21 (by kernel_rfl) (by kernel_rfl)
theorem env21 (n : Nat × Nat) : EnvOK Tryd.prog (E21 n) := envOK0 (consPhi_ok (FC29 n) call29 (consPhi_ok (FC67 n) call67 noPhi_ok)) rfl rfl
theorem par21 (n : Nat × Nat) : EnvPar (E21 n) := envPar0 (consPhi_par phiOf_Par1 (consPhi_par phiOf_Par1 noPhi_par)) rfl
theorem FC21 (n : Nat × Nat) : FCs Tryd.prog 21 (P21 n) := phiOf_FCs fun xs r h vs hv => FC.of_runG tabOK eqsOK (env21 n) (par21 n) mixed (fun _ p _ => noScope_ok p.1 p.2) Tryd.func21 (c := c21) (an := an21) (pks := pk21) (rks := rk21) (by kernel_rfl) (by kernel_rfl) hv ((S21_run n xs).symm.trans h)
abbrev R73 := Bool
noncomputable def c73 : Code := bodyOf Tryd.f73
noncomputable def an73 : Ann := (.s .l (.s (.s .l (.j [] (.j [0, 1, 5] (.s (.s .l (.j [0, 1, 5] .l .l)) (.s (.j [0, 1, 5] (.s .l (.j [0, 1, 5] .l .l)) .l) .l)) .l) .l)) .l))
def pk73 : List PK := [.c (.sl (.int .i64)), .c (.int .i64)]
def rk73 : List RK := [.c .bool 4]
noncomputable def rt73 (st : St) : Option R73 := rtG rk73 st
noncomputable def E73 (n : Nat × Nat) : Env := { T := tab, phi := noPhi, eff := fun _ => false, fuel := n.1, hold := n.2 }
noncomputable def kq73_1 (n : Nat × Nat) : St → Option R73 := run (E73 n) (cB (cB c73)) (Ann.snd (Ann.snd an73)) rt73 (fun _ _ => none) rt73
noncomputable def xb73_3 (n : Nat × Nat) : Nat → St → Option R73 := fun j s => bif Nat.beq j 0 then normC [] s (kq73_1 n) else (fun _ _ => none) j s
noncomputable def F73_4 (n : Nat × Nat) : (St → Option R73) → St → Option R73 := fun K s => run (E73 n) (cA (cA (cB (cA (cB c73))))) (Ann.fst (Ann.fst (Ann.snd (Ann.fst (Ann.snd an73))))) (fun s => normC [0, 1, 5] s K) (xb73_3 n) rt73 s
noncomputable def L73_1 (n : Nat × Nat) (m : Nat) (l0 : List Int) (v1 : Int) (i5 : Int) : Option R73 := loopN (F73_4 n) m { tm := [.c (.sl (.int .i64) l0 false), .c (.int .i64 v1), uu, uu, uu, .c (.int .i64 i5), uu, uu, uu, uu, uu, uu, uu, uu, uu, uu, uu, uu], hp := emp }
theorem L73_1_eq (n : Nat × Nat) (m1 : Nat) (l0 : List Int) (v1 : Int) (i5 : Int) : L73_1 n (m1 + 1) l0 v1 i5 =
 (bif decide (i5 < (l0.length : Int)) then (idx l0 i5).bind fun x1' =>
 (bif (x1' == v1) then some true
 else L73_1 n m1 l0 v1 (wr .i64 (i5 + 1)))
 else some false) := by kernel_rfl
noncomputable def S73 (n : Nat × Nat) (l0 : List Int) (v1 : Int) : Option R73 := run (E73 n) c73 an73 rt73 (fun _ _ => none) rt73 { tm := [.c (.sl (.int .i64) l0 false), .c (.int .i64 v1), uu, uu, uu, uu, uu, uu, uu, uu, uu, uu, uu, uu, uu, uu, uu, uu], hp := emp }
theorem S73_eq (n : Nat × Nat) (l0 : List Int) (v1 : Int) : S73 n l0 v1 =
    L73_1 n n.1 l0 v1 0 := by kernel_rfl
theorem S73_run (n : Nat × Nat) (xs : pksDen pk73) : S73 n xs.1 xs.2.1 = runG (E73 n) noScope c73 an73 (rtG rk73) (fun _ _ => none) (rtG rk73) (st0 pk73 xs Tryd.f73.ntmps) := by kernel_rfl
noncomputable def P73 (n : Nat × Nat) := phiOf pk73 rk73 (fun xs => S73 n xs.1 xs.2.1)
theorem call73 : CallOK Tryd.prog 73 := callOK_of Tryd.func73 (by kernel_rfl) (by kernel_rfl)
theorem env73 (n : Nat × Nat) : EnvOK Tryd.prog (E73 n) := envOK0 noPhi_ok rfl rfl
theorem par73 (n : Nat × Nat) : EnvPar (E73 n) := envPar0 noPhi_par rfl
theorem FC73 (n : Nat × Nat) : FCs Tryd.prog 73 (P73 n) := phiOf_FCs fun xs r h vs hv => FC.of_runG tabOK eqsOK (env73 n) (par73 n) mixed (fun _ p _ => noScope_ok p.1 p.2) Tryd.func73 (c := c73) (an := an73) (pks := pk73) (rks := rk73) (by kernel_rfl) (by kernel_rfl) hv ((S73_run n xs).symm.trans h)
abbrev R74 := List Int
noncomputable def c74 : Code := bodyOf Tryd.f74
noncomputable def an74 : Ann := (.s .l (.s .l (.s (.s .l (.j [5] (.j [0, 1, 5, 6, 36, 37, 38, 39, 40, 41] (.s (.s .l (.j [0, 1, 5, 6, 36, 37, 38, 39, 40, 41] .l .l)) (.s (.j [0, 1, 5, 6, 36, 37, 38, 39, 40, 41] (.s .l (.s (.s .l (.j [0, 1, 5, 6, 7, 36, 37, 38, 39, 40, 41] (.j [0, 1, 5, 6, 7, 8, 36, 37, 38, 39, 40, 41] (.s (.s .l (.j [0, 1, 5, 6, 7, 8, 36, 37, 38, 39, 40, 41] .l .l)) (.s (.j [0, 1, 5, 6, 7, 8, 36, 37, 38, 39, 40, 41] (.s .l (.j [0, 1, 5, 6, 7, 8, 36, 37, 38, 39, 40, 41] (.j [0, 1, 5, 6, 7, 8, 9, 36, 37, 38, 39, 40, 41] (.s (.s .l (.j [0, 1, 5, 6, 7, 8, 9, 36, 37, 38, 39, 40, 41] .l .l)) (.j [] (.j [0, 1, 5, 6, 7, 8, 9, 36, 37, 38, 39, 40, 41] (.s .l (.j [0, 1, 5, 6, 7, 8, 9, 36, 37, 38, 39, 40, 41] .l .l)) .l) .l)) .l) .l)) .l) .l)) .l) .l)) .l)) .l) .l)) .l) .l)) .l)))
def pk74 : List PK := [.c (.sl (.int .i64)), .c (.sl (.sl (.int .i64)))]
def rk74 : List RK := [.own (.int .i64) 4]
noncomputable def rt74 (st : St) : Option R74 := rtG rk74 st
noncomputable def E74 (n : Nat × Nat) : Env := { T := tab, phi := (consPhi 67 (fun _ => true) (P67 n) (consPhi 73 (fun _ => true) (P73 n) noPhi)), eff := fun _ => false, fuel := n.1, hold := n.2 }
noncomputable def kq74_1 (n : Nat × Nat) : St → Option R74 := run (E74 n) (cB (cB (cB c74))) (Ann.snd (Ann.snd (Ann.snd an74))) rt74 (fun _ _ => none) rt74
noncomputable def xb74_3 (n : Nat × Nat) : Nat → St → Option R74 := fun j s => bif Nat.beq j 0 then normC [5] s (kq74_1 n) else (fun _ _ => none) j s
noncomputable def F74_4 (n : Nat × Nat) : (St → Option R74) → St → Option R74 := fun K s => run (E74 n) (cA (cA (cB (cA (cB (cB c74)))))) (Ann.fst (Ann.fst (Ann.snd (Ann.fst (Ann.snd (Ann.snd an74)))))) (fun s => normC [0, 1, 5, 6, 36, 37, 38, 39, 40, 41] s K) (xb74_3 n) rt74 s
noncomputable def kq74_7 (n : Nat × Nat) (m1 : Nat) : St → Option R74 := run (E74 n) (cB (cB (cA (cA (cB (cA (cB (cB c74)))))))) (Ann.snd (Ann.snd (Ann.fst (Ann.fst (Ann.snd (Ann.fst (Ann.snd (Ann.snd an74)))))))) (fun s => normC [0, 1, 5, 6, 36, 37, 38, 39, 40, 41] s (loopN (F74_4 n) m1)) (xb74_3 n) rt74
noncomputable def kc74_8 (n : Nat × Nat) (m1 : Nat) : St → Option R74 := fun s => normC [0, 1, 5, 6, 36, 37, 38, 39, 40, 41] s (kq74_7 n m1)
noncomputable def xb74_9 (n : Nat × Nat) (m1 : Nat) : Nat → St → Option R74 := fun j s => bif Nat.beq j 1 then normC [0, 1, 5, 6, 36, 37, 38, 39, 40, 41] s (kq74_7 n m1) else (xb74_3 n) j s
noncomputable def kq74_10 (n : Nat × Nat) (m1 : Nat) : St → Option R74 := run (E74 n) (cB (cB (cA (cA (cB (cA (cA (cB (cA (cB (cB c74))))))))))) (Ann.snd (Ann.snd (Ann.fst (Ann.fst (Ann.snd (Ann.fst (Ann.fst (Ann.snd (Ann.fst (Ann.snd (Ann.snd an74))))))))))) (kc74_8 n m1) (xb74_9 n m1) rt74
noncomputable def xb74_12 (n : Nat × Nat) (m1 : Nat) : Nat → St → Option R74 := fun j s => bif Nat.beq j 2 then normC [0, 1, 5, 6, 7, 36, 37, 38, 39, 40, 41] s (kq74_10 n m1) else (xb74_9 n m1) j s
noncomputable def F74_13 (n : Nat × Nat) (m1 : Nat) : (St → Option R74) → St → Option R74 := fun K s => run (E74 n) (cA (cA (cB (cA (cB (cA (cA (cB (cA (cA (cB (cA (cB (cB c74)))))))))))))) (Ann.fst (Ann.fst (Ann.snd (Ann.fst (Ann.snd (Ann.fst (Ann.fst (Ann.snd (Ann.fst (Ann.fst (Ann.snd (Ann.fst (Ann.snd (Ann.snd an74)))))))))))))) (fun s => normC [0, 1, 5, 6, 7, 8, 36, 37, 38, 39, 40, 41] s K) (xb74_12 n m1) rt74 s
noncomputable def kq74_16 (n : Nat × Nat) (m1 m2 : Nat) : St → Option R74 := run (E74 n) (cB (cB (cA (cA (cB (cA (cB (cA (cA (cB (cA (cA (cB (cA (cB (cB c74)))))))))))))))) (Ann.snd (Ann.snd (Ann.fst (Ann.fst (Ann.snd (Ann.fst (Ann.snd (Ann.fst (Ann.fst (Ann.snd (Ann.fst (Ann.fst (Ann.snd (Ann.fst (Ann.snd (Ann.snd an74)))))))))))))))) (fun s => normC [0, 1, 5, 6, 7, 8, 36, 37, 38, 39, 40, 41] s (loopN (F74_13 n m1) m2)) (xb74_12 n m1) rt74
noncomputable def kc74_17 (n : Nat × Nat) (m1 m2 : Nat) : St → Option R74 := fun s => normC [0, 1, 5, 6, 7, 8, 36, 37, 38, 39, 40, 41] s (kq74_16 n m1 m2)
noncomputable def xb74_18 (n : Nat × Nat) (m1 m2 : Nat) : Nat → St → Option R74 := fun j s => bif Nat.beq j 3 then normC [0, 1, 5, 6, 7, 8, 36, 37, 38, 39, 40, 41] s (kq74_16 n m1 m2) else (xb74_12 n m1) j s
noncomputable def xb74_20 (n : Nat × Nat) (m1 m2 : Nat) : Nat → St → Option R74 := fun j s => bif Nat.beq j 4 then normC [0, 1, 5, 6, 7, 8, 36, 37, 38, 39, 40, 41] s (kc74_17 n m1 m2) else (xb74_18 n m1 m2) j s
noncomputable def F74_21 (n : Nat × Nat) (m1 m2 : Nat) : (St → Option R74) → St → Option R74 := fun K s => run (E74 n) (cA (cA (cB (cA (cA (cB (cA (cA (cB (cA (cB (cA (cA (cB (cA (cA (cB (cA (cB (cB c74)))))))))))))))))))) (Ann.fst (Ann.fst (Ann.snd (Ann.fst (Ann.fst (Ann.snd (Ann.fst (Ann.fst (Ann.snd (Ann.fst (Ann.snd (Ann.fst (Ann.fst (Ann.snd (Ann.fst (Ann.fst (Ann.snd (Ann.fst (Ann.snd (Ann.snd an74)))))))))))))))))))) (fun s => normC [0, 1, 5, 6, 7, 8, 9, 36, 37, 38, 39, 40, 41] s K) (xb74_20 n m1 m2) rt74 s
noncomputable def kq74_24 (n : Nat × Nat) (m1 m2 m3 : Nat) : St → Option R74 := run (E74 n) (cB (cB (cA (cA (cB (cA (cA (cB (cA (cA (cB (cA (cB (cA (cA (cB (cA (cA (cB (cA (cB (cB c74)))))))))))))))))))))) (Ann.snd (Ann.snd (Ann.fst (Ann.fst (Ann.snd (Ann.fst (Ann.fst (Ann.snd (Ann.fst (Ann.fst (Ann.snd (Ann.fst (Ann.snd (Ann.fst (Ann.fst (Ann.snd (Ann.fst (Ann.fst (Ann.snd (Ann.fst (Ann.snd (Ann.snd an74)))))))))))))))))))))) (fun s => normC [0, 1, 5, 6, 7, 8, 9, 36, 37, 38, 39, 40, 41] s (loopN (F74_21 n m1 m2) m3)) (xb74_20 n m1 m2) rt74
noncomputable def L74_1 (n : Nat × Nat) (m : Nat) (pieces0 : List Int) (groups1 : List (List Int)) (i6 : Int) (out5 : List Int) : Option R74 := loopN (F74_4 n) m { tm := [.c (.sl (.int .i64) pieces0 false), .c (.sl (.sl (.int .i64)) groups1 false), uu, uu, uu, .own 5 none false, .c (.int .i64 i6), uu, uu, uu, uu, uu, uu, uu, uu, uu, uu, uu, uu, uu, uu, uu, uu, uu, uu, uu, uu, uu, uu, uu, uu, uu, uu, uu, uu, uu, uu, uu, uu, uu, uu, uu, uu, uu, uu, uu, uu, uu, uu, uu, uu, uu], hp := (upd emp 5 (.arr (.int .i64) out5 false)) }
noncomputable def L74_2 (n : Nat × Nat) (m1 : Nat) (m : Nat) (pieces0 : List Int) (groups1 : List (List Int)) (i6 : Int) (sheet7 : Int) (k8 : Int) (out5 : List Int) : Option R74 := loopN (F74_13 n m1) m { tm := [.c (.sl (.int .i64) pieces0 false), .c (.sl (.sl (.int .i64)) groups1 false), uu, uu, uu, .own 5 none false, .c (.int .i64 i6), .c (.int .i64 sheet7), .c (.int .i64 k8), uu, uu, uu, uu, uu, uu, uu, uu, uu, uu, uu, uu, uu, uu, uu, uu, uu, uu, uu, uu, uu, uu, uu, uu, uu, uu, uu, uu, uu, uu, uu, uu, uu, uu, uu, uu, uu, uu, uu, uu, uu, uu, uu], hp := (upd emp 5 (.arr (.int .i64) out5 false)) }
noncomputable def L74_3 (n : Nat × Nat) (m1 m2 : Nat) (m : Nat) (pieces0 : List Int) (groups1 : List (List Int)) (i6 : Int) (sheet7 : Int) (k8 : Int) (g9 : Int) (out5 : List Int) : Option R74 := loopN (F74_21 n m1 m2) m { tm := [.c (.sl (.int .i64) pieces0 false), .c (.sl (.sl (.int .i64)) groups1 false), uu, uu, uu, .own 5 none false, .c (.int .i64 i6), .c (.int .i64 sheet7), .c (.int .i64 k8), .c (.int .i64 g9), uu, uu, uu, uu, uu, uu, uu, uu, uu, uu, uu, uu, uu, uu, uu, uu, uu, uu, uu, uu, uu, uu, uu, uu, uu, uu, uu, uu, uu, uu, uu, uu, uu, uu, uu, uu, uu, uu, uu, uu, uu, uu], hp := (upd emp 5 (.arr (.int .i64) out5 false)) }
noncomputable def L74_4 (n : Nat × Nat) (m1 m2 m3 : Nat) (pieces0 : List Int) (groups1 : List (List Int)) (i6 : Int) (sheet7 : Int) (k8 : Int) (g9 : Int) (out5 : List Int) : Option R74 := loopN (fun _ => (kq74_24 n m1 m2 m3)) n.2 { tm := [.c (.sl (.int .i64) pieces0 false), .c (.sl (.sl (.int .i64)) groups1 false), uu, uu, uu, .own 5 none false, .c (.int .i64 i6), .c (.int .i64 sheet7), .c (.int .i64 k8), .c (.int .i64 g9), uu, uu, uu, uu, uu, uu, uu, uu, uu, uu, uu, uu, uu, uu, uu, uu, uu, uu, uu, uu, uu, uu, uu, uu, uu, uu, uu, uu, uu, uu, uu, uu, uu, uu, uu, uu, uu, uu, uu, uu, uu, uu], hp := (upd emp 5 (.arr (.int .i64) out5 false)) }
theorem L74_1_eq (n : Nat × Nat) (m1 : Nat) (pieces0 : List Int) (groups1 : List (List Int)) (i6 : Int) (out5 : List Int) : L74_1 n (m1 + 1) pieces0 groups1 i6 out5 =
 (bif decide (i6 < (pieces0.length : Int)) then (S67 n out5).bind fun r1' =>
      L74_2 n m1 n.1 pieces0 groups1 i6 r1' 0 out5
 else some out5) := by kernel_rfl
theorem L74_2_eq (n : Nat × Nat) (m1 m2 : Nat) (pieces0 : List Int) (groups1 : List (List Int)) (i6 : Int) (sheet7 : Int) (k8 : Int) (out5 : List Int) : L74_2 n m1 (m2 + 1) pieces0 groups1 i6 sheet7 k8 out5 =
 (bif decide (k8 < i6) then L74_3 n m1 m2 n.1 pieces0 groups1 i6 sheet7 k8 0 out5
 else (bif decide (out5.length + [sheet7].length ≤ lim) then L74_1 n m1 pieces0 groups1 (wr .i64 (i6 + 1)) (out5 ++ [sheet7])
 else none)) := by kernel_rfl
theorem L74_3_eq (n : Nat × Nat) (m1 m2 m3 : Nat) (pieces0 : List Int) (groups1 : List (List Int)) (i6 : Int) (sheet7 : Int) (k8 : Int) (g9 : Int) (out5 : List Int) : L74_3 n m1 m2 (m3 + 1) pieces0 groups1 i6 sheet7 k8 g9 out5 =
 (bif decide (g9 < (groups1.length : Int)) then (idx groups1 g9).bind fun x2' =>
 (S73 n x2' i6).bind fun r3' =>
 ((bif (r3' == true) then (idx groups1 g9).bind fun x4' =>
 (S73 n x4' k8).bind fun r5' =>
 some r5'
 else some false)).bind fun b6' =>
 (bif b6' then (bif inB k8 out5.length then (idx out5 k8).bind fun x7' =>
          L74_4 n m1 m2 m3 pieces0 groups1 i6 x7' k8 g9 out5
 else none)
 else L74_4 n m1 m2 m3 pieces0 groups1 i6 sheet7 k8 g9 out5)
 else L74_2 n m1 m2 pieces0 groups1 i6 sheet7 (wr .i64 (k8 + 1)) out5) := by kernel_rfl
theorem L74_4_raw (n : Nat × Nat) (m1 m2 m3 : Nat) (pieces0 : List Int) (groups1 : List (List Int)) (i6 : Int) (sheet7 : Int) (k8 : Int) (g9 : Int) (out5 : List Int) : (kq74_24 n m1 m2 m3) { tm := [.c (.sl (.int .i64) pieces0 false), .c (.sl (.sl (.int .i64)) groups1 false), uu, uu, uu, .own 5 none false, .c (.int .i64 i6), .c (.int .i64 sheet7), .c (.int .i64 k8), .c (.int .i64 g9), uu, uu, uu, uu, uu, uu, uu, uu, uu, uu, uu, uu, uu, uu, uu, uu, uu, uu, uu, uu, uu, uu, uu, uu, uu, uu, uu, uu, uu, uu, uu, uu, uu, uu, uu, uu, uu, uu, uu, uu, uu, uu], hp := (upd emp 5 (.arr (.int .i64) out5 false)) } =
    L74_3 n m1 m2 m3 pieces0 groups1 i6 sheet7 k8 (wr .i64 (g9 + 1)) out5 := by kernel_rfl
noncomputable def S74 (n : Nat × Nat) (pieces0 : List Int) (groups1 : List (List Int)) : Option R74 := run (E74 n) c74 an74 rt74 (fun _ _ => none) rt74 { tm := [.c (.sl (.int .i64) pieces0 false), .c (.sl (.sl (.int .i64)) groups1 false), uu, uu, uu, uu, uu, uu, uu, uu, uu, uu, uu, uu, uu, uu, uu, uu, uu, uu, uu, uu, uu, uu, uu, uu, uu, uu, uu, uu, uu, uu, uu, uu, uu, uu, uu, uu, uu, uu, uu, uu, uu, uu, uu, uu, uu, uu, uu, uu, uu, uu], hp := emp }
theorem S74_eq (n : Nat × Nat) (pieces0 : List Int) (groups1 : List (List Int)) : S74 n pieces0 groups1 =
    L74_1 n n.1 pieces0 groups1 0 [] := by kernel_rfl
theorem S74_run (n : Nat × Nat) (xs : pksDen pk74) : S74 n xs.1 xs.2.1 = runG (E74 n) noScope c74 an74 (rtG rk74) (fun _ _ => none) (rtG rk74) (st0 pk74 xs Tryd.f74.ntmps) := by kernel_rfl
noncomputable def P74 (n : Nat × Nat) := phiOf pk74 rk74 (fun xs => S74 n xs.1 xs.2.1)
theorem call74 : CallOK Tryd.prog 74 := callOK_of Tryd.func74 (by kernel_rfl) (by kernel_rfl)
theorem env74 (n : Nat × Nat) : EnvOK Tryd.prog (E74 n) := envOK0 (consPhi_ok (FC67 n) call67 (consPhi_ok (FC73 n) call73 noPhi_ok)) rfl rfl
theorem par74 (n : Nat × Nat) : EnvPar (E74 n) := envPar0 (consPhi_par phiOf_Par1 (consPhi_par phiOf_Par1 noPhi_par)) rfl
theorem FC74 (n : Nat × Nat) : FCs Tryd.prog 74 (P74 n) := phiOf_FCs fun xs r h vs hv => FC.of_runG tabOK eqsOK (env74 n) (par74 n) mixed (fun _ p _ => noScope_ok p.1 p.2) Tryd.func74 (c := c74) (an := an74) (pks := pk74) (rks := rk74) (by kernel_rfl) (by kernel_rfl) hv ((S74_run n xs).symm.trans h)
abbrev R23 := List Int × Int
noncomputable def c23 : Code := bodyOf Tryd.f23
noncomputable def an23 : Ann := (.s .l (.s .l (.s .l (.s (.s .l (.j [0, 1, 2, 8, 9, 79, 80, 81, 82, 83] (.j [0, 1, 2, 8, 9, 10, 21, 22, 40, 41, 79, 80, 81, 82, 83] (.s (.s .l (.j [0, 1, 2, 8, 9, 10, 21, 22, 40, 41, 79, 80, 81, 82, 83] .l .l)) (.s (.j [0, 1, 2, 8, 9, 10, 21, 22, 40, 41, 79, 80, 81, 82, 83] (.s (.s .l (.j [0, 1, 2, 8, 9, 10, 21, 22, 40, 41, 79, 80, 81, 82, 83] .l .l)) (.s .l (.j [0, 1, 2, 8, 9, 10, 21, 22, 40, 41, 79, 80, 81, 82, 83] (.j [0, 1, 2, 8, 9, 10, 11, 21, 22, 40, 41, 79, 80, 81, 82, 83] (.s (.s .l (.j [0, 1, 2, 8, 9, 10, 11, 21, 22, 40, 41, 79, 80, 81, 82, 83] .l .l)) (.s (.j [0, 1, 2, 8, 9, 10, 11, 21, 22, 40, 41, 79, 80, 81, 82, 83] (.s (.s .l (.j [0, 1, 2, 8, 9, 10, 11, 21, 22, 40, 41, 79, 80, 81, 82, 83] .l (.s .l (.j [0, 1, 2, 8, 9, 10, 11, 21, 22, 40, 41, 79, 80, 81, 82, 83] .l .l)))) .l) .l) .l)) .l) .l))) .l) .l)) .l) .l)) (.s (.s .l (.j [0, 1, 2, 8] .l .l)) (.s (.s .l (.j [0, 1, 2] .l .l)) (.s .l (.s .l (.s (.s .l (.j [12] .l .l)) .l)))))))))
def pk23 : List PK := [.c (.int .i64), .c (.sl (.int .i64)), .c (.sl (.sl (.int .i64)))]
def rk23 : List RK := [.own (.int .i64) 6, .c (.int .i64) 7]
noncomputable def rt23 (st : St) : Option R23 := rtG rk23 st
noncomputable def E23 (n : Nat × Nat) : Env := { T := tab, phi := (consPhi 27 (fun _ => true) (P27 n) (consPhi 29 (fun _ => true) (P29 n) (consPhi 72 (fun _ => true) (P72 n) (consPhi 73 (fun _ => true) (P73 n) (consPhi 74 (fun _ => true) (P74 n) noPhi))))), eff := fun _ => false, fuel := n.1, hold := n.2 }
noncomputable def kq23_1 (n : Nat × Nat) : St → Option R23 := run (E23 n) (cB (cB (cB (cB c23)))) (Ann.snd (Ann.snd (Ann.snd (Ann.snd an23)))) rt23 (fun _ _ => none) rt23
noncomputable def xb23_3 (n : Nat × Nat) : Nat → St → Option R23 := fun j s => bif Nat.beq j 0 then normC [0, 1, 2, 8, 9, 79, 80, 81, 82, 83] s (kq23_1 n) else (fun _ _ => none) j s
noncomputable def F23_4 (n : Nat × Nat) : (St → Option R23) → St → Option R23 := fun K s => run (E23 n) (cA (cA (cB (cA (cB (cB (cB c23))))))) (Ann.fst (Ann.fst (Ann.snd (Ann.fst (Ann.snd (Ann.snd (Ann.snd an23))))))) (fun s => normC [0, 1, 2, 8, 9, 10, 21, 22, 40, 41, 79, 80, 81, 82, 83] s K) (xb23_3 n) rt23 s
noncomputable def kq23_7 (n : Nat × Nat) (m1 : Nat) : St → Option R23 := run (E23 n) (cB (cB (cA (cA (cB (cA (cB (cB (cB c23))))))))) (Ann.snd (Ann.snd (Ann.fst (Ann.fst (Ann.snd (Ann.fst (Ann.snd (Ann.snd (Ann.snd an23))))))))) (fun s => normC [0, 1, 2, 8, 9, 10, 21, 22, 40, 41, 79, 80, 81, 82, 83] s (loopN (F23_4 n) m1)) (xb23_3 n) rt23
noncomputable def kc23_8 (n : Nat × Nat) (m1 : Nat) : St → Option R23 := fun s => normC [0, 1, 2, 8, 9, 10, 21, 22, 40, 41, 79, 80, 81, 82, 83] s (kq23_7 n m1)
noncomputable def xb23_9 (n : Nat × Nat) (m1 : Nat) : Nat → St → Option R23 := fun j s => bif Nat.beq j 1 then normC [0, 1, 2, 8, 9, 10, 21, 22, 40, 41, 79, 80, 81, 82, 83] s (kq23_7 n m1) else (xb23_3 n) j s
noncomputable def xb23_13 (n : Nat × Nat) (m1 : Nat) : Nat → St → Option R23 := fun j s => bif Nat.beq j 2 then normC [0, 1, 2, 8, 9, 10, 21, 22, 40, 41, 79, 80, 81, 82, 83] s (kc23_8 n m1) else (xb23_9 n m1) j s
noncomputable def F23_14 (n : Nat × Nat) (m1 : Nat) : (St → Option R23) → St → Option R23 := fun K s => run (E23 n) (cA (cA (cB (cB (cA (cA (cB (cA (cA (cB (cA (cB (cB (cB c23)))))))))))))) (Ann.fst (Ann.fst (Ann.snd (Ann.snd (Ann.fst (Ann.fst (Ann.snd (Ann.fst (Ann.fst (Ann.snd (Ann.fst (Ann.snd (Ann.snd (Ann.snd an23)))))))))))))) (fun s => normC [0, 1, 2, 8, 9, 10, 11, 21, 22, 40, 41, 79, 80, 81, 82, 83] s K) (xb23_13 n m1) rt23 s
noncomputable def L23_1 (n : Nat × Nat) (m : Nat) (size0 : Int) (pieces1 : List Int) (groups2 : List (List Int)) (e8 : Int) (g10 : Int) (met9 : List Int) : Option R23 := loopN (F23_4 n) m { tm := [.c (.int .i64 size0), .c (.sl (.int .i64) pieces1 false), .c (.sl (.sl (.int .i64)) groups2 false), uu, uu, uu, uu, uu, .c (.int .i64 e8), .own 9 none false, .c (.int .i64 g10), uu, uu, uu, uu, uu, uu, uu, uu, uu, uu, uu, uu, uu, uu, uu, uu, uu, uu, uu, uu, uu, uu, uu, uu, uu, uu, uu, uu, uu, uu, uu, uu, uu, uu, uu, uu, uu, uu, uu, uu, uu, uu, uu, uu, uu, uu, uu, uu, uu, uu, uu, uu, uu, uu, uu, uu, uu, uu, uu, uu, uu, uu, uu, uu, uu, uu, uu, uu, uu, uu, uu, uu, uu, uu, uu, uu, uu, uu, uu, uu, uu, uu, uu, uu, uu, uu, uu, uu], hp := (upd emp 9 (.arr (.int .i64) met9 false)) }
noncomputable def L23_2 (n : Nat × Nat) (m1 : Nat) (m : Nat) (size0 : Int) (pieces1 : List Int) (groups2 : List (List Int)) (e8 : Int) (g10 : Int) (k11 : Int) (met9 : List Int) : Option R23 := loopN (F23_14 n m1) m { tm := [.c (.int .i64 size0), .c (.sl (.int .i64) pieces1 false), .c (.sl (.sl (.int .i64)) groups2 false), uu, uu, uu, uu, uu, .c (.int .i64 e8), .own 9 none false, .c (.int .i64 g10), .c (.int .i64 k11), uu, uu, uu, uu, uu, uu, uu, uu, uu, uu, uu, uu, uu, uu, uu, uu, uu, uu, uu, uu, uu, uu, uu, uu, uu, uu, uu, uu, uu, uu, uu, uu, uu, uu, uu, uu, uu, uu, uu, uu, uu, uu, uu, uu, uu, uu, uu, uu, uu, uu, uu, uu, uu, uu, uu, uu, uu, uu, uu, uu, uu, uu, uu, uu, uu, uu, uu, uu, uu, uu, uu, uu, uu, uu, uu, uu, uu, uu, uu, uu, uu, uu, uu, uu, uu, uu, uu], hp := (upd emp 9 (.arr (.int .i64) met9 false)) }
theorem L23_1_eq (n : Nat × Nat) (m1 : Nat) (size0 : Int) (pieces1 : List Int) (groups2 : List (List Int)) (e8 : Int) (g10 : Int) (met9 : List Int) : L23_1 n (m1 + 1) size0 pieces1 groups2 e8 g10 met9 =
 ((bif (decide (g10 < (groups2.length : Int)) == true) then some (e8 == 0)
 else some false)).bind fun b2' =>
 (bif b2' then (idx groups2 g10).bind fun x3' =>
 (bif ((x3'.length : Int) == 0) then L23_2 n m1 n.1 size0 pieces1 groups2 5 g10 0 met9
 else L23_2 n m1 n.1 size0 pieces1 groups2 e8 g10 0 met9)
 else ((bif ((e8 == 0) == true) then some ((met9.length : Int) != (pieces1.length : Int))
 else some false)).bind fun b4' =>
 (bif b4' then (bif (5 != 0) then some ([], 5)
 else (S74 n pieces1 groups2).bind fun r5' =>
 (S29 n size0 pieces1 r5').bind fun r6' =>
 (bif (r6' != 0) then some ([], r6')
 else some (r5', 0)))
 else (bif (e8 != 0) then some ([], e8)
 else (S74 n pieces1 groups2).bind fun r7' =>
 (S29 n size0 pieces1 r7').bind fun r8' =>
 (bif (r8' != 0) then some ([], r8')
 else some (r7', 0))))) := by kernel_rfl
theorem L23_2_eq (n : Nat × Nat) (m1 m2 : Nat) (size0 : Int) (pieces1 : List Int) (groups2 : List (List Int)) (e8 : Int) (g10 : Int) (k11 : Int) (met9 : List Int) : L23_2 n m1 (m2 + 1) size0 pieces1 groups2 e8 g10 k11 met9 =
 (idx groups2 g10).bind fun x9' =>
 ((bif (decide (k11 < (x9'.length : Int)) == true) then some (e8 == 0)
 else some false)).bind fun b10' =>
 (bif b10' then (idx groups2 g10).bind fun x11' =>
 (idx x11' k11).bind fun x12' =>
 (S72 n x12' 0 (wr .i64 ((pieces1.length : Int) - 1))).bind fun r13' =>
 (bif (!r13') then (idx groups2 g10).bind fun x14' =>
 (idx x14' k11).bind fun x15' =>
 (bif decide (met9.length + [x15'].length ≤ lim) then L23_2 n m1 m2 size0 pieces1 groups2 2 g10 (wr .i64 (k11 + 1)) (met9 ++ [x15'])
 else none)
 else (idx groups2 g10).bind fun x16' =>
 (idx x16' k11).bind fun x17' =>
 (S73 n met9 x17').bind fun r18' =>
 (bif r18' then (idx groups2 g10).bind fun x19' =>
 (idx x19' k11).bind fun x20' =>
 (bif decide (met9.length + [x20'].length ≤ lim) then L23_2 n m1 m2 size0 pieces1 groups2 6 g10 (wr .i64 (k11 + 1)) (met9 ++ [x20'])
 else none)
 else (idx groups2 g10).bind fun x21' =>
 (idx x21' k11).bind fun x22' =>
 (bif decide (met9.length + [x22'].length ≤ lim) then L23_2 n m1 m2 size0 pieces1 groups2 e8 g10 (wr .i64 (k11 + 1)) (met9 ++ [x22'])
 else none)))
 else L23_1 n m1 size0 pieces1 groups2 e8 (wr .i64 (g10 + 1)) met9) := by kernel_rfl
noncomputable def S23 (n : Nat × Nat) (size0 : Int) (pieces1 : List Int) (groups2 : List (List Int)) : Option R23 := run (E23 n) c23 an23 rt23 (fun _ _ => none) rt23 { tm := [.c (.int .i64 size0), .c (.sl (.int .i64) pieces1 false), .c (.sl (.sl (.int .i64)) groups2 false), uu, uu, uu, uu, uu, uu, uu, uu, uu, uu, uu, uu, uu, uu, uu, uu, uu, uu, uu, uu, uu, uu, uu, uu, uu, uu, uu, uu, uu, uu, uu, uu, uu, uu, uu, uu, uu, uu, uu, uu, uu, uu, uu, uu, uu, uu, uu, uu, uu, uu, uu, uu, uu, uu, uu, uu, uu, uu, uu, uu, uu, uu, uu, uu, uu, uu, uu, uu, uu, uu, uu, uu, uu, uu, uu, uu, uu, uu, uu, uu, uu, uu, uu, uu, uu, uu, uu, uu, uu, uu, uu, uu, uu, uu, uu, uu], hp := emp }
theorem S23_eq (n : Nat × Nat) (size0 : Int) (pieces1 : List Int) (groups2 : List (List Int)) : S23 n size0 pieces1 groups2 =
 (S27 n size0 pieces1).bind fun r1' =>
    L23_1 n n.1 size0 pieces1 groups2 r1' 0 [] := by kernel_rfl
theorem S23_run (n : Nat × Nat) (xs : pksDen pk23) : S23 n xs.1 xs.2.1 xs.2.2.1 = runG (E23 n) noScope c23 an23 (rtG rk23) (fun _ _ => none) (rtG rk23) (st0 pk23 xs Tryd.f23.ntmps) := by kernel_rfl
noncomputable def P23 (n : Nat × Nat) := phiOf pk23 rk23 (fun xs => S23 n xs.1 xs.2.1 xs.2.2.1)
theorem call23 : CallOK Tryd.prog 23 := callOK_of Tryd.func23 (by kernel_rfl) (by kernel_rfl)
theorem env23 (n : Nat × Nat) : EnvOK Tryd.prog (E23 n) := envOK0 (consPhi_ok (FC27 n) call27 (consPhi_ok (FC29 n) call29 (consPhi_ok (FC72 n) call72 (consPhi_ok (FC73 n) call73 (consPhi_ok (FC74 n) call74 noPhi_ok))))) rfl rfl
theorem par23 (n : Nat × Nat) : EnvPar (E23 n) := envPar0 (consPhi_par phiOf_Par1 (consPhi_par phiOf_Par1 (consPhi_par phiOf_Par1 (consPhi_par phiOf_Par1 (consPhi_par phiOf_Par1 noPhi_par))))) rfl
theorem FC23 (n : Nat × Nat) : FCs Tryd.prog 23 (P23 n) := phiOf_FCs fun xs r h vs hv => FC.of_runG tabOK eqsOK (env23 n) (par23 n) mixed (fun _ p _ => noScope_ok p.1 p.2) Tryd.func23 (c := c23) (an := an23) (pks := pk23) (rks := rk23) (by kernel_rfl) (by kernel_rfl) hv ((S23_run n xs).symm.trans h)
abbrev R3 := Bool
noncomputable def c3 : Code := bodyOf Tryd.f3
noncomputable def an3 : Ann := (.s .l (.s (.s .l (.j [0, 1, 2, 3, 80, 81, 82, 85, 86, 87, 90, 91, 92, 95, 96, 97, 100, 101, 102, 105, 106, 107, 108, 109, 110, 111, 114, 115, 116, 117, 118, 119, 120, 121, 122, 125] .l .l)) .l))
def pk3 : List PK := [.c (.int .i64), .c (.sl (.int .i64)), .c (.sl (.int .i64)), .c (.sl (.sl (.int .i64)))]
def rk3 : List RK := [.c .bool 8]
noncomputable def rt3 (st : St) : Option R3 := rtG rk3 st
noncomputable def E3 (n : Nat × Nat) : Env := { T := tab, phi := (consPhi 16 (fun _ => true) (P16 n) (consPhi 17 (fun _ => true) (P17 n) (consPhi 18 (fun _ => true) (P18 n) (consPhi 19 (fun _ => true) (P19 n) (consPhi 20 (fun _ => true) (P20 n) (consPhi 21 (fun _ => true) (P21 n) (consPhi 22 (fun _ => true) (P22 n) (consPhi 23 (fun _ => true) (P23 n) (consPhi 24 (fun _ => true) (P24 n) (consPhi 25 (fun _ => true) (P25 n) (consPhi 26 (fun _ => true) (P26 n) (consPhi 27 (fun _ => true) (P27 n) (consPhi 28 (fun _ => true) (P28 n) (consPhi 29 (fun _ => true) (P29 n) noPhi)))))))))))))), eff := fun g => Nat.beq g 20 || Nat.beq g 21, fuel := n.1, hold := n.2 }
noncomputable def S3 (n : Nat × Nat) (size0 : Int) (pieces1 : List Int) (plan2 : List Int) (groups3 : List (List Int)) : Option R3 := run (E3 n) c3 an3 rt3 (fun _ _ => none) rt3 { tm := [.c (.int .i64 size0), .c (.sl (.int .i64) pieces1 false), .c (.sl (.int .i64) plan2 false), .c (.sl (.sl (.int .i64)) groups3 false), uu, uu, uu, uu, uu, uu, uu, uu, uu, uu, uu, uu, uu, uu, uu, uu, uu, uu, uu, uu, uu, uu, uu, uu, uu, uu, uu, uu, uu, uu, uu, uu, uu, uu, uu, uu, uu, uu, uu, uu, uu, uu, uu, uu, uu, uu, uu, uu, uu, uu, uu, uu, uu, uu, uu, uu, uu, uu, uu, uu, uu, uu, uu, uu, uu, uu, uu, uu, uu, uu, uu, uu, uu, uu, uu, uu, uu, uu, uu, uu, uu, uu, uu, uu, uu, uu, uu, uu, uu, uu, uu, uu, uu, uu, uu, uu, uu, uu, uu, uu, uu, uu, uu, uu, uu, uu, uu, uu, uu, uu, uu, uu, uu, uu, uu, uu, uu, uu, uu, uu, uu, uu, uu], hp := emp }
theorem S3_eq (n : Nat × Nat) (size0 : Int) (pieces1 : List Int) (plan2 : List Int) (groups3 : List (List Int)) : S3 n size0 pieces1 plan2 groups3 =
 ((bif (decide ((pieces1.length : Int) > 40) == false) then some (decide ((plan2.length : Int) > 40))
 else some true)).bind fun b1' =>
 ((bif (b1' == false) then (S16 n groups3).bind fun r2' =>
 some r2'
 else some true)).bind fun b3' =>
 (bif b3' then (S17 n).bind fun r4' =>
 some r4'
 else (S18 n size0 pieces1 plan2).bind fun r5' =>
 (S19 n size0 pieces1 plan2).bind fun r6' =>
 (S20 n size0 pieces1 plan2).bind fun r7' =>
 (S21 n size0 pieces1 plan2).bind fun r8' =>
 (S22 n size0 pieces1 groups3).bind fun r9' =>
 (S23 n size0 pieces1 groups3).bind fun r10' =>
 (S24 n r5'.1 r6'.1).bind fun r11' =>
 ((bif (r11' == true) then some (r5'.2 == r6'.2)
 else some false)).bind fun b12' =>
 ((bif (b12' == true) then (S25 n r7'.1 r8'.1).bind fun r13' =>
 some r13'
 else some false)).bind fun b14' =>
 ((bif (b14' == true) then some (r7'.2 == r8'.2)
 else some false)).bind fun b15' =>
 ((bif (b15' == true) then (S24 n r9'.1 r10'.1).bind fun r16' =>
 some r16'
 else some false)).bind fun b17' =>
 ((bif (b17' == true) then some (r9'.2 == r10'.2)
 else some false)).bind fun b18' =>
 ((bif (b18' == true) then (S26 n size0 pieces1).bind fun r19' =>
 (S27 n size0 pieces1).bind fun r20' =>
 some (r19' == r20')
 else some false)).bind fun b21' =>
 ((bif (b21' == true) then (S28 n size0 pieces1 plan2).bind fun r22' =>
 (S29 n size0 pieces1 plan2).bind fun r23' =>
 some (r22' == r23')
 else some false)).bind fun b24' =>
 ((bif (b24' == true) then (S17 n).bind fun r25' =>
 some r25'
 else some false)).bind fun b26' =>
 some b26') := by kernel_rfl
theorem S3_run (n : Nat × Nat) (xs : pksDen pk3) : S3 n xs.1 xs.2.1 xs.2.2.1 xs.2.2.2.1 = runG (E3 n) noScope c3 an3 (rtG rk3) (fun _ _ => none) (rtG rk3) (st0 pk3 xs Tryd.f3.ntmps) := by kernel_rfl
noncomputable def P3 (n : Nat × Nat) := phiOf pk3 rk3 (fun xs => S3 n xs.1 xs.2.1 xs.2.2.1 xs.2.2.2.1)
theorem env3 (n : Nat × Nat) : EnvOK Tryd.prog (E3 n) := envOK0 (consPhi_ok (FC16 n) call16 (consPhi_ok (FC17 n) call17 (consPhi_ok (FC18 n) call18 (consPhi_ok (FC19 n) call19 (consPhi_ok (FC20 n) call20 (consPhi_ok (FC21 n) call21 (consPhi_ok (FC22 n) call22 (consPhi_ok (FC23 n) call23 (consPhi_ok (FC24 n) call24 (consPhi_ok (FC25 n) call25 (consPhi_ok (FC26 n) call26 (consPhi_ok (FC27 n) call27 (consPhi_ok (FC28 n) call28 (consPhi_ok (FC29 n) call29 noPhi_ok)))))))))))))) rfl rfl
theorem par3 (n : Nat × Nat) : EnvPar (E3 n) := envPar0 (consPhi_par phiOf_Par1 (consPhi_par phiOf_Par1 (consPhi_par phiOf_Par1 (consPhi_par phiOf_Par1 (consPhi_par phiOf_Par1 (consPhi_par phiOf_Par1 (consPhi_par phiOf_Par1 (consPhi_par phiOf_Par1 (consPhi_par phiOf_Par1 (consPhi_par phiOf_Par1 (consPhi_par phiOf_Par1 (consPhi_par phiOf_Par1 (consPhi_par phiOf_Par1 (consPhi_par phiOf_Par1 noPhi_par)))))))))))))) rfl
theorem FC3 (n : Nat × Nat) : FCs Tryd.prog 3 (P3 n) := phiOf_FCs fun xs r h vs hv => FC.of_runG tabOK eqsOK (env3 n) (par3 n) mixed (fun _ p _ => noScope_ok p.1 p.2) Tryd.func3 (c := c3) (an := an3) (pks := pk3) (rks := rk3) (by kernel_rfl) (by kernel_rfl) hv ((S3_run n xs).symm.trans h)
/-D 16 -/
noncomputable def DF16_1 (n : Nat × Nat) (f1 : List (List Int) → Int → Option R16) (l0 : List (List Int)) (i3 : Int) : Option R16 :=
 (bif decide (i3 < (l0.length : Int)) then (idx l0 i3).bind fun x1' =>
 (bif decide ((x1'.length : Int) > 40) then some true
 else f1 l0 (wr .i64 (i3 + 1)))
 else some false)
noncomputable def DL16_1 (n : Nat × Nat) (m : Nat) : List (List Int) → Int → Option R16 := Nat.rec (motive := fun _ => List (List Int) → Int → Option R16) (fun _ _ => none) (fun _ ih => DF16_1 n ih) m
theorem DL16_1_succ (n : Nat × Nat) (m : Nat) : DL16_1 n (m + 1) = DF16_1 n (DL16_1 n m) := rfl
theorem DL16_1_eq (n : Nat × Nat) (hn : n.2 = 1) : ∀ m, L16_1 n m = DL16_1 n m
  | 0 => by funext l0 i3; kernel_rfl
  | m + 1 => by
    have ih := DL16_1_eq n hn m
    funext l0 i3; refine (L16_1_eq n m l0 i3).trans ?_
    rw [DL16_1_succ]
    unfold DF16_1
    (try simp only [ih]) <;> first | with_reducible rfl | rfl
noncomputable def D16 (n : Nat × Nat) (l0 : List (List Int)) : Option R16 :=
 (bif decide ((l0.length : Int) > 40) then some true
 else DL16_1 n n.1 l0 0)
theorem S16_D (n : Nat × Nat) (hn : n.2 = 1) : S16 n = D16 n := by
  funext l0; refine (S16_eq n l0).trans ?_
  unfold D16
  (try simp only [DL16_1_eq n hn]) <;> first | with_reducible rfl | rfl
/-D 72 -/
noncomputable def D72 (n : Nat × Nat) (v0 : Int) (lo1 : Int) (hi2 : Int) : Option R72 :=
 ((bif (decide (v0 ≥ lo1) == true) then some (decide (v0 ≤ hi2))
 else some false)).bind fun b1' =>
 some b1'
theorem S72_D (n : Nat × Nat) (hn : n.2 = 1) : S72 n = D72 n := by
  funext v0 lo1 hi2; refine (S72_eq n v0 lo1 hi2).trans ?_
  unfold D72
  first | with_reducible rfl | rfl
/-D 27 -/
noncomputable def DF27_1 (n : Nat × Nat) (f1 : Int → List Int → Int → Option R27) (size0 : Int) (pieces1 : List Int) (i5 : Int) : Option R27 :=
 (bif decide (i5 < (pieces1.length : Int)) then (idx pieces1 i5).bind fun x2' =>
 (D72 n x2' 1 size0).bind fun r3' =>
 (bif (!r3') then some 1
 else f1 size0 pieces1 (wr .i64 (i5 + 1)))
 else some 0)
noncomputable def DL27_1 (n : Nat × Nat) (m : Nat) : Int → List Int → Int → Option R27 := Nat.rec (motive := fun _ => Int → List Int → Int → Option R27) (fun _ _ _ => none) (fun _ ih => DF27_1 n ih) m
theorem DL27_1_succ (n : Nat × Nat) (m : Nat) : DL27_1 n (m + 1) = DF27_1 n (DL27_1 n m) := rfl
theorem DL27_1_eq (n : Nat × Nat) (hn : n.2 = 1) : ∀ m, L27_1 n m = DL27_1 n m
  | 0 => by funext size0 pieces1 i5; kernel_rfl
  | m + 1 => by
    have ih := DL27_1_eq n hn m
    funext size0 pieces1 i5; refine (L27_1_eq n m size0 pieces1 i5).trans ?_
    rw [DL27_1_succ]
    unfold DF27_1
    (try simp only [ih, S72_D n hn]) <;> first | with_reducible rfl | rfl
noncomputable def D27 (n : Nat × Nat) (size0 : Int) (pieces1 : List Int) : Option R27 :=
 (D72 n size0 1 24).bind fun r1' =>
 (bif (!r1') then some 1
 else (bif decide ((pieces1.length : Int) > 8) then some 3
 else DL27_1 n n.1 size0 pieces1 0))
theorem S27_D (n : Nat × Nat) (hn : n.2 = 1) : S27 n = D27 n := by
  funext size0 pieces1; refine (S27_eq n size0 pieces1).trans ?_
  unfold D27
  (try simp only [DL27_1_eq n hn, S72_D n hn]) <;> first | with_reducible rfl | rfl
/-D 67 -/
noncomputable def DF67_1 (n : Nat × Nat) (f1 : List Int → Int → Int → Option R67) (plan0 : List Int) (v3 : Int) (i4 : Int) : Option R67 :=
 (bif decide (i4 < (plan0.length : Int)) then (idx plan0 i4).bind fun x1' =>
      f1 plan0 (if (wr .i64 (x1' + 1)) > v3 then (wr .i64 (x1' + 1)) else v3) (wr .i64 (i4 + 1))
 else some v3)
noncomputable def DL67_1 (n : Nat × Nat) (m : Nat) : List Int → Int → Int → Option R67 := Nat.rec (motive := fun _ => List Int → Int → Int → Option R67) (fun _ _ _ => none) (fun _ ih => DF67_1 n ih) m
theorem DL67_1_succ (n : Nat × Nat) (m : Nat) : DL67_1 n (m + 1) = DF67_1 n (DL67_1 n m) := rfl
theorem DL67_1_eq (n : Nat × Nat) (hn : n.2 = 1) : ∀ m, L67_1 n m = DL67_1 n m
  | 0 => by funext plan0 v3 i4; kernel_rfl
  | m + 1 => by
    have ih := DL67_1_eq n hn m
    funext plan0 v3 i4; refine (L67_1_eq n m plan0 v3 i4).trans ?_
    rw [DL67_1_succ]
    unfold DF67_1
    (try simp only [ih]) <;> first | with_reducible rfl | rfl
noncomputable def D67 (n : Nat × Nat) (plan0 : List Int) : Option R67 :=
    DL67_1 n n.1 plan0 0 0
theorem S67_D (n : Nat × Nat) (hn : n.2 = 1) : S67 n = D67 n := by
  funext plan0; refine (S67_eq n plan0).trans ?_
  unfold D67
  (try simp only [DL67_1_eq n hn]) <;> first | with_reducible rfl | rfl
/-D 68 -/
noncomputable def DL68_2 (n : Nat × Nat) (f1 : List Int → List Int → Int → Int → Int → Option R68) (pieces0 : List Int) (plan1 : List Int) (sheet2 : Int) (v7 : Int) (i8 : Int) : Option R68 :=
    f1 pieces0 plan1 sheet2 v7 (wr .i64 (i8 + 1))
theorem DL68_2_eq (n : Nat × Nat) (hn : n.2 = 1) (m1 : Nat) : L68_2 n m1 = DL68_2 n (L68_1 n m1) := by
  funext pieces0 plan1 sheet2 v7 i8; refine ((held_eq hn _).trans (L68_2_raw n m1 pieces0 plan1 sheet2 v7 i8)).trans ?_
  unfold DL68_2
  first | with_reducible rfl | rfl
noncomputable def DF68_1 (n : Nat × Nat) (f1 : List Int → List Int → Int → Int → Int → Option R68) (pieces0 : List Int) (plan1 : List Int) (sheet2 : Int) (v7 : Int) (i8 : Int) : Option R68 :=
 (bif decide (i8 < (plan1.length : Int)) then (idx plan1 i8).bind fun x1' =>
 (bif (x1' == sheet2) then (idx pieces0 i8).bind fun x2' =>
        DL68_2 n f1 pieces0 plan1 sheet2 (wr .i64 (v7 + x2')) i8
 else DL68_2 n f1 pieces0 plan1 sheet2 v7 i8)
 else some v7)
noncomputable def DL68_1 (n : Nat × Nat) (m : Nat) : List Int → List Int → Int → Int → Int → Option R68 := Nat.rec (motive := fun _ => List Int → List Int → Int → Int → Int → Option R68) (fun _ _ _ _ _ => none) (fun _ ih => DF68_1 n ih) m
theorem DL68_1_succ (n : Nat × Nat) (m : Nat) : DL68_1 n (m + 1) = DF68_1 n (DL68_1 n m) := rfl
theorem DL68_1_eq (n : Nat × Nat) (hn : n.2 = 1) : ∀ m, L68_1 n m = DL68_1 n m
  | 0 => by funext pieces0 plan1 sheet2 v7 i8; kernel_rfl
  | m + 1 => by
    have ih := DL68_1_eq n hn m
    funext pieces0 plan1 sheet2 v7 i8; refine (L68_1_eq n m pieces0 plan1 sheet2 v7 i8).trans ?_
    rw [DL68_1_succ]
    unfold DF68_1
    (try simp only [ih, DL68_2_eq n hn]) <;> first | with_reducible rfl | rfl
noncomputable def D68 (n : Nat × Nat) (pieces0 : List Int) (plan1 : List Int) (sheet2 : Int) : Option R68 :=
    DL68_1 n n.1 pieces0 plan1 sheet2 0 0
theorem S68_D (n : Nat × Nat) (hn : n.2 = 1) : S68 n = D68 n := by
  funext pieces0 plan1 sheet2; refine (S68_eq n pieces0 plan1 sheet2).trans ?_
  unfold D68
  (try simp only [DL68_2_eq n hn, DL68_1_eq n hn]) <;> first | with_reducible rfl | rfl
/-D 29 -/
noncomputable def DL29_2 (n : Nat × Nat) (f1 : Int → List Int → List Int → Int → Int → Option R29) (size0 : Int) (pieces1 : List Int) (plan2 : List Int) (e7 : Int) (i8 : Int) : Option R29 :=
    f1 size0 pieces1 plan2 e7 (wr .i64 (i8 + 1))
theorem DL29_2_eq (n : Nat × Nat) (hn : n.2 = 1) (m1 : Nat) : L29_2 n m1 = DL29_2 n (L29_1 n m1) := by
  funext size0 pieces1 plan2 e7 i8; refine ((held_eq hn _).trans (L29_2_raw n m1 size0 pieces1 plan2 e7 i8)).trans ?_
  unfold DL29_2
  (try simp only [S27_D n hn, S67_D n hn, S68_D n hn]) <;> first | with_reducible rfl | rfl
noncomputable def DL29_4 (n : Nat × Nat) (f1 : Int → List Int → List Int → Int → Int → Option R29) (size0 : Int) (pieces1 : List Int) (plan2 : List Int) (e7 : Int) (i9 : Int) : Option R29 :=
    f1 size0 pieces1 plan2 e7 (wr .i64 (i9 + 1))
theorem DL29_4_eq (n : Nat × Nat) (hn : n.2 = 1) (m1 : Nat) : L29_4 n m1 = DL29_4 n (L29_3 n m1) := by
  funext size0 pieces1 plan2 e7 i9; refine ((held_eq hn _).trans (L29_4_raw n m1 size0 pieces1 plan2 e7 i9)).trans ?_
  unfold DL29_4
  (try simp only [DL29_2_eq n hn, S27_D n hn, S67_D n hn, S68_D n hn]) <;> first | with_reducible rfl | rfl
noncomputable def DF29_3 (n : Nat × Nat) (f1 : Int → List Int → List Int → Int → Int → Option R29) (size0 : Int) (pieces1 : List Int) (plan2 : List Int) (e7 : Int) (i9 : Int) : Option R29 :=
 ((bif (decide (i9 < (plan2.length : Int)) == true) then some (e7 == 0)
 else some false)).bind fun b7' =>
 (bif b7' then (idx plan2 i9).bind fun x8' =>
 (D68 n pieces1 plan2 x8').bind fun r9' =>
 (bif decide (r9' > size0) then DL29_4 n f1 size0 pieces1 plan2 15 i9
 else DL29_4 n f1 size0 pieces1 plan2 e7 i9)
 else some e7)
noncomputable def DL29_3 (n : Nat × Nat) (m : Nat) : Int → List Int → List Int → Int → Int → Option R29 := Nat.rec (motive := fun _ => Int → List Int → List Int → Int → Int → Option R29) (fun _ _ _ _ _ => none) (fun _ ih => DF29_3 n ih) m
theorem DL29_3_succ (n : Nat × Nat) (m : Nat) : DL29_3 n (m + 1) = DF29_3 n (DL29_3 n m) := rfl
theorem DL29_3_eq (n : Nat × Nat) (hn : n.2 = 1) : ∀ m, L29_3 n m = DL29_3 n m
  | 0 => by funext size0 pieces1 plan2 e7 i9; kernel_rfl
  | m + 1 => by
    have ih := DL29_3_eq n hn m
    funext size0 pieces1 plan2 e7 i9; refine (L29_3_eq n m size0 pieces1 plan2 e7 i9).trans ?_
    rw [DL29_3_succ]
    unfold DF29_3
    (try simp only [ih, DL29_2_eq n hn, DL29_4_eq n hn, S27_D n hn, S67_D n hn, S68_D n hn]) <;> first | with_reducible rfl | rfl
noncomputable def DF29_1 (n : Nat × Nat) (f1 : Int → List Int → List Int → Int → Int → Option R29) (size0 : Int) (pieces1 : List Int) (plan2 : List Int) (e7 : Int) (i8 : Int) : Option R29 :=
 ((bif (decide (i8 < (plan2.length : Int)) == true) then some (e7 == 0)
 else some false)).bind fun b3' =>
 (bif b3' then (idx plan2 i8).bind fun x4' =>
 (bif decide (x4' < 0) then DL29_2 n f1 size0 pieces1 plan2 2 i8
 else (idx plan2 i8).bind fun x5' =>
 (bif bounds none (some i8) none plan2.length then (D67 n (plan2.take (Int.toNat i8))).bind fun r6' =>
 (bif decide (x5' > r6') then DL29_2 n f1 size0 pieces1 plan2 7 i8
 else DL29_2 n f1 size0 pieces1 plan2 e7 i8)
 else none))
 else DL29_3 n n.1 size0 pieces1 plan2 e7 0)
noncomputable def DL29_1 (n : Nat × Nat) (m : Nat) : Int → List Int → List Int → Int → Int → Option R29 := Nat.rec (motive := fun _ => Int → List Int → List Int → Int → Int → Option R29) (fun _ _ _ _ _ => none) (fun _ ih => DF29_1 n ih) m
theorem DL29_1_succ (n : Nat × Nat) (m : Nat) : DL29_1 n (m + 1) = DF29_1 n (DL29_1 n m) := rfl
theorem DL29_1_eq (n : Nat × Nat) (hn : n.2 = 1) : ∀ m, L29_1 n m = DL29_1 n m
  | 0 => by funext size0 pieces1 plan2 e7 i8; kernel_rfl
  | m + 1 => by
    have ih := DL29_1_eq n hn m
    funext size0 pieces1 plan2 e7 i8; refine (L29_1_eq n m size0 pieces1 plan2 e7 i8).trans ?_
    rw [DL29_1_succ]
    unfold DF29_1
    (try simp only [ih, DL29_2_eq n hn, DL29_4_eq n hn, DL29_3_eq n hn, S27_D n hn, S67_D n hn, S68_D n hn]) <;> first | with_reducible rfl | rfl
noncomputable def D29 (n : Nat × Nat) (size0 : Int) (pieces1 : List Int) (plan2 : List Int) : Option R29 :=
 (D27 n size0 pieces1).bind fun r1' =>
 ((bif ((r1' == 0) == true) then some ((plan2.length : Int) != (pieces1.length : Int))
 else some false)).bind fun b2' =>
 (bif b2' then DL29_1 n n.1 size0 pieces1 plan2 5 0
 else DL29_1 n n.1 size0 pieces1 plan2 r1' 0)
theorem S29_D (n : Nat × Nat) (hn : n.2 = 1) : S29 n = D29 n := by
  funext size0 pieces1 plan2; refine (S29_eq n size0 pieces1 plan2).trans ?_
  unfold D29
  (try simp only [DL29_2_eq n hn, DL29_4_eq n hn, DL29_3_eq n hn, DL29_1_eq n hn, S27_D n hn, S67_D n hn, S68_D n hn]) <;> first | with_reducible rfl | rfl
/-D 19 -/
noncomputable def DF19_1 (n : Nat × Nat) (f1 : Int → List Int → List Int → Int → List Int → Option R19) (size0 : Int) (pieces1 : List Int) (plan2 : List Int) (s10 : Int) (out9 : List Int) : Option R19 :=
 (D67 n plan2).bind fun r2' =>
 (bif decide (s10 < r2') then (D68 n pieces1 plan2 s10).bind fun r3' =>
 (bif decide (out9.length + [wr .i64 (size0 - r3')].length ≤ lim) then f1 size0 pieces1 plan2 (wr .i64 (s10 + 1)) (out9 ++ [wr .i64 (size0 - r3')])
 else none)
 else some (out9, 0))
noncomputable def DL19_1 (n : Nat × Nat) (m : Nat) : Int → List Int → List Int → Int → List Int → Option R19 := Nat.rec (motive := fun _ => Int → List Int → List Int → Int → List Int → Option R19) (fun _ _ _ _ _ => none) (fun _ ih => DF19_1 n ih) m
theorem DL19_1_succ (n : Nat × Nat) (m : Nat) : DL19_1 n (m + 1) = DF19_1 n (DL19_1 n m) := rfl
theorem DL19_1_eq (n : Nat × Nat) (hn : n.2 = 1) : ∀ m, L19_1 n m = DL19_1 n m
  | 0 => by funext size0 pieces1 plan2 s10 out9; kernel_rfl
  | m + 1 => by
    have ih := DL19_1_eq n hn m
    funext size0 pieces1 plan2 s10 out9; refine (L19_1_eq n m size0 pieces1 plan2 s10 out9).trans ?_
    rw [DL19_1_succ]
    unfold DF19_1
    (try simp only [ih, S29_D n hn, S67_D n hn, S68_D n hn]) <;> first | with_reducible rfl | rfl
noncomputable def D19 (n : Nat × Nat) (size0 : Int) (pieces1 : List Int) (plan2 : List Int) : Option R19 :=
 (D29 n size0 pieces1 plan2).bind fun r1' =>
 (bif (r1' != 0) then some ([], r1')
 else DL19_1 n n.1 size0 pieces1 plan2 0 [])
theorem S19_D (n : Nat × Nat) (hn : n.2 = 1) : S19 n = D19 n := by
  funext size0 pieces1 plan2; refine (S19_eq n size0 pieces1 plan2).trans ?_
  unfold D19
  (try simp only [DL19_1_eq n hn, S29_D n hn, S67_D n hn, S68_D n hn]) <;> first | with_reducible rfl | rfl
/-D 21 -/
noncomputable def DL21_3 (n : Nat × Nat) (f1 : List Int → Int → List (List Int) → Option R21) (f2 : List Int → Int → Int → List (List Int) → List Int → Option R21) (plan2 : List Int) (s10 : Int) (i12 : Int) (out9 : List (List Int)) (l11 : List Int) : Option R21 :=
    f2 plan2 s10 (wr .i64 (i12 + 1)) out9 l11
theorem DL21_3_eq (n : Nat × Nat) (hn : n.2 = 1) (m1 m2 : Nat) : L21_3 n m1 m2 = DL21_3 n (L21_1 n m1) (L21_2 n m1 m2) := by
  funext plan2 s10 i12 out9 l11; refine ((held_eq hn _).trans (L21_3_raw n m1 m2 plan2 s10 i12 out9 l11)).trans ?_
  unfold DL21_3
  (try simp only [S29_D n hn, S67_D n hn]) <;> first | with_reducible rfl | rfl
noncomputable def DF21_2 (n : Nat × Nat) (f1 : List Int → Int → List (List Int) → Option R21) (f2 : List Int → Int → Int → List (List Int) → List Int → Option R21) (plan2 : List Int) (s10 : Int) (i12 : Int) (out9 : List (List Int)) (l11 : List Int) : Option R21 :=
 (bif decide (i12 < (plan2.length : Int)) then (idx plan2 i12).bind fun x3' =>
 (bif (x3' == s10) then (bif decide (l11.length + [i12].length ≤ lim) then DL21_3 n f1 f2 plan2 s10 i12 out9 (l11 ++ [i12])
 else none)
 else DL21_3 n f1 f2 plan2 s10 i12 out9 l11)
 else (bif decide (out9.length + [l11].length ≤ lim) then f1 plan2 (wr .i64 (s10 + 1)) (out9 ++ [l11])
 else none))
noncomputable def DL21_2 (n : Nat × Nat) (f1 : List Int → Int → List (List Int) → Option R21) (m : Nat) : List Int → Int → Int → List (List Int) → List Int → Option R21 := Nat.rec (motive := fun _ => List Int → Int → Int → List (List Int) → List Int → Option R21) (fun _ _ _ _ _ => none) (fun _ ih => DF21_2 n f1 ih) m
theorem DL21_2_succ (n : Nat × Nat) (f1 : List Int → Int → List (List Int) → Option R21) (m : Nat) : DL21_2 n f1 (m + 1) = DF21_2 n f1 (DL21_2 n f1 m) := rfl
theorem DL21_2_eq (n : Nat × Nat) (hn : n.2 = 1) (m1 : Nat) : ∀ m, L21_2 n m1 m = DL21_2 n (L21_1 n m1) m
  | 0 => by funext plan2 s10 i12 out9 l11; kernel_rfl
  | m + 1 => by
    have ih := DL21_2_eq n hn m1 m
    funext plan2 s10 i12 out9 l11; refine (L21_2_eq n m1 m plan2 s10 i12 out9 l11).trans ?_
    rw [DL21_2_succ]
    unfold DF21_2
    (try simp only [ih, DL21_3_eq n hn, S29_D n hn, S67_D n hn]) <;> first | with_reducible rfl | rfl
noncomputable def DF21_1 (n : Nat × Nat) (f1 : List Int → Int → List (List Int) → Option R21) (plan2 : List Int) (s10 : Int) (out9 : List (List Int)) : Option R21 :=
 (D67 n plan2).bind fun r2' =>
 (bif decide (s10 < r2') then DL21_2 n f1 n.1 plan2 s10 0 out9 []
 else some (out9, 0))
noncomputable def DL21_1 (n : Nat × Nat) (m : Nat) : List Int → Int → List (List Int) → Option R21 := Nat.rec (motive := fun _ => List Int → Int → List (List Int) → Option R21) (fun _ _ _ => none) (fun _ ih => DF21_1 n ih) m
theorem DL21_1_succ (n : Nat × Nat) (m : Nat) : DL21_1 n (m + 1) = DF21_1 n (DL21_1 n m) := rfl
theorem DL21_1_eq (n : Nat × Nat) (hn : n.2 = 1) : ∀ m, L21_1 n m = DL21_1 n m
  | 0 => by funext plan2 s10 out9; kernel_rfl
  | m + 1 => by
    have ih := DL21_1_eq n hn m
    funext plan2 s10 out9; refine (L21_1_eq n m plan2 s10 out9).trans ?_
    rw [DL21_1_succ]
    unfold DF21_1
    (try simp only [ih, DL21_3_eq n hn, DL21_2_eq n hn, S29_D n hn, S67_D n hn]) <;> first | with_reducible rfl | rfl
noncomputable def D21 (n : Nat × Nat) (size0 : Int) (pieces1 : List Int) (plan2 : List Int) : Option R21 :=
 (D29 n size0 pieces1 plan2).bind fun r1' =>
 (bif (r1' != 0) then some ([], r1')
 else DL21_1 n n.1 plan2 0 [])
theorem S21_D (n : Nat × Nat) (hn : n.2 = 1) : S21 n = D21 n := by
  funext size0 pieces1 plan2; refine (S21_eq n size0 pieces1 plan2).trans ?_
  unfold D21
  (try simp only [DL21_3_eq n hn, DL21_2_eq n hn, DL21_1_eq n hn, S29_D n hn, S67_D n hn]) <;> first | with_reducible rfl | rfl
/-D 73 -/
noncomputable def DF73_1 (n : Nat × Nat) (f1 : List Int → Int → Int → Option R73) (l0 : List Int) (v1 : Int) (i5 : Int) : Option R73 :=
 (bif decide (i5 < (l0.length : Int)) then (idx l0 i5).bind fun x1' =>
 (bif (x1' == v1) then some true
 else f1 l0 v1 (wr .i64 (i5 + 1)))
 else some false)
noncomputable def DL73_1 (n : Nat × Nat) (m : Nat) : List Int → Int → Int → Option R73 := Nat.rec (motive := fun _ => List Int → Int → Int → Option R73) (fun _ _ _ => none) (fun _ ih => DF73_1 n ih) m
theorem DL73_1_succ (n : Nat × Nat) (m : Nat) : DL73_1 n (m + 1) = DF73_1 n (DL73_1 n m) := rfl
theorem DL73_1_eq (n : Nat × Nat) (hn : n.2 = 1) : ∀ m, L73_1 n m = DL73_1 n m
  | 0 => by funext l0 v1 i5; kernel_rfl
  | m + 1 => by
    have ih := DL73_1_eq n hn m
    funext l0 v1 i5; refine (L73_1_eq n m l0 v1 i5).trans ?_
    rw [DL73_1_succ]
    unfold DF73_1
    (try simp only [ih]) <;> first | with_reducible rfl | rfl
noncomputable def D73 (n : Nat × Nat) (l0 : List Int) (v1 : Int) : Option R73 :=
    DL73_1 n n.1 l0 v1 0
theorem S73_D (n : Nat × Nat) (hn : n.2 = 1) : S73 n = D73 n := by
  funext l0 v1; refine (S73_eq n l0 v1).trans ?_
  unfold D73
  (try simp only [DL73_1_eq n hn]) <;> first | with_reducible rfl | rfl
/-D 74 -/
noncomputable def DL74_4 (n : Nat × Nat) (f1 : List Int → List (List Int) → Int → List Int → Option R74) (f2 : List Int → List (List Int) → Int → Int → Int → List Int → Option R74) (f3 : List Int → List (List Int) → Int → Int → Int → Int → List Int → Option R74) (pieces0 : List Int) (groups1 : List (List Int)) (i6 : Int) (sheet7 : Int) (k8 : Int) (g9 : Int) (out5 : List Int) : Option R74 :=
    f3 pieces0 groups1 i6 sheet7 k8 (wr .i64 (g9 + 1)) out5
theorem DL74_4_eq (n : Nat × Nat) (hn : n.2 = 1) (m1 m2 m3 : Nat) : L74_4 n m1 m2 m3 = DL74_4 n (L74_1 n m1) (L74_2 n m1 m2) (L74_3 n m1 m2 m3) := by
  funext pieces0 groups1 i6 sheet7 k8 g9 out5; refine ((held_eq hn _).trans (L74_4_raw n m1 m2 m3 pieces0 groups1 i6 sheet7 k8 g9 out5)).trans ?_
  unfold DL74_4
  (try simp only [S67_D n hn, S73_D n hn]) <;> first | with_reducible rfl | rfl
noncomputable def DF74_3 (n : Nat × Nat) (f1 : List Int → List (List Int) → Int → List Int → Option R74) (f2 : List Int → List (List Int) → Int → Int → Int → List Int → Option R74) (f3 : List Int → List (List Int) → Int → Int → Int → Int → List Int → Option R74) (pieces0 : List Int) (groups1 : List (List Int)) (i6 : Int) (sheet7 : Int) (k8 : Int) (g9 : Int) (out5 : List Int) : Option R74 :=
 (bif decide (g9 < (groups1.length : Int)) then (idx groups1 g9).bind fun x2' =>
 (D73 n x2' i6).bind fun r3' =>
 ((bif (r3' == true) then (idx groups1 g9).bind fun x4' =>
 (D73 n x4' k8).bind fun r5' =>
 some r5'
 else some false)).bind fun b6' =>
 (bif b6' then (bif inB k8 out5.length then (idx out5 k8).bind fun x7' =>
          DL74_4 n f1 f2 f3 pieces0 groups1 i6 x7' k8 g9 out5
 else none)
 else DL74_4 n f1 f2 f3 pieces0 groups1 i6 sheet7 k8 g9 out5)
 else f2 pieces0 groups1 i6 sheet7 (wr .i64 (k8 + 1)) out5)
noncomputable def DL74_3 (n : Nat × Nat) (f1 : List Int → List (List Int) → Int → List Int → Option R74) (f2 : List Int → List (List Int) → Int → Int → Int → List Int → Option R74) (m : Nat) : List Int → List (List Int) → Int → Int → Int → Int → List Int → Option R74 := Nat.rec (motive := fun _ => List Int → List (List Int) → Int → Int → Int → Int → List Int → Option R74) (fun _ _ _ _ _ _ _ => none) (fun _ ih => DF74_3 n f1 f2 ih) m
theorem DL74_3_succ (n : Nat × Nat) (f1 : List Int → List (List Int) → Int → List Int → Option R74) (f2 : List Int → List (List Int) → Int → Int → Int → List Int → Option R74) (m : Nat) : DL74_3 n f1 f2 (m + 1) = DF74_3 n f1 f2 (DL74_3 n f1 f2 m) := rfl
theorem DL74_3_eq (n : Nat × Nat) (hn : n.2 = 1) (m1 m2 : Nat) : ∀ m, L74_3 n m1 m2 m = DL74_3 n (L74_1 n m1) (L74_2 n m1 m2) m
  | 0 => by funext pieces0 groups1 i6 sheet7 k8 g9 out5; kernel_rfl
  | m + 1 => by
    have ih := DL74_3_eq n hn m1 m2 m
    funext pieces0 groups1 i6 sheet7 k8 g9 out5; refine (L74_3_eq n m1 m2 m pieces0 groups1 i6 sheet7 k8 g9 out5).trans ?_
    rw [DL74_3_succ]
    unfold DF74_3
    (try simp only [ih, DL74_4_eq n hn, S67_D n hn, S73_D n hn]) <;> first | with_reducible rfl | rfl
noncomputable def DF74_2 (n : Nat × Nat) (f1 : List Int → List (List Int) → Int → List Int → Option R74) (f2 : List Int → List (List Int) → Int → Int → Int → List Int → Option R74) (pieces0 : List Int) (groups1 : List (List Int)) (i6 : Int) (sheet7 : Int) (k8 : Int) (out5 : List Int) : Option R74 :=
 (bif decide (k8 < i6) then DL74_3 n f1 f2 n.1 pieces0 groups1 i6 sheet7 k8 0 out5
 else (bif decide (out5.length + [sheet7].length ≤ lim) then f1 pieces0 groups1 (wr .i64 (i6 + 1)) (out5 ++ [sheet7])
 else none))
noncomputable def DL74_2 (n : Nat × Nat) (f1 : List Int → List (List Int) → Int → List Int → Option R74) (m : Nat) : List Int → List (List Int) → Int → Int → Int → List Int → Option R74 := Nat.rec (motive := fun _ => List Int → List (List Int) → Int → Int → Int → List Int → Option R74) (fun _ _ _ _ _ _ => none) (fun _ ih => DF74_2 n f1 ih) m
theorem DL74_2_succ (n : Nat × Nat) (f1 : List Int → List (List Int) → Int → List Int → Option R74) (m : Nat) : DL74_2 n f1 (m + 1) = DF74_2 n f1 (DL74_2 n f1 m) := rfl
theorem DL74_2_eq (n : Nat × Nat) (hn : n.2 = 1) (m1 : Nat) : ∀ m, L74_2 n m1 m = DL74_2 n (L74_1 n m1) m
  | 0 => by funext pieces0 groups1 i6 sheet7 k8 out5; kernel_rfl
  | m + 1 => by
    have ih := DL74_2_eq n hn m1 m
    funext pieces0 groups1 i6 sheet7 k8 out5; refine (L74_2_eq n m1 m pieces0 groups1 i6 sheet7 k8 out5).trans ?_
    rw [DL74_2_succ]
    unfold DF74_2
    (try simp only [ih, DL74_4_eq n hn, DL74_3_eq n hn, S67_D n hn, S73_D n hn]) <;> first | with_reducible rfl | rfl
noncomputable def DF74_1 (n : Nat × Nat) (f1 : List Int → List (List Int) → Int → List Int → Option R74) (pieces0 : List Int) (groups1 : List (List Int)) (i6 : Int) (out5 : List Int) : Option R74 :=
 (bif decide (i6 < (pieces0.length : Int)) then (D67 n out5).bind fun r1' =>
      DL74_2 n f1 n.1 pieces0 groups1 i6 r1' 0 out5
 else some out5)
noncomputable def DL74_1 (n : Nat × Nat) (m : Nat) : List Int → List (List Int) → Int → List Int → Option R74 := Nat.rec (motive := fun _ => List Int → List (List Int) → Int → List Int → Option R74) (fun _ _ _ _ => none) (fun _ ih => DF74_1 n ih) m
theorem DL74_1_succ (n : Nat × Nat) (m : Nat) : DL74_1 n (m + 1) = DF74_1 n (DL74_1 n m) := rfl
theorem DL74_1_eq (n : Nat × Nat) (hn : n.2 = 1) : ∀ m, L74_1 n m = DL74_1 n m
  | 0 => by funext pieces0 groups1 i6 out5; kernel_rfl
  | m + 1 => by
    have ih := DL74_1_eq n hn m
    funext pieces0 groups1 i6 out5; refine (L74_1_eq n m pieces0 groups1 i6 out5).trans ?_
    rw [DL74_1_succ]
    unfold DF74_1
    (try simp only [ih, DL74_4_eq n hn, DL74_3_eq n hn, DL74_2_eq n hn, S67_D n hn, S73_D n hn]) <;> first | with_reducible rfl | rfl
noncomputable def D74 (n : Nat × Nat) (pieces0 : List Int) (groups1 : List (List Int)) : Option R74 :=
    DL74_1 n n.1 pieces0 groups1 0 []
theorem S74_D (n : Nat × Nat) (hn : n.2 = 1) : S74 n = D74 n := by
  funext pieces0 groups1; refine (S74_eq n pieces0 groups1).trans ?_
  unfold D74
  (try simp only [DL74_4_eq n hn, DL74_3_eq n hn, DL74_2_eq n hn, DL74_1_eq n hn, S67_D n hn, S73_D n hn]) <;> first | with_reducible rfl | rfl
/-D 23 -/
noncomputable def DF23_2 (n : Nat × Nat) (f1 : Int → List Int → List (List Int) → Int → Int → List Int → Option R23) (f2 : Int → List Int → List (List Int) → Int → Int → Int → List Int → Option R23) (size0 : Int) (pieces1 : List Int) (groups2 : List (List Int)) (e8 : Int) (g10 : Int) (k11 : Int) (met9 : List Int) : Option R23 :=
 (idx groups2 g10).bind fun x9' =>
 ((bif (decide (k11 < (x9'.length : Int)) == true) then some (e8 == 0)
 else some false)).bind fun b10' =>
 (bif b10' then (idx groups2 g10).bind fun x11' =>
 (idx x11' k11).bind fun x12' =>
 (D72 n x12' 0 (wr .i64 ((pieces1.length : Int) - 1))).bind fun r13' =>
 (bif (!r13') then (idx groups2 g10).bind fun x14' =>
 (idx x14' k11).bind fun x15' =>
 (bif decide (met9.length + [x15'].length ≤ lim) then f2 size0 pieces1 groups2 2 g10 (wr .i64 (k11 + 1)) (met9 ++ [x15'])
 else none)
 else (idx groups2 g10).bind fun x16' =>
 (idx x16' k11).bind fun x17' =>
 (D73 n met9 x17').bind fun r18' =>
 (bif r18' then (idx groups2 g10).bind fun x19' =>
 (idx x19' k11).bind fun x20' =>
 (bif decide (met9.length + [x20'].length ≤ lim) then f2 size0 pieces1 groups2 6 g10 (wr .i64 (k11 + 1)) (met9 ++ [x20'])
 else none)
 else (idx groups2 g10).bind fun x21' =>
 (idx x21' k11).bind fun x22' =>
 (bif decide (met9.length + [x22'].length ≤ lim) then f2 size0 pieces1 groups2 e8 g10 (wr .i64 (k11 + 1)) (met9 ++ [x22'])
 else none)))
 else f1 size0 pieces1 groups2 e8 (wr .i64 (g10 + 1)) met9)
noncomputable def DL23_2 (n : Nat × Nat) (f1 : Int → List Int → List (List Int) → Int → Int → List Int → Option R23) (m : Nat) : Int → List Int → List (List Int) → Int → Int → Int → List Int → Option R23 := Nat.rec (motive := fun _ => Int → List Int → List (List Int) → Int → Int → Int → List Int → Option R23) (fun _ _ _ _ _ _ _ => none) (fun _ ih => DF23_2 n f1 ih) m
theorem DL23_2_succ (n : Nat × Nat) (f1 : Int → List Int → List (List Int) → Int → Int → List Int → Option R23) (m : Nat) : DL23_2 n f1 (m + 1) = DF23_2 n f1 (DL23_2 n f1 m) := rfl
theorem DL23_2_eq (n : Nat × Nat) (hn : n.2 = 1) (m1 : Nat) : ∀ m, L23_2 n m1 m = DL23_2 n (L23_1 n m1) m
  | 0 => by funext size0 pieces1 groups2 e8 g10 k11 met9; kernel_rfl
  | m + 1 => by
    have ih := DL23_2_eq n hn m1 m
    funext size0 pieces1 groups2 e8 g10 k11 met9; refine (L23_2_eq n m1 m size0 pieces1 groups2 e8 g10 k11 met9).trans ?_
    rw [DL23_2_succ]
    unfold DF23_2
    (try simp only [ih, S27_D n hn, S29_D n hn, S72_D n hn, S73_D n hn, S74_D n hn]) <;> first | with_reducible rfl | rfl
noncomputable def DF23_1 (n : Nat × Nat) (f1 : Int → List Int → List (List Int) → Int → Int → List Int → Option R23) (size0 : Int) (pieces1 : List Int) (groups2 : List (List Int)) (e8 : Int) (g10 : Int) (met9 : List Int) : Option R23 :=
 ((bif (decide (g10 < (groups2.length : Int)) == true) then some (e8 == 0)
 else some false)).bind fun b2' =>
 (bif b2' then (idx groups2 g10).bind fun x3' =>
 (bif ((x3'.length : Int) == 0) then DL23_2 n f1 n.1 size0 pieces1 groups2 5 g10 0 met9
 else DL23_2 n f1 n.1 size0 pieces1 groups2 e8 g10 0 met9)
 else ((bif ((e8 == 0) == true) then some ((met9.length : Int) != (pieces1.length : Int))
 else some false)).bind fun b4' =>
 (bif b4' then (bif (5 != 0) then some ([], 5)
 else (D74 n pieces1 groups2).bind fun r5' =>
 (D29 n size0 pieces1 r5').bind fun r6' =>
 (bif (r6' != 0) then some ([], r6')
 else some (r5', 0)))
 else (bif (e8 != 0) then some ([], e8)
 else (D74 n pieces1 groups2).bind fun r7' =>
 (D29 n size0 pieces1 r7').bind fun r8' =>
 (bif (r8' != 0) then some ([], r8')
 else some (r7', 0)))))
noncomputable def DL23_1 (n : Nat × Nat) (m : Nat) : Int → List Int → List (List Int) → Int → Int → List Int → Option R23 := Nat.rec (motive := fun _ => Int → List Int → List (List Int) → Int → Int → List Int → Option R23) (fun _ _ _ _ _ _ => none) (fun _ ih => DF23_1 n ih) m
theorem DL23_1_succ (n : Nat × Nat) (m : Nat) : DL23_1 n (m + 1) = DF23_1 n (DL23_1 n m) := rfl
theorem DL23_1_eq (n : Nat × Nat) (hn : n.2 = 1) : ∀ m, L23_1 n m = DL23_1 n m
  | 0 => by funext size0 pieces1 groups2 e8 g10 met9; kernel_rfl
  | m + 1 => by
    have ih := DL23_1_eq n hn m
    funext size0 pieces1 groups2 e8 g10 met9; refine (L23_1_eq n m size0 pieces1 groups2 e8 g10 met9).trans ?_
    rw [DL23_1_succ]
    unfold DF23_1
    (try simp only [ih, DL23_2_eq n hn, S27_D n hn, S29_D n hn, S72_D n hn, S73_D n hn, S74_D n hn]) <;> first | with_reducible rfl | rfl
noncomputable def D23 (n : Nat × Nat) (size0 : Int) (pieces1 : List Int) (groups2 : List (List Int)) : Option R23 :=
 (D27 n size0 pieces1).bind fun r1' =>
    DL23_1 n n.1 size0 pieces1 groups2 r1' 0 []
theorem S23_D (n : Nat × Nat) (hn : n.2 = 1) : S23 n = D23 n := by
  funext size0 pieces1 groups2; refine (S23_eq n size0 pieces1 groups2).trans ?_
  unfold D23
  (try simp only [DL23_2_eq n hn, DL23_1_eq n hn, S27_D n hn, S29_D n hn, S72_D n hn, S73_D n hn, S74_D n hn]) <;> first | with_reducible rfl | rfl
/-D 3 -/
noncomputable def D3 (n : Nat × Nat) (size0 : Int) (pieces1 : List Int) (plan2 : List Int) (groups3 : List (List Int)) : Option R3 :=
 ((bif (decide ((pieces1.length : Int) > 40) == false) then some (decide ((plan2.length : Int) > 40))
 else some true)).bind fun b1' =>
 ((bif (b1' == false) then (D16 n groups3).bind fun r2' =>
 some r2'
 else some true)).bind fun b3' =>
 (bif b3' then (D17 n).bind fun r4' =>
 some r4'
 else (D18 n size0 pieces1 plan2).bind fun r5' =>
 (D19 n size0 pieces1 plan2).bind fun r6' =>
 (D20 n size0 pieces1 plan2).bind fun r7' =>
 (D21 n size0 pieces1 plan2).bind fun r8' =>
 (D22 n size0 pieces1 groups3).bind fun r9' =>
 (D23 n size0 pieces1 groups3).bind fun r10' =>
 (D24 n r5'.1 r6'.1).bind fun r11' =>
 ((bif (r11' == true) then some (r5'.2 == r6'.2)
 else some false)).bind fun b12' =>
 ((bif (b12' == true) then (D25 n r7'.1 r8'.1).bind fun r13' =>
 some r13'
 else some false)).bind fun b14' =>
 ((bif (b14' == true) then some (r7'.2 == r8'.2)
 else some false)).bind fun b15' =>
 ((bif (b15' == true) then (D24 n r9'.1 r10'.1).bind fun r16' =>
 some r16'
 else some false)).bind fun b17' =>
 ((bif (b17' == true) then some (r9'.2 == r10'.2)
 else some false)).bind fun b18' =>
 ((bif (b18' == true) then (D26 n size0 pieces1).bind fun r19' =>
 (D27 n size0 pieces1).bind fun r20' =>
 some (r19' == r20')
 else some false)).bind fun b21' =>
 ((bif (b21' == true) then (D28 n size0 pieces1 plan2).bind fun r22' =>
 (D29 n size0 pieces1 plan2).bind fun r23' =>
 some (r22' == r23')
 else some false)).bind fun b24' =>
 ((bif (b24' == true) then (D17 n).bind fun r25' =>
 some r25'
 else some false)).bind fun b26' =>
 some b26')
theorem S3_D (n : Nat × Nat) (hn : n.2 = 1) : S3 n = D3 n := by
  funext size0 pieces1 plan2 groups3; refine (S3_eq n size0 pieces1 plan2 groups3).trans ?_
  unfold D3
  (try simp only [S16_D n hn, S17_D n hn, S18_D n hn, S19_D n hn, S20_D n hn, S21_D n hn, S22_D n hn, S23_D n hn, S24_D n hn, S25_D n hn, S26_D n hn, S27_D n hn, S28_D n hn, S29_D n hn]) <;> first | with_reducible rfl | rfl
/-D 13 -/
end Go.Proofs.YtgmonagekfjnmaaDoor
set_option linter.unusedVariables false
set_option linter.unusedSimpArgs false
namespace Go.Proofs.YtgmonagekfjnmaaDoor
open Go.Vi
abbrev N : Nat × Nat := (1000000, 1)
theorem works_eq : D17 N = some true := by kernel_rfl
theorem hN1 : 1000 ≤ N.1 := by decide
theorem wr_ok {x : Int} (h1 : -9223372036854775808 ≤ x) (h2 : x ≤ 9223372036854775807) : wr .i64 x = x := by
  have : wr .i64 x = (x + 9223372036854775808) % 18446744073709551616 - 9223372036854775808 := by
    simp only [wr, IntKind.wrap, IntKind.signed, IntKind.bits]
    simp
    split <;> omega
  rw [this]
  omega
theorem wr_succ {k : Nat} (h : k < 1000000) : wr .i64 ((k : Int) + 1) = ((k + 1 : Nat) : Int) := by
  rw [wr_ok (by omega) (by omega)]; omega
theorem idx_nat {α : Type} {l : List α} {k : Nat} (h : k < l.length) : idx l (k : Int) = some l[k] := by
  unfold idx
  rw [if_pos (by omega), Int.toNat_natCast, List.getElem?_eq_getElem h]
theorem idx_int {α : Type} {l : List α} {k : Nat} {i : Int} (hi : i = k) (h : k < l.length) : idx l i = some l[k] := by
  subst hi
  exact idx_nat h
theorem drop_cons {α : Type} {l : List α} {k : Nat} (h : k < l.length) : l.drop k = l[k] :: l.drop (k + 1) := List.drop_eq_getElem_cons h
theorem inB_nat {k n : Nat} (h : k < n) : inB (k : Int) n = true := by
  unfold inB
  simp [h]
theorem lim_dec {α : Type} {a : Nat} {x : α} (h : a < 1000000) : decide (a + [x].length ≤ lim) = true := decide_eq_true (by simp [lim]; omega)
theorem dlt_t {a b : Nat} (h : a < b) : decide ((a : Int) < (b : Int)) = true := decide_eq_true (by omega)
theorem dlt_f {a b : Nat} (h : ¬ a < b) : decide ((a : Int) < (b : Int)) = false := decide_eq_false (by omega)
theorem take_snoc {α : Type} {l : List α} {k : Nat} (h : k < l.length) : l.take (k + 1) = l.take k ++ [l[k]] := (List.take_append_getElem h).symm
theorem max_if (a b : Int) : (if b > a then b else a) = max a b := by
  by_cases h : b > a
  · rw [if_pos h, Int.max_eq_right (by omega)]
  · rw [if_neg h, Int.max_eq_left (by omega)]
/-- Two lists are the same. -/
theorem same_loop (n : Nat × Nat) (a b : List Int) (hl : a.length = b.length) (hs : a.length < 1000) : ∀ (m k : Nat), k ≤ a.length → a.length - k < m → DL24_1 n m a b (k : Int) = some (decide (a.drop k = b.drop k))
  | 0, k, _, h => by omega
  | m + 1, k, hk, h => by
    rw [DL24_1_succ]
    unfold DF24_1
    by_cases hlt : k < a.length
    · have ih := same_loop n a b hl hs m (k + 1) (by omega) (by omega)
      rw [dlt_t hlt, cond_true, idx_nat hlt, idx_nat (by omega : k < b.length), wr_succ (by omega), ih, drop_cons hlt, drop_cons (by omega : k < b.length)]
      simp only [Option.bind_some, List.cons.injEq]
      by_cases e : a[k] = b[k]
      · simp [e]
      · rw [show (a[k] != b[k]) = true by simpa using e, cond_true]; simp [e]
    · rw [dlt_f hlt, cond_false, List.drop_of_length_le (by omega), List.drop_of_length_le (by omega)]
      simp
theorem same_eq {n : Nat × Nat} (hn : 1000 ≤ n.1) {a b : List Int} (hs : a.length < 900) : D24 n a b = some (decide (a = b)) := by
  unfold D24
  by_cases hl : a.length = b.length
  · rw [show (((a.length : Int)) != (b.length : Int)) = false by simp [hl], cond_false]
    have := same_loop n a b hl (by omega) n.1 0 (by omega) (by omega)
    simpa using this
  · rw [show (((a.length : Int)) != (b.length : Int)) = true by simpa using (by omega : (a.length : Int) ≠ b.length), cond_true]
    rw [decide_eq_false (fun e => hl (by rw [e]))]
/-- Two lists of lists are the same. -/
theorem alike_loop (n : Nat × Nat) (hn : 1000 ≤ n.1) (a b : List (List Int)) (hl : a.length = b.length) (hs : a.length < 1000) (hb : ∀ l ∈ a, l.length < 900) : ∀ (m k : Nat), k ≤ a.length → a.length - k < m → DL25_1 n m a b (k : Int) = some (decide (a.drop k = b.drop k))
  | 0, k, _, h => by omega
  | m + 1, k, hk, h => by
    rw [DL25_1_succ]
    unfold DF25_1
    by_cases hlt : k < a.length
    · have ih := alike_loop n hn a b hl hs hb m (k + 1) (by omega) (by omega)
      rw [dlt_t hlt, cond_true, idx_nat hlt, Option.bind_some, idx_nat (by omega : k < b.length), Option.bind_some, same_eq hn (hb _ (List.getElem_mem _)), Option.bind_some, wr_succ (by omega), ih, drop_cons hlt, drop_cons (by omega : k < b.length)]
      generalize a.drop (k + 1) = ta at *
      generalize b.drop (k + 1) = tb at *
      generalize a[k] = x at *
      generalize b[k]'(by omega) = y at *
      by_cases e : x = y
      · simp [e]
      · simp [e]
    · rw [dlt_f hlt, cond_false, List.drop_of_length_le (by omega), List.drop_of_length_le (by omega)]
      simp
theorem alike_eq {n : Nat × Nat} (hn : 1000 ≤ n.1) {a b : List (List Int)} (hs : a.length < 900) (hb : ∀ l ∈ a, l.length < 900) : D25 n a b = some (decide (a = b)) := by
  unfold D25
  by_cases hl : a.length = b.length
  · rw [show (((a.length : Int)) != (b.length : Int)) = false by simp [hl], cond_false]
    have := alike_loop n hn a b hl (by omega) hb n.1 0 (by omega) (by omega)
    simpa using this
  · rw [show (((a.length : Int)) != (b.length : Int)) = true by simpa using (by omega : (a.length : Int) ≠ b.length), cond_true]
    rw [decide_eq_false (fun e => hl (by rw [e]))]
/-- Lists that are too long. -/
theorem large_loop (n : Nat × Nat) (l : List (List Int)) (hs : l.length < 1000) : ∀ (m k : Nat), k ≤ l.length → l.length - k < m → DL16_1 n m l (k : Int) = some (decide (∃ x ∈ l.drop k, 40 < x.length))
  | 0, k, _, h => by omega
  | m + 1, k, hk, h => by
    rw [DL16_1_succ]
    unfold DF16_1
    by_cases hlt : k < l.length
    · have ih := large_loop n l hs m (k + 1) (by omega) (by omega)
      rw [dlt_t hlt, cond_true, idx_nat hlt, Option.bind_some, wr_succ (by omega), ih, drop_cons hlt]
      generalize l.drop (k + 1) = t at *
      generalize l[k] = x at *
      by_cases e : 40 < x.length
      · rw [decide_eq_true (show (x.length : Int) > 40 by omega), cond_true]
        simp [e]
      · rw [decide_eq_false (show ¬ (x.length : Int) > 40 by omega), cond_false]
        simp [e]
    · rw [dlt_f hlt, cond_false, List.drop_of_length_le (by omega)]
      simp
theorem large_eq {n : Nat × Nat} (hn : 1000 ≤ n.1) (l : List (List Int)) : D16 n l = some (decide (40 < l.length ∨ ∃ x ∈ l, 40 < x.length)) := by
  unfold D16
  by_cases e : 40 < l.length
  · rw [decide_eq_true (show (l.length : Int) > 40 by omega), cond_true, decide_eq_true (Or.inl e)]
  · rw [decide_eq_false (show ¬ (l.length : Int) > 40 by omega), cond_false]
    have := large_loop n l (by omega) n.1 0 (by omega) (by omega)
    rw [show ((0 : Nat) : Int) = 0 from rfl, List.drop_zero] at this
    rw [this]
    simp [e]
/-- The first place at which something holds, or -1. -/
def fnd (q : Int → Bool) : Nat → List Int → Int
  | _, [] => -1
  | k, x :: l => if q x then (k : Int) else fnd q (k + 1) l
theorem fnd_bnd (q : Int → Bool) : ∀ (l : List Int) (k : Nat), fnd q k l = -1 ∧ (∀ x ∈ l, q x = false) ∨ (k ≤ fnd q k l ∧ fnd q k l < k + l.length ∧ ∃ x ∈ l, q x = true)
  | [], k => by simp [fnd]
  | x :: l, k => by
    unfold fnd
    by_cases h : q x = true
    · rw [if_pos h]
      exact .inr ⟨by omega, by simp; omega, x, by simp, h⟩
    · rw [if_neg h]
      rcases fnd_bnd q l (k + 1) with ⟨h1, h2⟩ | ⟨h1, h2, y, hy, hq⟩
      · exact .inl ⟨h1, fun y hy => (List.mem_cons.1 hy).elim (fun e => by rw [e]; simpa using h) (fun hy => h2 y hy)⟩
      · exact .inr ⟨by omega, by simp; omega, y, by simp [hy], hq⟩
theorem fnd_ge (q : Int → Bool) (l : List Int) (k : Nat) : (0 ≤ fnd q k l) ↔ ∃ x ∈ l, q x = true := by
  rcases fnd_bnd q l k with ⟨h1, h2⟩ | ⟨h1, h2, h3⟩
  · constructor
    · intro h; omega
    · rintro ⟨x, hx, hq⟩; rw [h2 x hx] at hq; cases hq
  · exact ⟨fun _ => h3, fun _ => by omega⟩
/-- A job's error. -/
def BadP (sz p : Int) : Prop := p < 1 ∨ sz < p
instance (sz p : Int) : Decidable (BadP sz p) := inferInstanceAs (Decidable (_ ∨ _))
def chk (sz : Int) (ps : List Int) : Int := if sz < 1 ∨ 24 < sz then 1 else if 8 < ps.length then 3 else if ∃ p ∈ ps, BadP sz p then 1 else 0
structure Job (sz : Int) (ps : List Int) : Prop where
  lo : 1 ≤ sz
  hi : sz ≤ 24
  len : ps.length ≤ 8
  ok : ∀ p ∈ ps, 1 ≤ p ∧ p ≤ sz
theorem chk_job {sz : Int} {ps : List Int} : chk sz ps = 0 ↔ Job sz ps := by
  unfold chk
  constructor
  · intro h
    split at h
    · omega
    · split at h
      · omega
      · split at h
        · omega
        · rename_i h1 h2 h3
          refine ⟨by omega, by omega, by omega, fun p hp => ?_⟩
          have : ¬ BadP sz p := fun hb => h3 ⟨p, hp, hb⟩
          unfold BadP at this
          omega
  · intro h
    have := h.lo
    have := h.hi
    have := h.len
    rw [if_neg (by omega), if_neg (by omega), if_neg]
    rintro ⟨p, hp, hb⟩
    have := h.ok p hp
    unfold BadP at hb
    omega
theorem bad_eq (n : Nat × Nat) (p sz : Int) : D76 n p sz = some (decide (BadP sz p)) := by
  unfold D76 BadP
  by_cases h : p < 1
  · rw [decide_eq_true h]; simp [h]
  · rw [decide_eq_false h]; simp [h]
theorem idxf_loop (n : Nat × Nat) (l : List Int) (sz : Int) (hs : l.length < 100000) : ∀ (m k : Nat), k ≤ l.length → l.length - k < m → DL79c76_1 n m l sz (l.length : Int) (k : Int) = some (fnd (fun p => decide (BadP sz p)) k (l.drop k))
  | 0, k, _, h => by omega
  | m + 1, k, hk, h => by
    rw [DL79c76_1_succ]
    unfold DF79c76_1
    by_cases hlt : k < l.length
    · have ih := idxf_loop n l sz hs m (k + 1) (by omega) (by omega)
      rw [dlt_t hlt, cond_true, idx_nat hlt, Option.bind_some, bad_eq, Option.bind_some, wr_succ (by omega), ih, drop_cons hlt]
      generalize l.drop (k + 1) = t at *
      generalize l[k] = x at *
      unfold fnd
      by_cases e : BadP sz x
      · simp [e]
      · simp only [e, decide_false, cond_false, Bool.false_eq_true, if_false]
        cases t <;> rfl
    · rw [dlt_f hlt, cond_false, List.drop_of_length_le (by omega)]
      rfl
theorem anyb_eq {n : Nat × Nat} (l : List Int) (sz : Int) (hs : l.length < n.1) (hs2 : l.length < 100000) : D75c76 n l sz = some (decide (∃ p ∈ l, BadP sz p)) := by
  unfold D75c76 D79c76
  have := idxf_loop n l sz hs2 n.1 0 (by omega) (by omega)
  rw [show ((0 : Nat) : Int) = 0 from rfl, List.drop_zero] at this
  rw [this, Option.bind_some]
  congr 1
  apply decide_eq_decide.2
  have := fnd_ge (fun p => decide (BadP sz p)) l 0
  simp only [decide_eq_true_eq] at this
  exact this
theorem Check_eq {n : Nat × Nat} (hn : 1000 ≤ n.1) (sz : Int) (ps : List Int) : D26 n sz ps = some (chk sz ps) := by
  unfold D26 chk
  by_cases h1 : sz < 1
  · rw [decide_eq_true h1, if_pos (.inl h1)]; rfl
  · rw [decide_eq_false h1]
    by_cases h2 : 24 < sz
    · rw [if_pos (.inr h2), decide_eq_true (show sz > 24 from h2)]; rfl
    · rw [if_neg (by omega), decide_eq_false (show ¬ sz > 24 from h2)]
      simp only [beq_self_eq_true, cond_true, Option.bind_some, cond_false]
      by_cases h3 : 8 < ps.length
      · rw [if_pos h3, decide_eq_true (show (ps.length : Int) > 8 by omega), cond_true]
      · rw [if_neg h3, decide_eq_false (show ¬ (ps.length : Int) > 8 by omega), cond_false, anyb_eq ps sz (by omega) (by omega), Option.bind_some]
        by_cases h4 : ∃ p ∈ ps, BadP sz p
        · rw [if_pos h4, decide_eq_true h4, cond_true]
        · rw [if_neg h4, decide_eq_false h4, cond_false]
theorem in_eq (n : Nat × Nat) (v lo hi : Int) : D72 n v lo hi = some (decide (lo ≤ v ∧ v ≤ hi)) := by
  unfold D72
  by_cases h : lo ≤ v
  · rw [decide_eq_true (show v ≥ lo from h)]; simp [h]
  · rw [decide_eq_false (show ¬ v ≥ lo from h)]; simp [h]
theorem rcheck_loop (n : Nat × Nat) (sz : Int) (l : List Int) (hs : l.length < 1000) : ∀ (m k : Nat), k ≤ l.length → l.length - k < m → DL27_1 n m sz l (k : Int) = some (if ∃ p ∈ l.drop k, BadP sz p then 1 else 0)
  | 0, k, _, h => by omega
  | m + 1, k, hk, h => by
    rw [DL27_1_succ]
    unfold DF27_1
    by_cases hlt : k < l.length
    · have ih := rcheck_loop n sz l hs m (k + 1) (by omega) (by omega)
      rw [dlt_t hlt, cond_true, idx_nat hlt, Option.bind_some, in_eq, Option.bind_some, wr_succ (by omega), ih, drop_cons hlt]
      generalize l.drop (k + 1) = t at *
      generalize l[k] = x at *
      by_cases e : BadP sz x
      · rw [decide_eq_false (by unfold BadP at e; omega), Bool.not_false, cond_true, if_pos ⟨x, by simp, e⟩]
      · rw [decide_eq_true (by unfold BadP at e; omega), Bool.not_true, cond_false]
        simp [e]
    · rw [dlt_f hlt, cond_false, List.drop_of_length_le (by omega)]
      simp
theorem rCheck_eq {n : Nat × Nat} (hn : 1000 ≤ n.1) (sz : Int) (ps : List Int) : D27 n sz ps = some (chk sz ps) := by
  unfold D27 chk
  rw [in_eq, Option.bind_some]
  by_cases h1 : sz < 1 ∨ 24 < sz
  · rw [if_pos h1, decide_eq_false (by omega), Bool.not_false, cond_true]
  · rw [if_neg h1, decide_eq_true (by omega), Bool.not_true, cond_false]
    by_cases h3 : 8 < ps.length
    · rw [if_pos h3, decide_eq_true (show (ps.length : Int) > 8 by omega), cond_true]
    · rw [if_neg h3, decide_eq_false (show ¬ (ps.length : Int) > 8 by omega), cond_false]
      have := rcheck_loop n sz ps (by omega) n.1 0 (by omega) (by omega)
      rw [show ((0 : Nat) : Int) = 0 from rfl, List.drop_zero] at this
      exact this
/-- How many sheets a plan has. -/
def mny (l : List Int) : Int := l.foldl (fun a s => max a (s + 1)) 0
/-- How much of a sheet is used. -/
def usd : List Int → List Int → Int → Int
  | p :: ps, x :: l, s => (if x = s then p else 0) + usd ps l s
  | _, _, _ => 0
theorem fold_mny : ∀ (l : List Int) (a : Int), a ≤ l.foldl (fun a s => max a (s + 1)) a ∧ (∀ x ∈ l, x < l.foldl (fun a s => max a (s + 1)) a)
  | [], a => by simp
  | x :: l, a => by
    rw [List.foldl_cons]
    obtain ⟨h1, h2⟩ := fold_mny l (max a (x + 1))
    refine ⟨by omega, fun y hy => ?_⟩
    rcases List.mem_cons.1 hy with rfl | hy
    · omega
    · exact h2 y hy
theorem mny_nn (l : List Int) : 0 ≤ mny l := (fold_mny l 0).1
theorem mny_lt {l : List Int} {x : Int} (h : x ∈ l) : x < mny l := (fold_mny l 0).2 x h
theorem mny_snoc (l : List Int) (x : Int) : mny (l ++ [x]) = max (mny l) (x + 1) := by simp [mny, List.foldl_append]
theorem mny_nil : mny [] = 0 := rfl
theorem usd_snoc (s x p : Int) : ∀ {ps l : List Int}, ps.length = l.length → usd (ps ++ [p]) (l ++ [x]) s = usd ps l s + if x = s then p else 0
  | [], [], _ => by simp [usd]
  | q :: ps, y :: l, h => by
    simp only [List.cons_append, usd]
    rw [usd_snoc s x p (by simpa using h)]
    omega
  | [], _ :: _, h => by simp at h
  | _ :: _, [], h => by simp at h
theorem usd_none {s : Int} : ∀ {ps l : List Int}, s ∉ l → usd ps l s = 0
  | [], [], _ => rfl
  | [], _ :: _, _ => rfl
  | _ :: _, [], _ => rfl
  | q :: ps, y :: l, h => by
    simp only [List.mem_cons, not_or] at h
    simp only [usd, if_neg (fun e => h.1 (Eq.symm e)), usd_none h.2]
    omega
theorem usd_nn {s : Int} : ∀ {ps l : List Int}, (∀ p ∈ ps, 0 ≤ p) → 0 ≤ usd ps l s
  | [], _, _ => by simp [usd]
  | _ :: _, [], _ => by simp [usd]
  | q :: ps, y :: l, h => by
    have h1 := h q (by simp)
    have h2 := usd_nn (s := s) (ps := ps) (l := l) (fun p hp => h p (by simp [hp]))
    simp only [usd]
    split <;> omega
theorem usd_le {s : Int} : ∀ {ps l : List Int}, (∀ p ∈ ps, 0 ≤ p ∧ p ≤ 24) → usd ps l s ≤ 24 * ps.length
  | [], _, _ => by simp [usd]
  | _ :: _, [], _ => by simp only [usd, List.length_cons]; omega
  | q :: ps, y :: l, h => by
    have h1 := h q (by simp)
    have h2 := usd_le (s := s) (ps := ps) (l := l) (fun p hp => h p (by simp [hp]))
    simp only [usd, List.length_cons]
    split <;> omega
theorem many_loop (n : Nat × Nat) (l : List Int) (hs : l.length < 1000) (hb : ∀ x ∈ l, 0 ≤ x ∧ x ≤ 100000) : ∀ (m k : Nat) (v : Int), k ≤ l.length → l.length - k < m → DL67_1 n m l v (k : Int) = some ((l.drop k).foldl (fun a s => max a (s + 1)) v)
  | 0, k, v, _, h => by omega
  | m + 1, k, v, hk, h => by
    rw [DL67_1_succ]
    unfold DF67_1
    by_cases hlt : k < l.length
    · have hx := hb _ (List.getElem_mem hlt)
      rw [dlt_t hlt, cond_true, idx_nat hlt, Option.bind_some, wr_ok (x := l[k] + 1) (by omega) (by omega), max_if, wr_succ (by omega), many_loop n l hs hb m (k + 1) _ (by omega) (by omega), drop_cons hlt, List.foldl_cons]
    · rw [dlt_f hlt, cond_false, List.drop_of_length_le (by omega)]
      rfl
theorem many_eq {n : Nat × Nat} (hn : 1000 ≤ n.1) {l : List Int} (hs : l.length < 900) (hb : ∀ x ∈ l, 0 ≤ x ∧ x ≤ 100000) : D67 n l = some (mny l) := by
  unfold D67
  exact many_loop n l (by omega) hb n.1 0 0 (by omega) (by omega)
theorem used_loop (n : Nat × Nat) (ps l : List Int) (s : Int) (hl : l.length = ps.length) (hs : l.length < 1000) (hb : ∀ p ∈ ps, 0 ≤ p ∧ p ≤ 24) : ∀ (m k : Nat) (v : Int), k ≤ l.length → l.length - k < m → 0 ≤ v → v ≤ 24 * k → DL68_1 n m ps l s v (k : Int) = some (v + usd (ps.drop k) (l.drop k) s)
  | 0, k, v, _, h, _, _ => by omega
  | m + 1, k, v, hk, h, h0, h1 => by
    rw [DL68_1_succ]
    unfold DF68_1
    by_cases hlt : k < l.length
    · have hp := hb _ (List.getElem_mem (show k < ps.length by omega))
      rw [dlt_t hlt, cond_true, idx_nat hlt, Option.bind_some, drop_cons hlt, drop_cons (show k < ps.length by omega)]
      simp only [usd]
      by_cases e : l[k] = s
      · rw [show (l[k] == s) = true by simpa using e, cond_true, idx_nat (by omega : k < ps.length), Option.bind_some]
        unfold DL68_2
        rw [wr_ok (by omega) (by omega), wr_succ (by omega), used_loop n ps l s hl hs hb m (k + 1) _ (by omega) (by omega) (by omega) (by omega), if_pos e]
        congr 1
        omega
      · rw [show (l[k] == s) = false from beq_false_of_ne e, cond_false]
        unfold DL68_2
        rw [wr_succ (by omega), used_loop n ps l s hl hs hb m (k + 1) _ (by omega) (by omega) (by omega) (by omega), if_neg e]
        congr 1
        omega
    · rw [dlt_f hlt, cond_false, List.drop_of_length_le (by omega), List.drop_of_length_le (by omega)]
      simp [usd]
theorem used_eq {n : Nat × Nat} (hn : 1000 ≤ n.1) {ps l : List Int} {s : Int} (hl : l.length = ps.length) (hs : l.length < 900) (hb : ∀ p ∈ ps, 0 ≤ p ∧ p ≤ 24) : D68 n ps l s = some (usd ps l s) := by
  unfold D68
  rw [show (0 : Int) = ((0 : Nat) : Int) from rfl, used_loop n ps l s hl (by omega) hb n.1 0 _ (by omega) (by omega) (by omega) (by omega)]
  simp
/-- The error of sheets' order. -/
def oer : Int → List Int → Int
  | _, [] => 0
  | m, x :: l => if x < 0 then 2 else if m < x then 7 else oer (max m (x + 1)) l
/-- What is left of each sheet. -/
def lf (sz : Int) (ps l : List Int) : List Int := (List.range (mny l).toNat).map fun s : Nat => sz - usd ps l (s : Int)
theorem lf_len (sz : Int) (ps l : List Int) : ((lf sz ps l).length : Int) = mny l := by
  have := mny_nn l
  simp [lf]
  omega
theorem lf_get {sz : Int} {ps l : List Int} {s : Nat} (h : s < (lf sz ps l).length) : (lf sz ps l)[s] = sz - usd ps l (s : Int) := by simp [lf]
theorem lf_step (sz p x : Int) {ps l : List Int} (hl : ps.length = l.length) (h0 : 0 ≤ x) (h1 : x ≤ mny l) :
    lf sz (ps ++ [p]) (l ++ [x]) = (if x = mny l then lf sz ps l ++ [sz] else lf sz ps l).set x.toNat (sz - usd ps l x - p) := by
  have hm := mny_nn l
  have hll := lf_len sz ps l
  apply List.ext_getElem
  · have := lf_len sz (ps ++ [p]) (l ++ [x])
    rw [mny_snoc] at this
    rw [List.length_set]
    split
    · simp only [List.length_append, List.length_cons, List.length_nil]; omega
    · omega
  · intro s h2 h3
    rw [lf_get h2, usd_snoc _ _ _ hl, List.getElem_set]
    by_cases e : x.toNat = s
    · rw [if_pos e, if_pos (show x = (s : Int) by omega), show (s : Int) = x by omega]
      omega
    · rw [if_neg e, if_neg (show ¬ x = (s : Int) by omega)]
      rw [List.length_set] at h3
      split at h3
      · rename_i hx
        simp only [List.length_append, List.length_cons, List.length_nil] at h3
        have h4 : s < (lf sz ps l).length := by omega
        simp only [if_pos hx]
        rw [List.getElem_append_left h4, lf_get h4]
        omega
      · rename_i hx
        simp only [if_neg hx]
        rw [lf_get h3]
        omega
theorem neg_eq (n : Nat × Nat) (x : Int) : D93 n x = some (decide (x < 0)) := rfl
theorem idxn_loop (n : Nat × Nat) (l : List Int) (hs : l.length < 1000) : ∀ (m k : Nat), k ≤ l.length → l.length - k < m → DL79c93_1 n m l (l.length : Int) (k : Int) = some (fnd (fun p => decide (p < 0)) k (l.drop k))
  | 0, k, _, h => by omega
  | m + 1, k, hk, h => by
    rw [DL79c93_1_succ]
    unfold DF79c93_1
    by_cases hlt : k < l.length
    · have ih := idxn_loop n l hs m (k + 1) (by omega) (by omega)
      rw [dlt_t hlt, cond_true, idx_nat hlt, Option.bind_some, neg_eq, Option.bind_some, wr_succ (by omega), ih, drop_cons hlt]
      generalize l.drop (k + 1) = t at *
      generalize l[k] = x at *
      unfold fnd
      by_cases e : x < 0
      · simp [e]
      · simp only [e, decide_false, cond_false, Bool.false_eq_true, if_false]
        cases t <;> rfl
    · rw [dlt_f hlt, cond_false, List.drop_of_length_le (by omega)]
      rfl
theorem anyn_eq {n : Nat × Nat} (hn : 1000 ≤ n.1) (l : List Int) (hs : l.length < 900) : D75c93 n l = some (decide (∃ p ∈ l, p < 0)) := by
  unfold D75c93 D79c93
  have := idxn_loop n l (by omega) n.1 0 (by omega) (by omega)
  rw [show ((0 : Nat) : Int) = 0 from rfl, List.drop_zero] at this
  rw [this, Option.bind_some]
  congr 1
  apply decide_eq_decide.2
  have := fnd_ge (fun p => decide (p < 0)) l 0
  simp only [decide_eq_true_eq] at this
  exact this
/-- What is handed back of a plan whose order has an error, or none. -/
def shOut (sz : Int) (ps l : List Int) (e : Int) : List Int × Int := if e ≠ 0 then ([], e) else if ∃ s ∈ lf sz ps l, s < 0 then ([], 15) else (lf sz ps l, 0)
theorem shOut_err {sz : Int} {ps l : List Int} {e : Int} (h : e ≠ 0) : shOut sz ps l e = ([], e) := if_pos h
theorem sheets_loop (n : Nat × Nat) (hn : 1000 ≤ n.1) {sz : Int} {ps l : List Int} (hj : Job sz ps) (hl : l.length = ps.length) : ∀ (m k : Nat), k ≤ l.length → l.length - k < m → mny (l.take k) ≤ k →
    DL66_1 n m sz ps l (l.length : Int) (k : Int) (lf sz (ps.take k) (l.take k)) = some (shOut sz ps l (oer (mny (l.take k)) (l.drop k)))
  | 0, k, _, h, _ => by omega
  | m + 1, k, hk, h, hmk => by
    have h8 := hj.len
    have hlo := hj.lo
    have hhi := hj.hi
    rw [DL66_1_succ]
    unfold DF66_1
    by_cases hlt : k < l.length
    · have hlp : k < ps.length := by omega
      have hp := hj.ok _ (List.getElem_mem hlp)
      have hm0 := mny_nn (l.take k)
      have hll := lf_len sz (ps.take k) (l.take k)
      have ih := sheets_loop n hn hj hl m (k + 1) (by omega) (by omega)
      have hstep := lf_step sz ps[k] l[k] (ps := ps.take k) (l := l.take k) (by simp; omega)
      have hu0 := usd_nn (s := l[k]) (ps := ps.take k) (l := l.take k) (fun p hp => by have := hj.ok p (List.mem_of_mem_take hp); omega)
      have hu1 := usd_le (s := l[k]) (ps := ps.take k) (l := l.take k) (fun p hp => by have := hj.ok p (List.mem_of_mem_take hp); omega)
      rw [List.length_take] at hu1
      rw [← take_snoc hlt, ← take_snoc hlp] at hstep
      have hmn := mny_snoc (l.take k) l[k]
      rw [← take_snoc hlt] at hmn
      have hget : ∀ (q : List Int), q = (if l[k] = mny (l.take k) then lf sz (ps.take k) (l.take k) ++ [sz] else lf sz (ps.take k) (l.take k)) → 0 ≤ l[k] → l[k] ≤ mny (l.take k) → ∃ h : l[k].toNat < q.length, q[l[k].toNat] = sz - usd (ps.take k) (l.take k) l[k] := by
        rintro q rfl h0 h1
        by_cases e : l[k] = mny (l.take k)
        · rw [if_pos e]
          have hz : usd (ps.take k) (l.take k) l[k] = 0 := usd_none (fun hm => by have := mny_lt hm; omega)
          refine ⟨by simp only [List.length_append, List.length_cons, List.length_nil]; omega, ?_⟩
          rw [hz, List.getElem_append_right (by omega)]
          simp
        · rw [if_neg e]
          refine ⟨by omega, ?_⟩
          rw [lf_get, show ((l[k].toNat : Nat) : Int) = l[k] by omega]
      rw [dlt_t hlt, cond_true, idx_nat hlt, Option.bind_some, drop_cons hlt]
      unfold oer
      generalize hL : lf sz (ps.take k) (l.take k) = L at *
      generalize hU : usd (ps.take k) (l.take k) l[k] = u at *
      generalize hx : l[k] = x at *
      by_cases e1 : x < 0
      · rw [decide_eq_true e1, cond_true, if_pos e1, shOut_err (by omega)]
      · rw [decide_eq_false e1, cond_false, if_neg e1, hll]
        by_cases e2 : mny (l.take k) < x
        · rw [decide_eq_true (show x > mny (l.take k) from e2), cond_true, if_pos e2, shOut_err (by omega)]
        · rw [decide_eq_false (show ¬ x > mny (l.take k) from e2), cond_false, if_neg e2]
          have hstep := hstep (by omega) (by omega)
          have ih := ih (by omega)
          rw [hmn] at ih
          have done : ∀ q : List Int, q = (if x = mny (l.take k) then L ++ [sz] else L) → DL66_2 n (DL66_1 n m) sz ps (k : Int) x l (l.length : Int) (k : Int) q = DL66_1 n m sz ps l (l.length : Int) ((k + 1 : Nat) : Int) (lf sz (ps.take (k + 1)) (l.take (k + 1))) := fun q hq => by
            obtain ⟨hql, hqv⟩ := hget q hq (by omega) (by omega)
            unfold DL66_2
            have hxq : x = (x.toNat : Int) := by omega
            have hin : inB x q.length = true := by rw [hxq]; exact inB_nat hql
            rw [hin, cond_true, idx_int hxq hql, Option.bind_some, idx_nat hlp, Option.bind_some, cond_true, Option.bind_some, hqv, wr_succ (by omega), wr_ok (by omega) (by omega), hstep, ← hq]
          by_cases e3 : x = mny (l.take k)
          · rw [show (x == mny (l.take k)) = true by simpa using e3, cond_true, lim_dec (by omega), cond_true, done _ (by rw [if_pos e3]), ih]
          · rw [show (x == mny (l.take k)) = false from beq_false_of_ne e3, cond_false, done _ (by rw [if_neg e3]), ih]
    · have e : k = l.length := by omega
      subst e
      have hll := lf_len sz ps l
      rw [dlt_f hlt, cond_false, List.take_length, List.drop_length, hl, List.take_length]
      rw [List.take_length] at hmk
      rw [anyn_eq hn _ (by omega), Option.bind_some]
      unfold oer shOut
      rw [if_neg (by simp)]
      by_cases e2 : ∃ s ∈ lf sz ps l, s < 0
      · rw [decide_eq_true e2, cond_true, if_pos e2]
      · rw [decide_eq_false e2, cond_false, if_neg e2]
/-- A plan's error. -/
def vld (sz : Int) (ps l : List Int) : Int := if chk sz ps ≠ 0 then chk sz ps else if l.length ≠ ps.length then 5 else if oer 0 l ≠ 0 then oer 0 l else if ∃ x ∈ l, sz < usd ps l x then 15 else 0
def shts (sz : Int) (ps l : List Int) : List Int × Int := if vld sz ps l ≠ 0 then ([], vld sz ps l) else (lf sz ps l, 0)
theorem over_iff {sz : Int} {ps l : List Int} (hj : Job sz ps) (ho : oer 0 l = 0) : (∃ s ∈ lf sz ps l, s < 0) ↔ ∃ x ∈ l, sz < usd ps l x := by
  have hlo := hj.lo
  have hnn : ∀ (l : List Int) (m : Int), oer m l = 0 → ∀ x ∈ l, 0 ≤ x := by
    intro l
    induction l with
    | nil => intro m _ x hx; simp at hx
    | cons y l ih =>
      intro m h x hx
      unfold oer at h
      split at h
      · omega
      · split at h
        · omega
        · rcases List.mem_cons.1 hx with rfl | hx
          · omega
          · exact ih _ h x hx
  constructor
  · rintro ⟨s, hs, h0⟩
    obtain ⟨i, hi, e⟩ := List.getElem_of_mem hs
    rw [lf_get hi] at e
    by_cases hm : (i : Int) ∈ l
    · exact ⟨i, hm, by omega⟩
    · rw [usd_none hm] at e
      omega
  · rintro ⟨x, hx, h0⟩
    have h1 := hnn l 0 ho x hx
    have h2 := mny_lt hx
    have hll := lf_len sz ps l
    have hi : x.toNat < (lf sz ps l).length := by omega
    refine ⟨(lf sz ps l)[x.toNat], List.getElem_mem hi, ?_⟩
    rw [lf_get hi, show ((x.toNat : Nat) : Int) = x by omega]
    omega
theorem shts_err {sz : Int} {ps l : List Int} {e : Int} (h : vld sz ps l = e) (h0 : e ≠ 0) : shts sz ps l = ([], e) := by unfold shts; rw [h, if_pos h0]
theorem sheets_eq {n : Nat × Nat} (hn : 1000 ≤ n.1) (sz : Int) (ps l : List Int) : D66 n sz ps l = some (shts sz ps l) := by
  unfold D66
  rw [Check_eq hn, Option.bind_some]
  by_cases h1 : chk sz ps = 0
  · have hj := chk_job.1 h1
    rw [h1, bne_self_eq_false, cond_false]
    by_cases h2 : l.length = ps.length
    · rw [show ((l.length : Int) != (ps.length : Int)) = false by simp [h2], cond_false]
      have := sheets_loop n hn hj h2 n.1 0 (by omega) (by have := hj.len; omega) (by simp [mny])
      simp only [List.take_zero, List.drop_zero] at this
      rw [show lf sz [] [] = [] from rfl, show ((0 : Nat) : Int) = 0 from rfl, mny_nil] at this
      rw [this]
      congr 1
      by_cases h3 : oer 0 l = 0
      · have hov := over_iff hj h3
        rw [h3]
        unfold shOut
        rw [if_neg (by simp)]
        by_cases h4 : ∃ x ∈ l, sz < usd ps l x
        · rw [if_pos (hov.2 h4), shts_err (e := 15) (by unfold vld; rw [if_neg (by simpa using h1), if_neg (by simpa using h2), if_neg (by simpa using h3), if_pos h4]) (by omega)]
        · rw [if_neg (fun h => h4 (hov.1 h))]
          have e : vld sz ps l = 0 := by unfold vld; rw [if_neg (by simpa using h1), if_neg (by simpa using h2), if_neg (by simpa using h3), if_neg h4]
          unfold shts
          rw [e, if_neg (by simp)]
      · rw [shOut_err h3, shts_err (e := oer 0 l) (by unfold vld; rw [if_neg (by simpa using h1), if_neg (by simpa using h2), if_pos h3]) h3]
    · rw [show ((l.length : Int) != (ps.length : Int)) = true by simpa using (by omega : (l.length : Int) ≠ ps.length), cond_true, shts_err (e := 5) (by unfold vld; rw [if_neg (by simpa using h1), if_pos h2]) (by omega)]
  · rw [show (chk sz ps != 0) = true by simpa using h1, cond_true, shts_err (e := chk sz ps) (by unfold vld; rw [if_pos h1]) h1]
theorem Valid_eq {n : Nat × Nat} (hn : 1000 ≤ n.1) (sz : Int) (ps l : List Int) : D28 n sz ps l = some (vld sz ps l) := by
  unfold D28
  rw [sheets_eq hn, Option.bind_some]
  unfold shts
  split
  · rfl
  · rename_i h
    have h : vld sz ps l = 0 := by simpa using h
    rw [h]
theorem Left_eq {n : Nat × Nat} (hn : 1000 ≤ n.1) (sz : Int) (ps l : List Int) : D18 n sz ps l = some (shts sz ps l) := by
  unfold D18
  rw [sheets_eq hn, Option.bind_some]
theorem bounds_hi {k n : Nat} (h : k ≤ n) : bounds none (some (k : Int)) none n = true := by
  unfold bounds
  simp
  omega
def vOut (sz : Int) (ps l : List Int) (e : Int) : Int := if e ≠ 0 then e else if ∃ x ∈ l, sz < usd ps l x then 15 else 0
theorem vOut_err {sz : Int} {ps l : List Int} {e : Int} (h : e ≠ 0) : vOut sz ps l e = e := if_pos h
theorem vOut_zero {sz : Int} {ps l : List Int} : vOut sz ps l 0 = if ∃ x ∈ l, sz < usd ps l x then 15 else 0 := if_neg (fun h => h rfl)
theorem rv3_err (n : Nat × Nat) {sz : Int} {ps l : List Int} {e : Int} (h : e ≠ 0) (m : Nat) (i : Int) : DL29_3 n (m + 1) sz ps l e i = some e := by
  rw [DL29_3_succ]
  unfold DF29_3
  rw [show (e == 0) = false from beq_false_of_ne h]
  by_cases hi : i < (l.length : Int)
  · rw [decide_eq_true hi]; rfl
  · rw [decide_eq_false hi]; rfl
theorem rv1_err (n : Nat × Nat) (hn : 1000 ≤ n.1) {sz : Int} {ps l : List Int} {e : Int} (h : e ≠ 0) (m : Nat) (i : Int) : DL29_1 n (m + 1) sz ps l e i = some e := by
  rw [DL29_1_succ]
  unfold DF29_1
  obtain ⟨q, hq⟩ : ∃ q, n.1 = q + 1 := ⟨n.1 - 1, by omega⟩
  rw [show (e == 0) = false from beq_false_of_ne h]
  by_cases hi : i < (l.length : Int)
  · rw [decide_eq_true hi]
    simp only [beq_self_eq_true, cond_true, Option.bind_some, cond_false]
    rw [hq, rv3_err n h]
  · rw [decide_eq_false hi]
    simp only [show (false == true) = false from rfl, cond_false, Option.bind_some]
    rw [hq, rv3_err n h]
theorem rv3_loop (n : Nat × Nat) (hn : 1000 ≤ n.1) {sz : Int} {ps l : List Int} (hj : Job sz ps) (hl : l.length = ps.length) : ∀ (m k : Nat), k ≤ l.length → l.length - k + 1 < m → DL29_3 n m sz ps l 0 (k : Int) = some (if ∃ x ∈ l.drop k, sz < usd ps l x then 15 else 0)
  | 0, k, _, h => by omega
  | m + 1, k, hk, h => by
    have h8 := hj.len
    rw [DL29_3_succ]
    unfold DF29_3
    by_cases hlt : k < l.length
    · have ih := rv3_loop n hn hj hl m (k + 1) (by omega) (by omega)
      rw [dlt_t hlt]
      simp only [beq_self_eq_true, cond_true, Option.bind_some]
      rw [idx_nat hlt, Option.bind_some, used_eq hn hl (by omega) (fun p hp => by have := hj.ok p hp; have := hj.hi; omega), Option.bind_some, drop_cons hlt]
      generalize l.drop (k + 1) = t at *
      generalize l[k] = x at *
      unfold DL29_4
      by_cases e : sz < usd ps l x
      · obtain ⟨q, hq⟩ : ∃ q, m = q + 1 := ⟨m - 1, by omega⟩
        rw [decide_eq_true (show usd ps l x > sz from e), cond_true, wr_succ (by omega), hq, rv3_err n (by omega), if_pos ⟨x, by simp, e⟩]
      · rw [decide_eq_false (show ¬ usd ps l x > sz from e), cond_false, wr_succ (by omega), ih]
        simp [e]
    · rw [dlt_f hlt, List.drop_of_length_le (by omega)]
      simp
theorem rv1_loop (n : Nat × Nat) (hn : 1000 ≤ n.1) {sz : Int} {ps l : List Int} (hj : Job sz ps) (hl : l.length = ps.length) : ∀ (m k : Nat), k ≤ l.length → l.length - k + 1 < m → mny (l.take k) ≤ k → (∀ x ∈ l.take k, 0 ≤ x) →
    DL29_1 n m sz ps l 0 (k : Int) = some (vOut sz ps l (oer (mny (l.take k)) (l.drop k)))
  | 0, k, _, h, _, _ => by omega
  | m + 1, k, hk, h, hmk, h0 => by
    have h8 := hj.len
    rw [DL29_1_succ]
    unfold DF29_1
    obtain ⟨q, hq⟩ : ∃ q, m = q + 1 := ⟨m - 1, by omega⟩
    by_cases hlt : k < l.length
    · have ih := rv1_loop n hn hj hl m (k + 1) (by omega) (by omega)
      have hmn := mny_snoc (l.take k) l[k]
      rw [← take_snoc hlt] at hmn
      have hm0 := mny_nn (l.take k)
      rw [dlt_t hlt]
      simp only [beq_self_eq_true, cond_true, Option.bind_some]
      rw [idx_nat hlt, Option.bind_some, drop_cons hlt]
      have hx0 : ∀ x ∈ l.take (k + 1), x ∈ l.take k ∨ x = l[k] := fun x hx => by
        rw [take_snoc hlt] at hx
        exact (List.mem_append.1 hx).imp id List.mem_singleton.1
      rw [hmn] at ih
      generalize hx : l[k] = x at *
      unfold oer DL29_2
      by_cases e1 : x < 0
      · rw [decide_eq_true e1, cond_true, if_pos e1, vOut_err (by omega), wr_succ (by omega), hq, rv1_err n hn (by omega)]
      · rw [decide_eq_false e1, cond_false, if_neg e1, Option.bind_some, bounds_hi hk, cond_true, Int.toNat_natCast, many_eq hn (by simp; omega) (fun y hy => by have := mny_lt hy; have := h0 y hy; omega), Option.bind_some]
        by_cases e2 : mny (l.take k) < x
        · rw [decide_eq_true (show x > mny (l.take k) from e2), cond_true, if_pos e2, vOut_err (by omega), wr_succ (by omega), hq, rv1_err n hn (by omega)]
        · rw [decide_eq_false (show ¬ x > mny (l.take k) from e2), cond_false, if_neg e2, wr_succ (by omega), ih (by omega) (fun y hy => by rcases hx0 y hy with h | h; exact h0 y h; omega)]
    · have e : k = l.length := by omega
      subst e
      rw [dlt_f hlt, List.drop_length]
      simp only [show (false == true) = false from rfl, cond_false, Option.bind_some]
      have := rv3_loop n hn hj hl n.1 0 (by omega) (by omega)
      rw [show ((0 : Nat) : Int) = 0 from rfl, List.drop_zero] at this
      rw [this]
      unfold oer
      rw [vOut_zero]
theorem rValid_eq {n : Nat × Nat} (hn : 1000 ≤ n.1) (sz : Int) (ps l : List Int) : D29 n sz ps l = some (vld sz ps l) := by
  unfold D29
  rw [rCheck_eq hn, Option.bind_some]
  obtain ⟨q, hq⟩ : ∃ q, n.1 = q + 1 := ⟨n.1 - 1, by omega⟩
  by_cases h1 : chk sz ps = 0
  · have hj := chk_job.1 h1
    rw [h1]
    simp only [beq_self_eq_true, cond_true, Option.bind_some]
    by_cases h2 : l.length = ps.length
    · rw [show ((l.length : Int) != (ps.length : Int)) = false by simp [h2], cond_false]
      have := rv1_loop n hn hj h2 n.1 0 (by omega) (by have := hj.len; omega) (by simp [mny]) (by simp)
      simp only [List.take_zero, List.drop_zero] at this
      rw [show ((0 : Nat) : Int) = 0 from rfl, mny_nil] at this
      rw [this]
      congr 1
      unfold vOut vld
      rw [if_neg (show ¬ chk sz ps ≠ 0 by simpa using h1), if_neg (show ¬ l.length ≠ ps.length by simpa using h2)]
    · rw [show ((l.length : Int) != (ps.length : Int)) = true by simpa using (by omega : (l.length : Int) ≠ ps.length), cond_true, hq, rv1_err n hn (by omega)]
      unfold vld
      rw [if_neg (by simpa using h1), if_pos h2]
  · rw [show (chk sz ps == 0) = false from beq_false_of_ne h1]
    simp only [show (false == true) = false from rfl, cond_false, Option.bind_some]
    rw [hq, rv1_err n hn h1]
    unfold vld
    rw [if_pos h1]
/-- A plan that is one. -/
structure Pln (sz : Int) (ps l : List Int) : Prop where
  job : Job sz ps
  len : l.length = ps.length
  ord : oer 0 l = 0
  fit : ∀ x ∈ l, usd ps l x ≤ sz
theorem vld_pln {sz : Int} {ps l : List Int} : vld sz ps l = 0 ↔ Pln sz ps l := by
  unfold vld
  constructor
  · intro h
    split at h
    · omega
    · rename_i h1
      split at h
      · omega
      · rename_i h2
        split at h
        · omega
        · rename_i h3
          split at h
          · omega
          · rename_i h4
            refine ⟨chk_job.1 (by simpa using h1), by simpa using h2, by simpa using h3, fun x hx => ?_⟩
            have : ¬ sz < usd ps l x := fun hh => h4 ⟨x, hx, hh⟩
            omega
  · intro h
    rw [if_neg (by simpa using chk_job.2 h.job), if_neg (by simpa using h.len), if_neg (by simpa using h.ord), if_neg]
    rintro ⟨x, hx, h0⟩
    have := h.fit x hx
    omega
theorem oer_bnd : ∀ (l : List Int) (m : Int), 0 ≤ m → oer m l = 0 → (∀ x ∈ l, 0 ≤ x ∧ x < m + l.length) ∧ l.foldl (fun a s => max a (s + 1)) m ≤ m + l.length
  | [], m, _, _ => by simp
  | x :: l, m, hm, h => by
    unfold oer at h
    split at h
    · omega
    · split at h
      · omega
      · obtain ⟨h1, h2⟩ := oer_bnd l _ (by omega) h
        rw [List.foldl_cons, List.length_cons]
        refine ⟨fun y hy => ?_, by omega⟩
        rcases List.mem_cons.1 hy with rfl | hy
        · omega
        · have := h1 y hy
          omega
theorem Pln.rng {sz : Int} {ps l : List Int} (h : Pln sz ps l) : ∀ x ∈ l, 0 ≤ x ∧ x ≤ 100000 := fun x hx => by
  have := (oer_bnd l 0 (by omega) h.ord).1 x hx
  have := h.job.len
  have := h.len
  omega
theorem Pln.mny {sz : Int} {ps l : List Int} (h : Pln sz ps l) : mny l ≤ 8 := by
  have h1 := (oer_bnd l 0 (by omega) h.ord).2
  have := h.job.len
  have := h.len
  unfold Proofs.YtgmonagekfjnmaaDoor.mny
  omega
theorem rleft_loop (n : Nat × Nat) (hn : 1000 ≤ n.1) {sz : Int} {ps l : List Int} (h : Pln sz ps l) : ∀ (m k : Nat), (k : Int) ≤ mny l → mny l - k < m → DL19_1 n m sz ps l (k : Int) ((lf sz ps l).take k) = some (lf sz ps l, 0)
  | 0, k, _, hh => by omega
  | m + 1, k, hk, hh => by
    have hl := h.len
    have h8 := h.job.len
    have hm8 := h.mny
    have hll := lf_len sz ps l
    rw [DL19_1_succ]
    unfold DF19_1
    rw [many_eq hn (by omega) h.rng, Option.bind_some]
    by_cases hlt : (k : Int) < mny l
    · have hkl : k < (lf sz ps l).length := by omega
      have hu0 := usd_nn (s := (k : Int)) (ps := ps) (l := l) (fun p hp => by have := h.job.ok p hp; omega)
      have hu1 := usd_le (s := (k : Int)) (ps := ps) (l := l) (fun p hp => by have := h.job.ok p hp; have := h.job.hi; omega)
      have := h.job.lo
      have := h.job.hi
      rw [decide_eq_true hlt, cond_true, used_eq hn hl (by omega) (fun p hp => by have := h.job.ok p hp; omega), Option.bind_some, wr_ok (x := sz - usd ps l (k : Int)) (by omega) (by omega), lim_dec (by simp; omega), cond_true, wr_succ (by omega), ← lf_get hkl, ← take_snoc hkl]
      exact rleft_loop n hn h m (k + 1) (by omega) (by omega)
    · rw [decide_eq_false hlt, cond_false, List.take_of_length_le (by omega)]
theorem rLeft_eq {n : Nat × Nat} (hn : 1000 ≤ n.1) (sz : Int) (ps l : List Int) : D19 n sz ps l = some (shts sz ps l) := by
  unfold D19 shts
  rw [rValid_eq hn, Option.bind_some]
  by_cases h : vld sz ps l = 0
  · have hp := vld_pln.1 h
    rw [h, bne_self_eq_false, cond_false, if_neg (by simp)]
    have := hp.mny
    have := rleft_loop n hn hp n.1 0 (mny_nn l) (by omega)
    simpa using this
  · rw [show (vld sz ps l != 0) = true by simpa using h, cond_true, if_pos h]
/-- The groups of a plan. -/
def grps (sz : Int) (ps l : List Int) : List (List Int) × Int := if vld sz ps l ≠ 0 then ([], vld sz ps l) else (grp l (mny l).toNat, 0)
theorem Groups_eq {n : Nat × Nat} (hn : 1000 ≤ n.1) (sz : Int) (ps l : List Int) : D20 n sz ps l = some (grps sz ps l) := by
  unfold D20 HF20 grps
  rw [sheets_eq hn, Option.bind_some]
  unfold shts
  by_cases h : vld sz ps l = 0
  · have hp := vld_pln.1 h
    have := hp.mny
    have hll := lf_len sz ps l
    rw [h, if_neg (by simp), if_neg (by simp)]
    simp only [bne_self_eq_false, cond_false]
    have e : (lf sz ps l).length = (mny l).toNat := by omega
    rw [e, decide_eq_true (show (mny l).toNat ≤ 1000000 by omega), decide_eq_true (show l.length ≤ 1000000 by have := hp.len; have := hp.job.len; omega)]
    have : (l.all fun s => decide (0 ≤ s) && decide (s < (((mny l).toNat : Nat) : Int))) = true := List.all_eq_true.2 fun s hs => by
      have h1 := hp.rng s hs
      have h2 := mny_lt hs
      simp
      omega
    rw [this]
    rfl
  · rw [if_pos h, if_pos h]
    simp only [show (vld sz ps l != 0) = true by simpa using h, cond_true]
theorem rgrp_inner (n : Nat × Nat) (f1 : List Int → Int → List (List Int) → Option R21) {l : List Int} (hl : l.length ≤ 1000) (s : Int) (out : List (List Int)) (ho : out.length < 1000) : ∀ (m k : Nat), k ≤ l.length → l.length - k < m →
    DL21_2 n f1 m l s (k : Int) out (plc s 0 (l.take k)) = f1 l (wr .i64 (s + 1)) (out ++ [plc s 0 l])
  | 0, k, _, h => by omega
  | m + 1, k, hk, h => by
    rw [DL21_2_succ]
    unfold DF21_2
    by_cases hlt : k < l.length
    · have ih := rgrp_inner n f1 hl s out ho m (k + 1) (by omega) (by omega)
      have hs : plc s 0 (l.take (k + 1)) = plc s 0 (l.take k) ++ (if l[k] = s then [(k : Int)] else []) := by
        rw [take_snoc hlt, plc_app]
        simp only [plc, List.length_take, Nat.min_eq_left hk, Nat.zero_add]
      have hpl := plc_len s (l.take k) 0
      rw [List.length_take] at hpl
      rw [dlt_t hlt, cond_true, idx_nat hlt, Option.bind_some]
      unfold DL21_3
      by_cases e : l[k] = s
      · rw [if_pos e] at hs
        rw [show (l[k] == s) = true by simpa using e, cond_true, lim_dec (by omega), cond_true, wr_succ (by omega), ← hs]
        exact ih
      · rw [if_neg e, List.append_nil] at hs
        rw [show (l[k] == s) = false from beq_false_of_ne e, cond_false, wr_succ (by omega), ← hs]
        exact ih
    · rw [dlt_f hlt, cond_false, List.take_of_length_le (by omega), lim_dec (by omega), cond_true]
theorem rgrp_loop (n : Nat × Nat) (hn : 1000 ≤ n.1) {sz : Int} {ps l : List Int} (h : Pln sz ps l) : ∀ (m k : Nat), (k : Int) ≤ mny l → mny l - k < m → DL21_1 n m l (k : Int) ((grp l (mny l).toNat).take k) = some (grp l (mny l).toNat, 0)
  | 0, k, _, hh => by omega
  | m + 1, k, hk, hh => by
    have hl := h.len
    have h8 := h.job.len
    have hm8 := h.mny
    have hgl : (grp l (mny l).toNat).length = (mny l).toNat := by simp [grp]
    rw [DL21_1_succ]
    unfold DF21_1
    rw [many_eq hn (by omega) h.rng, Option.bind_some]
    by_cases hlt : (k : Int) < mny l
    · have hkl : k < (grp l (mny l).toNat).length := by omega
      have hg : (grp l (mny l).toNat)[k] = plc (k : Int) 0 l := by simp [grp]
      have := rgrp_inner n (DL21_1 n m) (l := l) (by omega) (k : Int) ((grp l (mny l).toNat).take k) (by simp; omega) n.1 0 (by omega) (by omega)
      rw [List.take_zero] at this
      rw [decide_eq_true hlt, cond_true]
      refine (show DL21_2 n (DL21_1 n m) n.1 l (k : Int) 0 _ [] = _ from this).trans ?_
      rw [← hg, ← take_snoc hkl, wr_succ (by omega)]
      exact rgrp_loop n hn h m (k + 1) (by omega) (by omega)
    · rw [decide_eq_false hlt, cond_false, List.take_of_length_le (by omega)]
theorem rGroups_eq {n : Nat × Nat} (hn : 1000 ≤ n.1) (sz : Int) (ps l : List Int) : D21 n sz ps l = some (grps sz ps l) := by
  unfold D21 grps
  rw [rValid_eq hn, Option.bind_some]
  by_cases h : vld sz ps l = 0
  · have hp := vld_pln.1 h
    rw [h, bne_self_eq_false, cond_false, if_neg (by simp)]
    have := hp.mny
    have := rgrp_loop n hn hp n.1 0 (mny_nn l) (by omega)
    simpa using this
  · rw [show (vld sz ps l != 0) = true by simpa using h, cond_true, if_pos h]
/-- The groups' numbers, put where their pieces are: an error, or none, and what there is. -/
def pin (g : Int) : List Int → List Int → Int × List Int
  | [], out => (0, out)
  | x :: r, out => if x < 0 ∨ (out.length : Int) ≤ x then (2, out) else if 0 ≤ out.getD x.toNat 0 then (6, out) else pin g r (out.set x.toNat g)
def pot : Int → List (List Int) → List Int → Int × List Int
  | _, [], out => (0, out)
  | g, l :: r, out => if l = [] then (5, out) else if (pin g l out).1 ≠ 0 then pin g l out else pot (g + 1) r (pin g l out).2
theorem pin_len (g : Int) : ∀ (l out : List Int), (pin g l out).2.length = out.length
  | [], out => rfl
  | x :: r, out => by
    unfold pin
    split
    · rfl
    · split
      · rfl
      · rw [pin_len g r, List.length_set]
theorem pot_len : ∀ (gs : List (List Int)) (g : Int) (out : List Int), (pot g gs out).2.length = out.length
  | [], _, _ => rfl
  | l :: r, g, out => by
    unfold pot
    split
    · rfl
    · split
      · exact pin_len g l out
      · rw [pot_len r, pin_len]
/-- Numbers by their first places. -/
def tid : List Int → List Int → List Int
  | _, [] => []
  | met, x :: l => if x ∈ met then fnd (fun y => x == y) 0 met :: tid met l else (met.length : Int) :: tid (met ++ [x]) l
theorem tid_len : ∀ (l met : List Int), (tid met l).length = l.length
  | [], _ => rfl
  | x :: l, met => by
    unfold tid
    split <;> simp [tid_len l]
/-- What the program makes of it. -/
def plnOut (sz : Int) (ps : List Int) (r : Int × List Int) : List Int × Int :=
  if r.1 ≠ 0 then ([], r.1) else if -1 ∈ r.2 then ([], 5) else if vld sz ps (tid [] r.2) ≠ 0 then ([], vld sz ps (tid [] r.2)) else (tid [] r.2, 0)
theorem plnOut_err {sz : Int} {ps : List Int} {r : Int × List Int} (h : r.1 ≠ 0) : plnOut sz ps r = ([], r.1) := if_pos h
theorem find_loop (n : Nat × Nat) (l : List Int) (v : Int) (hs : l.length < 1000) : ∀ (m k : Nat), k ≤ l.length → l.length - k < m → DL95_1 n m l v (l.length : Int) (k : Int) = some (fnd (fun y => v == y) k (l.drop k))
  | 0, k, _, h => by omega
  | m + 1, k, hk, h => by
    rw [DL95_1_succ]
    unfold DF95_1
    by_cases hlt : k < l.length
    · have ih := find_loop n l v hs m (k + 1) (by omega) (by omega)
      rw [dlt_t hlt, cond_true, idx_nat hlt, Option.bind_some, wr_succ (by omega), ih, drop_cons hlt]
      generalize l.drop (k + 1) = t at *
      generalize l[k] = x at *
      unfold fnd
      by_cases e : v = x
      · subst e
        simp
      · rw [show (v == x) = false from beq_false_of_ne e]
        simp only [cond_false, Bool.false_eq_true, if_false]
        cases t <;> rfl
    · rw [dlt_f hlt, cond_false, List.drop_of_length_le (by omega)]
      rfl
theorem find_eq {n : Nat × Nat} (hn : 1000 ≤ n.1) (l : List Int) (v : Int) (hs : l.length < 900) : D95 n l v = some (fnd (fun y => v == y) 0 l) := by
  unfold D95
  have := find_loop n l v (by omega) n.1 0 (by omega) (by omega)
  simpa using this
theorem fnd_mem (v : Int) (l : List Int) : (0 ≤ fnd (fun y => v == y) 0 l) ↔ v ∈ l := by
  rw [fnd_ge]
  simp
theorem contains_eq {n : Nat × Nat} (hn : 1000 ≤ n.1) (l : List Int) (v : Int) (hs : l.length < 900) : D70 n l v = some (decide (v ∈ l)) := by
  unfold D70
  rw [find_eq hn l v hs, Option.bind_some]
  congr 1
  exact decide_eq_decide.2 (fnd_mem v l)
theorem tid_loop (n : Nat × Nat) (hn : 1000 ≤ n.1) (l : List Int) (hs : l.length < 800) : ∀ (m k : Nat) (met out : List Int), k ≤ l.length → l.length - k < m → met.length ≤ k → out.length = k →
    DL71_1 n m l (l.length : Int) (k : Int) met out = some (out ++ tid met (l.drop k))
  | 0, k, _, _, _, h, _, _ => by omega
  | m + 1, k, met, out, hk, h, h1, h2 => by
    rw [DL71_1_succ]
    unfold DF71_1
    by_cases hlt : k < l.length
    · rw [dlt_t hlt, cond_true, idx_nat hlt, Option.bind_some, find_eq hn met _ (by omega), Option.bind_some, drop_cons hlt]
      have hm := fnd_mem l[k] met
      unfold tid
      by_cases e : l[k] ∈ met
      · have hf : ¬ fnd (fun y => l[k] == y) 0 met < 0 := Int.not_lt.2 (hm.2 e)
        rw [if_pos e, decide_eq_false hf, cond_false, lim_dec (by omega), cond_true, wr_succ (by omega), tid_loop n hn l hs m (k + 1) _ _ (by omega) (by omega) (by omega) (by simp; omega), List.append_assoc, List.singleton_append]
      · have hf : fnd (fun y => l[k] == y) 0 met < 0 := Int.not_le.1 (fun h => e (hm.1 h))
        rw [if_neg e, decide_eq_true hf, cond_true, lim_dec (by omega), cond_true, lim_dec (by omega), cond_true, wr_succ (by omega), tid_loop n hn l hs m (k + 1) _ _ (by omega) (by omega) (by simp; omega) (by simp; omega), List.append_assoc, List.singleton_append]
    · rw [dlt_f hlt, cond_false, List.drop_of_length_le (by omega)]
      simp [tid]
theorem tid_eq {n : Nat × Nat} (hn : 1000 ≤ n.1) (l : List Int) (hs : l.length < 800) : D71 n l = some (tid [] l) := by
  unfold D71
  have := tid_loop n hn l hs n.1 0 [] [] (by omega) (by omega) (by simp) (by simp)
  simpa using this
def pinK (K : List Int → Option R22) (r : Int × List Int) : Option R22 := if r.1 ≠ 0 then some ([], r.1) else K r.2
theorem pinK_err {K : List Int → Option R22} {r : Int × List Int} (h : r.1 ≠ 0) : pinK K r = some ([], r.1) := if_pos h
theorem pinK_ok {K : List Int → Option R22} {r : Int × List Int} (h : r.1 = 0) : pinK K r = K r.2 := if_neg (by simpa using h)
theorem pin_loop (n : Nat × Nat) (f1 : Int → List Int → List (List Int) → Int → Int → List Int → Option R22) (sz : Int) {ps : List Int} (g : Int) (v25 : List (List Int)) (v26 v27 : Int) (l : List Int) (hl : l.length < 1000) : ∀ (m k : Nat) (out : List Int), k ≤ l.length → l.length - k < m → out.length = ps.length →
    DL22_2 n f1 m sz ps g v25 v26 v27 l (l.length : Int) (k : Int) out = pinK (fun o => f1 sz ps v25 v26 (wr .i64 (v27 + 1)) o) (pin g (l.drop k) out)
  | 0, k, _, _, h, _ => by omega
  | m + 1, k, out, hk, h, ho => by
    rw [DL22_2_succ]
    unfold DF22_2
    by_cases hlt : k < l.length
    · have ih := fun out (ho : out.length = ps.length) => pin_loop n f1 sz g v25 v26 v27 l hl m (k + 1) out (by omega) (by omega) ho
      rw [dlt_t hlt, cond_true, idx_nat hlt, Option.bind_some, drop_cons hlt]
      unfold pin
      generalize l[k] = x at *
      by_cases e1 : x < 0
      · rw [if_pos (Or.inl e1), pinK_err (by simp), decide_eq_true e1]
        rfl
      · rw [decide_eq_false e1, ← ho]
        by_cases e2 : (out.length : Int) ≤ x
        · rw [if_pos (Or.inr e2), pinK_err (by simp), decide_eq_true (show x ≥ (out.length : Int) from e2)]
          rfl
        · rw [if_neg (by omega), decide_eq_false (show ¬ x ≥ (out.length : Int) from e2)]
          have hx : x = (x.toNat : Int) := by omega
          have hxl : x.toNat < out.length := by omega
          have hin : inB x out.length = true := by rw [hx]; exact inB_nat hxl
          simp only [beq_self_eq_true, cond_true, Option.bind_some, cond_false]
          rw [hin, cond_true, idx_int hx hxl, Option.bind_some, cond_true, Option.bind_some, List.getD_eq_getElem?_getD, List.getElem?_eq_getElem hxl, Option.getD_some]
          by_cases e3 : 0 ≤ out[x.toNat]
          · rw [if_pos e3, pinK_err (by simp), decide_eq_true (show out[x.toNat] ≥ 0 from e3)]
            rfl
          · rw [if_neg e3, decide_eq_false (show ¬ out[x.toNat] ≥ 0 from e3), cond_false, wr_succ (by omega), ih _ (by rw [List.length_set]; exact ho)]
    · rw [dlt_f hlt, cond_false, List.drop_of_length_le (by omega)]
      unfold pin
      rw [pinK_ok rfl]
theorem pot_loop (n : Nat × Nat) (hn : 1000 ≤ n.1) {sz : Int} {ps : List Int} (hj : Job sz ps) (gs : List (List Int)) (hs : gs.length ≤ 40) (hb : ∀ l ∈ gs, l.length ≤ 40) : ∀ (m k : Nat) (out : List Int), k ≤ gs.length → gs.length - k < m → out.length = ps.length →
    DL22_1 n m sz ps gs (gs.length : Int) (k : Int) out = some (plnOut sz ps (pot (k : Int) (gs.drop k) out))
  | 0, k, _, _, h, _ => by omega
  | m + 1, k, out, hk, h, ho => by
    have h8 := hj.len
    rw [DL22_1_succ]
    unfold DF22_1
    by_cases hlt : k < gs.length
    · have hlk := hb _ (List.getElem_mem hlt)
      have ih := fun out (ho : out.length = ps.length) => pot_loop n hn hj gs hs hb m (k + 1) out (by omega) (by omega) ho
      rw [dlt_t hlt, cond_true, idx_nat hlt, Option.bind_some, drop_cons hlt]
      unfold pot
      generalize gs[k] = l at *
      by_cases e1 : l = []
      · rw [if_pos e1, show ((l.length : Int) == 0) = true by simp [e1], cond_true, plnOut_err (by simp)]
      · have hl0 : l.length ≠ 0 := fun h => e1 (List.eq_nil_of_length_eq_zero h)
        have hp := pin_loop n (DL22_1 n m) sz (ps := ps) (k : Int) gs (gs.length : Int) (k : Int) l (by omega) n.1 0 out (by omega) (by omega) ho
        rw [List.drop_zero] at hp
        rw [if_neg e1, show ((l.length : Int) == 0) = false from beq_false_of_ne (by omega), cond_false]
        refine (show DL22_2 n (DL22_1 n m) n.1 sz ps (k : Int) gs (gs.length : Int) (k : Int) l (l.length : Int) 0 out = _ from hp).trans ?_
        by_cases e2 : (pin (k : Int) l out).1 = 0
        · rw [pinK_ok e2, if_neg (by simpa using e2), wr_succ (by omega), ih _ (by rw [pin_len]; exact ho)]
          rw [show ((k + 1 : Nat) : Int) = (k : Int) + 1 by omega]
        · rw [pinK_err e2, if_pos e2, plnOut_err e2]
    · rw [dlt_f hlt, cond_false, List.drop_of_length_le (by omega), contains_eq hn out _ (by omega), Option.bind_some]
      unfold pot plnOut
      rw [if_neg (by simp)]
      by_cases e1 : -1 ∈ out
      · rw [decide_eq_true e1, cond_true, if_pos e1]
      · rw [decide_eq_false e1, cond_false, if_neg e1, tid_eq hn out (by omega), Option.bind_some, Valid_eq hn, Option.bind_some]
        by_cases e2 : vld sz ps (tid [] out) = 0
        · rw [e2, bne_self_eq_false, cond_false, if_neg (by simp)]
        · rw [show (vld sz ps (tid [] out) != 0) = true by simpa using e2, cond_true, if_pos e2]
theorem rep_eq : ∀ k ≤ 8, D69 N [-1] ((k : Nat) : Int) = some (List.replicate k (-1))
  | 0, _ => by kernel_rfl
  | 1, _ => by kernel_rfl
  | 2, _ => by kernel_rfl
  | 3, _ => by kernel_rfl
  | 4, _ => by kernel_rfl
  | 5, _ => by kernel_rfl
  | 6, _ => by kernel_rfl
  | 7, _ => by kernel_rfl
  | 8, _ => by kernel_rfl
  | k + 9, h => by omega
def plnS (sz : Int) (ps : List Int) (gs : List (List Int)) : List Int × Int := if chk sz ps ≠ 0 then ([], chk sz ps) else plnOut sz ps (pot 0 gs (List.replicate ps.length (-1)))
theorem Plan_eq (sz : Int) (ps : List Int) (gs : List (List Int)) (hs : gs.length ≤ 40) (hb : ∀ l ∈ gs, l.length ≤ 40) : D22 N sz ps gs = some (plnS sz ps gs) := by
  unfold D22 plnS
  rw [Check_eq hN1, Option.bind_some]
  by_cases h : chk sz ps = 0
  · have hj := chk_job.1 h
    rw [h, bne_self_eq_false, cond_false, if_neg (by simp), rep_eq _ hj.len, Option.bind_some]
    have := pot_loop N hN1 hj gs hs hb N.1 0 (List.replicate ps.length (-1)) (by omega) (by have : N.1 = 1000000 := rfl; omega) (by simp)
    simpa using this
  · rw [show (chk sz ps != 0) = true by simpa using h, cond_true, if_pos h]
/-! Numbers by their first places. -/
def dd : List Int → List Int → List Int
  | met, [] => met
  | met, x :: l => dd (if x ∈ met then met else met ++ [x]) l
theorem dd_snoc (x : Int) : ∀ (l met : List Int), dd met (l ++ [x]) = if x ∈ dd met l then dd met l else dd met l ++ [x]
  | [], met => rfl
  | y :: l, met => dd_snoc x l _
theorem dd_pre : ∀ (l met : List Int), ∃ s, dd met l = met ++ s
  | [], met => ⟨[], by simp [dd]⟩
  | y :: l, met => by
    unfold dd
    obtain ⟨s, hs⟩ := dd_pre l (if y ∈ met then met else met ++ [y])
    split at hs
    · rename_i h
      exact ⟨s, by rw [if_pos h]; exact hs⟩
    · rename_i h
      exact ⟨y :: s, by rw [if_neg h, hs]; simp⟩
theorem dd_mem (x : Int) : ∀ (l met : List Int), x ∈ dd met l ↔ x ∈ met ∨ x ∈ l
  | [], met => by simp [dd]
  | y :: l, met => by
    unfold dd
    rw [dd_mem x l]
    split
    · rename_i h
      constructor
      · rintro (h1 | h1)
        · exact .inl h1
        · exact .inr (by simp [h1])
      · rintro (h1 | h1)
        · exact .inl h1
        · rcases List.mem_cons.1 h1 with rfl | h1
          · exact .inl h
          · exact .inr h1
    · simp only [List.mem_append, List.mem_cons, List.not_mem_nil, or_false, or_assoc]
def ps0 (x : Int) (l : List Int) : Int := fnd (fun y => x == y) 0 l
theorem fnd_app {x : Int} : ∀ {a : List Int} (b : List Int) (k : Nat), x ∈ a → fnd (fun y => x == y) k (a ++ b) = fnd (fun y => x == y) k a
  | [], _, _, h => by simp at h
  | y :: a, b, k, h => by
    simp only [List.cons_append, fnd]
    by_cases e : x = y
    · simp [e]
    · rw [if_neg (by simpa using e), if_neg (by simpa using e), fnd_app b (k + 1) ((List.mem_cons.1 h).resolve_left e)]
theorem fnd_new {x : Int} : ∀ {a : List Int} (b : List Int) (k : Nat), x ∉ a → fnd (fun y => x == y) k (a ++ x :: b) = k + a.length
  | [], b, k, _ => by simp [fnd]
  | y :: a, b, k, h => by
    simp only [List.mem_cons, not_or] at h
    simp only [List.cons_append, fnd]
    rw [if_neg (by simpa using h.1), fnd_new b (k + 1) h.2]
    simp only [List.length_cons]
    omega
theorem fnd_lt {x : Int} {a : List Int} (h : x ∈ a) : 0 ≤ ps0 x a ∧ ps0 x a < a.length := by
  unfold ps0
  have h1 := (fnd_mem x a).2 h
  rcases fnd_bnd (fun y => x == y) a 0 with ⟨h2, _⟩ | ⟨h2, h3, _⟩
  · omega
  · omega
theorem tid_map : ∀ (l met : List Int), tid met l = l.map fun x => ps0 x (dd met l)
  | [], met => rfl
  | x :: l, met => by
    unfold tid dd
    split
    · rename_i h
      rw [tid_map l, List.map_cons]
      congr 1
      obtain ⟨s, hs⟩ := dd_pre l met
      unfold ps0
      rw [hs, fnd_app s 0 h]
    · rename_i h
      rw [tid_map l, List.map_cons]
      congr 1
      obtain ⟨s, hs⟩ := dd_pre l (met ++ [x])
      unfold ps0
      rw [hs, List.append_assoc, List.singleton_append, fnd_new s 0 h]
      simp
theorem dd_take (l : List Int) : ∀ k, ∃ s, dd [] l = dd [] (l.take k) ++ s := fun k => by
  have : ∀ (a b met : List Int), dd met (a ++ b) = dd (dd met a) b := by
    intro a
    induction a with
    | nil => intro b met; rfl
    | cons y a ih => intro b met; exact ih b _
  have e := this (l.take k) (l.drop k) []
  rw [List.take_append_drop] at e
  rw [e]
  exact dd_pre _ _
theorem tid_mny (l : List Int) : ∀ k ≤ l.length, mny ((tid [] l).take k) = (dd [] (l.take k)).length
  | 0, _ => by simp [mny, dd]
  | k + 1, hk => by
    have ih := tid_mny l k (by omega)
    have hlt : k < l.length := by omega
    have hlt2 : k < (tid [] l).length := by rw [tid_len]; exact hlt
    rw [take_snoc hlt2, mny_snoc, ih, take_snoc hlt, dd_snoc]
    have e : (tid [] l)[k] = ps0 l[k] (dd [] l) := by simp [tid_map]
    rw [e]
    obtain ⟨s, hs⟩ := dd_take l k
    by_cases h : l[k] ∈ dd [] (l.take k)
    · rw [if_pos h]
      unfold ps0
      rw [hs, fnd_app s 0 h]
      have := fnd_lt h
      unfold ps0 at this
      omega
    · rw [if_neg h]
      obtain ⟨s2, hs2⟩ := dd_take l (k + 1)
      rw [take_snoc hlt, dd_snoc, if_neg h] at hs2
      unfold ps0
      rw [hs2, List.append_assoc, List.singleton_append, fnd_new s2 0 h]
      simp only [List.length_append, List.length_cons, List.length_nil]
      omega
/-- The next number is that of the same one before, or a new one. -/
theorem tid_old {l : List Int} {i j : Nat} (hi : i < l.length) (hj : j < l.length) (h : l[j] = l[i]) : (tid [] l)[j]'(by rw [tid_len]; exact hj) = (tid [] l)[i]'(by rw [tid_len]; exact hi) := by
  simp [tid_map, h]
theorem tid_first {l : List Int} {i : Nat} (hi : i < l.length) (h : ∀ j (hj : j < i), l[j]'(by omega) ≠ l[i]) : (tid [] l)[i]'(by rw [tid_len]; exact hi) = mny ((tid [] l).take i) := by
  rw [tid_mny l i (by omega)]
  have hn : l[i] ∉ dd [] (l.take i) := fun hm => by
    rw [dd_mem] at hm
    rcases hm with hm | hm
    · simp at hm
    · obtain ⟨j, hj, e⟩ := List.getElem_of_mem hm
      rw [List.length_take] at hj
      rw [List.getElem_take] at e
      exact h j (by omega) e
  obtain ⟨s2, hs2⟩ := dd_take l (i + 1)
  rw [take_snoc hi, dd_snoc, if_neg hn] at hs2
  have e : (tid [] l)[i]'(by rw [tid_len]; exact hi) = ps0 l[i] (dd [] l) := by simp [tid_map]
  rw [e]
  unfold ps0
  rw [hs2, List.append_assoc, List.singleton_append, fnd_new s2 0 hn]
  omega
/-! The reference's reading of groups. -/
def rin (P : Int) : List Int → List Int → Int × List Int
  | [], met => (0, met)
  | x :: r, met => if ¬ (0 ≤ x ∧ x ≤ P - 1) then (2, met ++ [x]) else if x ∈ met then (6, met ++ [x]) else rin P r (met ++ [x])
def rot (P : Int) : List (List Int) → List Int → Int × List Int
  | [], met => (0, met)
  | l :: r, met => if l = [] then (5, met) else if (rin P l met).1 ≠ 0 then rin P l met else rot P r (rin P l met).2
theorem has_loop (n : Nat × Nat) (l : List Int) (v : Int) (hs : l.length < 1000) : ∀ (m k : Nat), k ≤ l.length → l.length - k < m → DL73_1 n m l v (k : Int) = some (decide (v ∈ l.drop k))
  | 0, k, _, h => by omega
  | m + 1, k, hk, h => by
    rw [DL73_1_succ]
    unfold DF73_1
    by_cases hlt : k < l.length
    · have ih := has_loop n l v hs m (k + 1) (by omega) (by omega)
      rw [dlt_t hlt, cond_true, idx_nat hlt, Option.bind_some, wr_succ (by omega), ih, drop_cons hlt]
      generalize l.drop (k + 1) = t at *
      generalize l[k] = x at *
      by_cases e : x = v
      · rw [show (x == v) = true by simpa using e, cond_true]
        simp [e]
      · rw [show (x == v) = false from beq_false_of_ne e, cond_false]
        have : v ≠ x := fun h => e h.symm
        simp [this]
    · rw [dlt_f hlt, cond_false, List.drop_of_length_le (by omega)]
      simp
theorem has_eq {n : Nat × Nat} (hn : 1000 ≤ n.1) (l : List Int) (v : Int) (hs : l.length < 900) : D73 n l v = some (decide (v ∈ l)) := by
  unfold D73
  have := has_loop n l v (by omega) n.1 0 (by omega) (by omega)
  simpa using this
theorem rin_err (n : Nat × Nat) (f1 : Int → List Int → List (List Int) → Int → Int → List Int → Option R23) {sz : Int} {ps : List Int} {gs : List (List Int)} {g : Nat} (hg : g < gs.length) {e : Int} (he : e ≠ 0) (m : Nat) (k : Int) (met : List Int) :
    DL23_2 n f1 (m + 1) sz ps gs e (g : Int) k met = f1 sz ps gs e (wr .i64 ((g : Int) + 1)) met := by
  rw [DL23_2_succ]
  unfold DF23_2
  rw [idx_nat hg, Option.bind_some, show (e == 0) = false from beq_false_of_ne he]
  by_cases h : k < (gs[g].length : Int)
  · rw [decide_eq_true h]; rfl
  · rw [decide_eq_false h]; rfl
theorem rin_loop (n : Nat × Nat) (hn : 1000 ≤ n.1) (f1 : Int → List Int → List (List Int) → Int → Int → List Int → Option R23) {sz : Int} {ps : List Int} (hp : ps.length ≤ 8) {gs : List (List Int)} {g : Nat} (hg : g < gs.length) (hl : gs[g].length ≤ 40) :
    ∀ (m k : Nat) (met : List Int), k ≤ gs[g].length → gs[g].length - k + 1 < m → met.length + (gs[g].length - k) < 800 → DL23_2 n f1 m sz ps gs 0 (g : Int) (k : Int) met = f1 sz ps gs (rin ps.length (gs[g].drop k) met).1 (wr .i64 ((g : Int) + 1)) (rin ps.length (gs[g].drop k) met).2
  | 0, k, _, _, h, _ => by omega
  | m + 1, k, met, hk, h, hm => by
    obtain ⟨q, hq⟩ : ∃ q, m = q + 1 := ⟨m - 1, by omega⟩
    rw [DL23_2_succ]
    unfold DF23_2
    by_cases hlt : k < gs[g].length
    · have ih := fun met hm => rin_loop n hn f1 (sz := sz) hp hg hl m (k + 1) met (by omega) (by omega) hm
      rw [idx_nat hg, Option.bind_some, dlt_t hlt]
      simp only [beq_self_eq_true, cond_true, Option.bind_some]
      rw [idx_nat hlt, Option.bind_some, Option.bind_some, Option.bind_some, Option.bind_some, in_eq, Option.bind_some, wr_ok (x := (ps.length : Int) - 1) (by omega) (by omega), drop_cons hlt, wr_succ (k := k) (by omega)]
      unfold rin
      generalize hx : gs[g][k] = x at *
      by_cases e1 : 0 ≤ x ∧ x ≤ (ps.length : Int) - 1
      · rw [decide_eq_true e1, Bool.not_true, cond_false, if_neg (by simpa using e1), has_eq hn met x (by omega), Option.bind_some]
        by_cases e2 : x ∈ met
        · rw [decide_eq_true e2, cond_true, if_pos e2, lim_dec (by omega), cond_true, hq, rin_err n f1 hg (by omega)]
        · rw [decide_eq_false e2, cond_false, if_neg e2, Option.bind_some, lim_dec (by omega), cond_true, ih _ (by simp; omega)]
      · rw [decide_eq_false e1, Bool.not_false, cond_true, if_pos e1, lim_dec (by omega), cond_true, hq, rin_err n f1 hg (by omega)]
    · rw [idx_nat hg, Option.bind_some, dlt_f hlt, List.drop_of_length_le (by omega)]
      rfl
theorem sub_len : ∀ {a b : List Int}, a.Nodup → (∀ x ∈ a, x ∈ b) → a.length ≤ b.length
  | [], _, _, _ => by simp
  | x :: a, b, hn, h => by
    rw [List.nodup_cons] at hn
    have hp := List.perm_cons_erase (h x (by simp))
    have := sub_len (b := b.erase x) hn.2 (fun y hy => (List.mem_erase_of_ne (fun e => hn.1 (by rw [← e]; exact hy))).2 (h y (by simp [hy])))
    have e := hp.length_eq
    simp only [List.length_cons] at e ⊢
    omega
/-- What has been read of groups: where each piece is, and which have been met. -/
structure Rd (P : Nat) (pre : List (List Int)) (out met : List Int) : Prop where
  len : out.length = P
  rng : ∀ x ∈ met, 0 ≤ x ∧ x < P
  nodup : met.Nodup
  pos : ∀ i (h : i < out.length), 0 ≤ out[i] ↔ (i : Int) ∈ met
  no : ∀ i (h : i < out.length), ¬ 0 ≤ out[i] → out[i] = -1
  lt : ∀ i (h : i < out.length), out[i] < pre.length
  grp : ∀ i (h : i < out.length) j (hj : j < pre.length), (i : Int) ∈ pre[j] ↔ out[i] = j
theorem Rd.start (P : Nat) : Rd P [] (List.replicate P (-1)) [] := ⟨by simp, by simp, by simp, by simp, by simp, by simp, by simp⟩
theorem Rd.open {P : Nat} {pre : List (List Int)} {out met : List Int} (h : Rd P pre out met) : Rd P (pre ++ [[]]) out met := by
  refine ⟨h.len, h.rng, h.nodup, h.pos, h.no, fun i hi => ?_, fun i hi j hj => ?_⟩
  · have := h.lt i hi; simp; omega
  · simp only [List.length_append, List.length_cons, List.length_nil] at hj
    by_cases e : j < pre.length
    · rw [List.getElem_append_left e]; exact h.grp i hi j e
    · have e : j = pre.length := by omega
      subst e
      have := h.lt i hi
      simp
      omega
theorem Rd.step {P : Nat} {pre : List (List Int)} {q out met : List Int} (h : Rd P (pre ++ [q]) out met) {x : Int} (h0 : 0 ≤ x) (h1 : x < P) (hn : x ∉ met) : Rd P (pre ++ [q ++ [x]]) (out.set x.toNat (pre.length : Int)) (met ++ [x]) := by
  have hl := h.len
  have hx : ∀ i : Nat, x.toNat = i ↔ x = (i : Int) := fun i => by omega
  refine ⟨by simp [hl], fun y hy => ?_, ?_, fun i hi => ?_, fun i hi => ?_, fun i hi => ?_, fun i hi j hj => ?_⟩
  · rcases List.mem_append.1 hy with hy | hy
    · exact h.rng y hy
    · simp at hy; omega
  · rw [List.nodup_append]
    refine ⟨h.nodup, by simp, fun a ha b hb e => ?_⟩
    simp at hb
    subst hb
    subst e
    exact hn ha
  · rw [List.length_set] at hi
    rw [List.getElem_set]
    by_cases e : x.toNat = i
    · rw [if_pos e]
      have := (hx i).1 e
      simp [this]
    · rw [if_neg e, h.pos i hi]
      have : ¬ (i : Int) = x := fun e2 => e ((hx i).2 e2.symm)
      simp [this]
  · rw [List.length_set] at hi
    rw [List.getElem_set]
    by_cases e : x.toNat = i
    · rw [if_pos e]; intro hh; omega
    · rw [if_neg e]; exact h.no i hi
  · rw [List.length_set] at hi
    rw [List.getElem_set]
    have := h.lt i hi
    simp only [List.length_append, List.length_cons, List.length_nil] at this ⊢
    split <;> omega
  · rw [List.length_set] at hi
    rw [List.getElem_set]
    simp only [List.length_append, List.length_cons, List.length_nil] at hj
    have hg := h.grp i hi j (by simp; omega)
    have hold : x.toNat = i → out[i] = -1 := fun e => h.no i hi (fun hh => hn (by rw [(hx i).1 e]; exact (h.pos i hi).1 hh))
    by_cases ej : j < pre.length
    · rw [List.getElem_append_left ej] at hg ⊢
      rw [hg]
      by_cases e : x.toNat = i
      · rw [if_pos e, hold e]; omega
      · rw [if_neg e]
    · have ej : j = pre.length := by omega
      subst ej
      simp only [List.getElem_concat_length] at hg ⊢
      rw [List.mem_append, hg]
      by_cases e : x.toNat = i
      · rw [if_pos e]
        simp [(hx i).1 e]
      · rw [if_neg e]
        have : ¬ (i : Int) = x := fun e2 => e ((hx i).2 e2.symm)
        simp [this]
theorem pin_rin {P : Nat} (pre : List (List Int)) : ∀ (l q out met : List Int), Rd P (pre ++ [q]) out met → (pin (pre.length : Int) l out).1 = (rin P l met).1 ∧ ((pin (pre.length : Int) l out).1 = 0 → Rd P (pre ++ [q ++ l]) (pin (pre.length : Int) l out).2 (rin P l met).2)
  | [], q, out, met, h => by
    refine ⟨rfl, fun _ => ?_⟩
    rw [List.append_nil]
    exact h
  | x :: l, q, out, met, h => by
    have hl := h.len
    unfold pin rin
    by_cases e1 : 0 ≤ x ∧ x ≤ (P : Int) - 1
    · rw [if_neg (show ¬ (x < 0 ∨ (out.length : Int) ≤ x) by omega), if_neg (show ¬ ¬ (0 ≤ x ∧ x ≤ (P : Int) - 1) by omega)]
      have hxl : x.toNat < out.length := by omega
      have hp := h.pos x.toNat hxl
      rw [show ((x.toNat : Nat) : Int) = x by omega] at hp
      rw [List.getD_eq_getElem?_getD, List.getElem?_eq_getElem hxl, Option.getD_some]
      by_cases e2 : x ∈ met
      · rw [if_pos (hp.2 e2), if_pos e2]
        exact ⟨rfl, fun h => by simp at h⟩
      · rw [if_neg (fun h => e2 (hp.1 h)), if_neg e2]
        have := pin_rin pre l (q ++ [x]) _ _ (h.step e1.1 (by omega) e2)
        rwa [List.append_assoc, List.singleton_append] at this
    · rw [if_pos (show x < 0 ∨ (out.length : Int) ≤ x by omega), if_pos e1]
      exact ⟨rfl, fun h => by simp at h⟩
theorem pot_rot {P : Nat} : ∀ (gs pre : List (List Int)) (out met : List Int), Rd P pre out met → (pot (pre.length : Int) gs out).1 = (rot P gs met).1 ∧ ((pot (pre.length : Int) gs out).1 = 0 → Rd P (pre ++ gs) (pot (pre.length : Int) gs out).2 (rot P gs met).2)
  | [], pre, out, met, h => by
    refine ⟨rfl, fun _ => ?_⟩
    rw [List.append_nil]
    exact h
  | l :: gs, pre, out, met, h => by
    unfold pot rot
    by_cases e1 : l = []
    · rw [if_pos e1, if_pos e1]
      exact ⟨rfl, fun h => by simp at h⟩
    · rw [if_neg e1, if_neg e1]
      obtain ⟨h1, h2⟩ := pin_rin pre l [] out met h.open
      rw [List.nil_append] at h2
      by_cases e2 : (rin P l met).1 = 0
      · rw [if_neg (show ¬ (pin (pre.length : Int) l out).1 ≠ 0 by rw [h1]; simpa using e2), if_neg (by simpa using e2)]
        have := pot_rot gs (pre ++ [l]) _ _ (h2 (h1.trans e2))
        rw [List.length_append, List.append_assoc, List.singleton_append] at this
        simpa using this
      · rw [if_pos (show (pin (pre.length : Int) l out).1 ≠ 0 by rw [h1]; exact e2), if_pos e2]
        exact ⟨h1, fun h => absurd (h1.symm.trans h) e2⟩
theorem Rd.full {P : Nat} {pre : List (List Int)} {out met : List Int} (h : Rd P pre out met) : -1 ∈ out ↔ met.length ≠ P := by
  have hl := h.len
  have hle : met.length ≤ P := by
    have := sub_len (b := (List.range P).map fun i : Nat => (i : Int)) h.nodup (fun x hx => by
      have := h.rng x hx
      exact List.mem_map.2 ⟨x.toNat, by simp; omega, by omega⟩)
    simpa using this
  constructor
  · intro hm he
    obtain ⟨i, hi, e⟩ := List.getElem_of_mem hm
    have hni : (i : Int) ∉ met := fun hh => by have := (h.pos i hi).2 hh; omega
    have := sub_len (a := (i : Int) :: met) (b := (List.range P).map fun i : Nat => (i : Int)) (List.nodup_cons.2 ⟨hni, h.nodup⟩) (fun x hx => by
      rcases List.mem_cons.1 hx with rfl | hx
      · exact List.mem_map.2 ⟨i, by simp; omega, rfl⟩
      · have := h.rng x hx
        exact List.mem_map.2 ⟨x.toNat, by simp; omega, by omega⟩)
    simp at this
    omega
  · intro hne
    apply Classical.byContradiction
    intro hm
    have hall : ∀ i (hi : i < out.length), (i : Int) ∈ met := fun i hi => Classical.byContradiction fun hh => hm (by
      have := h.no i hi (fun h0 => hh ((h.pos i hi).1 h0))
      rw [← this]
      exact List.getElem_mem hi)
    have := sub_len (a := (List.range P).map fun i : Nat => (i : Int)) (b := met) (List.Pairwise.map _ (fun a b hab e => hab (by omega)) (List.nodup_range)) (fun x hx => by
      obtain ⟨i, hi, e⟩ := List.mem_map.1 hx
      rw [← e]
      exact hall i (by simp at hi; omega))
    simp at this
    omega
/-! The reference puts pieces of one group together. -/
theorem tg_inner (n : Nat × Nat) (hn : 1000 ≤ n.1) (f1 : List Int → List (List Int) → Int → List Int → Option R74) (f2 : List Int → List (List Int) → Int → Int → Int → List Int → Option R74) (ps : List Int) {gs : List (List Int)} (hs : gs.length ≤ 40) (hb : ∀ l ∈ gs, l.length ≤ 40) (i k : Nat) (o : List Int) (hk : k < o.length) :
    ∀ (m g : Nat) (sh : Int), g ≤ gs.length → gs.length - g < m → DL74_3 n f1 f2 m ps gs (i : Int) sh (k : Int) (g : Int) o = f2 ps gs (i : Int) (if ∃ l ∈ gs.drop g, (i : Int) ∈ l ∧ (k : Int) ∈ l then o[k] else sh) (wr .i64 ((k : Int) + 1)) o
  | 0, g, _, _, h => by omega
  | m + 1, g, sh, hg, h => by
    rw [DL74_3_succ]
    unfold DF74_3
    by_cases hlt : g < gs.length
    · have hl := hb _ (List.getElem_mem hlt)
      have ih := fun sh => tg_inner n hn f1 f2 ps hs hb i k o hk m (g + 1) sh (by omega) (by omega)
      rw [dlt_t hlt, cond_true, idx_nat hlt, Option.bind_some, has_eq hn _ _ (by omega), Option.bind_some, Option.bind_some, has_eq hn _ _ (by omega), Option.bind_some, drop_cons hlt, inB_nat hk, cond_true, idx_nat hk, Option.bind_some]
      unfold DL74_4
      rw [wr_succ (k := g) (by omega), ih, ih]
      generalize gs.drop (g + 1) = t at *
      generalize gs[g] = l at *
      by_cases e1 : (i : Int) ∈ l
      · rw [decide_eq_true e1]
        simp only [beq_self_eq_true, cond_true, Option.bind_some]
        by_cases e2 : (k : Int) ∈ l
        · rw [decide_eq_true e2, cond_true, if_pos (c := ∃ l' ∈ l :: t, (i : Int) ∈ l' ∧ (k : Int) ∈ l') ⟨l, by simp, e1, e2⟩]
          congr 1
          split <;> rfl
        · rw [decide_eq_false e2, cond_false]
          congr 1
          simp [e2]
      · rw [decide_eq_false e1]
        simp only [show (false == true) = false from rfl, cond_false, Option.bind_some]
        congr 1
        simp [e1]
    · rw [dlt_f hlt, cond_false, List.drop_of_length_le (by omega)]
      congr 1
theorem tg_mid (n : Nat × Nat) (hn : 1000 ≤ n.1) (f1 : List Int → List (List Int) → Int → List Int → Option R74) (ps : List Int) {gs : List (List Int)} (hs : gs.length ≤ 40) (hb : ∀ l ∈ gs, l.length ≤ 40) {out met : List Int} {P : Nat} (hr : Rd P gs out met) (hP : P ≤ 8) (hfull : ∀ i (h : i < out.length), 0 ≤ out[i]) (i : Nat) (hi : i < out.length) (o : List Int) (ho : o.length = i) (v : Int) (hv : ∀ j (hj : j < i), out[j]'(by omega) = out[i] → o[j]'(by omega) = v) :
    ∀ (m k : Nat) (sh : Int), k ≤ i → i - k < m → DL74_2 n f1 m ps gs (i : Int) sh (k : Int) o = f1 ps gs (wr .i64 ((i : Int) + 1)) (o ++ [if ∃ j, ∃ hj : j < i, k ≤ j ∧ out[j]'(by omega) = out[i] then v else sh])
  | 0, k, _, _, h => by omega
  | m + 1, k, sh, hk, h => by
    have hl := hr.len
    rw [DL74_2_succ]
    unfold DF74_2
    by_cases hlt : k < i
    · have ih := fun sh => tg_mid n hn f1 ps hs hb hr hP hfull i hi o ho v hv m (k + 1) sh (by omega) (by omega)
      rw [dlt_t hlt, cond_true]
      have := tg_inner n hn f1 (DL74_2 n f1 m) ps hs hb i k o (by omega) n.1 0 sh (by omega) (by omega)
      rw [List.drop_zero] at this
      refine (show DL74_3 n f1 (DL74_2 n f1 m) n.1 ps gs (i : Int) sh (k : Int) 0 o = _ from this).trans ?_
      rw [wr_succ (by omega), ih]
      have hiff : (∃ l ∈ gs, (i : Int) ∈ l ∧ (k : Int) ∈ l) ↔ out[k]'(by omega) = out[i] := by
        constructor
        · rintro ⟨l, hlm, h1, h2⟩
          obtain ⟨j, hj, e⟩ := List.getElem_of_mem hlm
          rw [← e] at h1 h2
          rw [(hr.grp i hi j hj).1 h1, (hr.grp k (by omega) j hj).1 h2]
        · intro e
          have h0 := hfull i hi
          have h1 := hr.lt i hi
          have hj : out[i].toNat < gs.length := by omega
          refine ⟨gs[out[i].toNat], List.getElem_mem hj, (hr.grp i hi _ hj).2 (by omega), (hr.grp k (by omega) _ hj).2 (by rw [e]; omega)⟩
      congr 3
      by_cases e : out[k]'(by omega) = out[i]
      · rw [if_pos (hiff.2 e), hv k hlt e, if_pos (c := ∃ j, ∃ hj : j < i, k ≤ j ∧ out[j]'(by omega) = out[i]) ⟨k, hlt, by omega, e⟩]
        split <;> rfl
      · rw [if_neg (fun h => e (hiff.1 h))]
        by_cases c : ∃ j, ∃ hj : j < i, k + 1 ≤ j ∧ out[j]'(by omega) = out[i]
        · obtain ⟨j, hj, h1, h2⟩ := c
          rw [if_pos ⟨j, hj, h1, h2⟩, if_pos ⟨j, hj, by omega, h2⟩]
        · rw [if_neg c, if_neg]
          rintro ⟨j, hj, h1, h2⟩
          by_cases e3 : j = k
          · subst e3; exact e h2
          · exact c ⟨j, hj, by omega, h2⟩
    · rw [dlt_f hlt, cond_false, lim_dec (by omega), cond_true]
      congr 3
      rw [if_neg]
      rintro ⟨j, hj, h1, _⟩
      omega
theorem tg_loop (n : Nat × Nat) (hn : 1000 ≤ n.1) (ps : List Int) {gs : List (List Int)} (hs : gs.length ≤ 40) (hb : ∀ l ∈ gs, l.length ≤ 40) {out met : List Int} (hr : Rd ps.length gs out met) (hP : ps.length ≤ 8) (hfull : ∀ i (h : i < out.length), 0 ≤ out[i]) : ∀ (m i : Nat), i ≤ out.length → out.length - i < m →
    DL74_1 n m ps gs (i : Int) ((tid [] out).take i) = some (tid [] out)
  | 0, i, _, h => by omega
  | m + 1, i, hi, h => by
    have hl := hr.len
    have htl := tid_len out []
    rw [DL74_1_succ]
    unfold DF74_1
    by_cases hlt : i < out.length
    · have hrng : ∀ x ∈ (tid [] out).take i, 0 ≤ x ∧ x ≤ 100000 := fun x hx => by
        have hx := List.mem_of_mem_take hx
        rw [tid_map] at hx
        obtain ⟨y, hy, e⟩ := List.mem_map.1 hx
        have h1 := fnd_lt ((dd_mem y out []).2 (.inr hy))
        have h2 := tid_mny out out.length (by omega)
        rw [List.take_of_length_le (by omega), List.take_length] at h2
        have h3 : mny (tid [] out) ≤ 8 := by
          have : ∀ (l : List Int), ((dd [] l).length : Int) ≤ l.length := by
            intro l
            have : ∀ (l met : List Int), (dd met l).length ≤ met.length + l.length := by
              intro l
              induction l with
              | nil => intro met; simp [dd]
              | cons y l ih =>
                intro met
                unfold dd
                have := ih (if y ∈ met then met else met ++ [y])
                split at this
                · rename_i hh; rw [if_pos hh]; simp only [List.length_cons]; omega
                · rename_i hh; rw [if_neg hh]; simp only [List.length_append, List.length_cons, List.length_nil] at this ⊢; omega
            have := this l []
            simp at this
            omega
          have := this out
          omega
        omega
      rw [← hl, dlt_t hlt, cond_true, many_eq hn (by simp; omega) hrng, Option.bind_some]
      have hlt2 : i < (tid [] out).length := by omega
      have := tg_mid n hn (DL74_1 n m) ps hs hb hr hP hfull i hlt ((tid [] out).take i) (by simp; omega) ((tid [] out)[i]) (fun j hj e => by
        rw [List.getElem_take]
        exact tid_old hlt (by omega) e) n.1 0 (mny ((tid [] out).take i)) (by omega) (by omega)
      refine (show DL74_2 n (DL74_1 n m) n.1 ps gs (i : Int) _ 0 _ = _ from this).trans ?_
      rw [wr_succ (by omega)]
      have hv : (if ∃ j, ∃ hj : j < i, 0 ≤ j ∧ out[j]'(by omega) = out[i] then (tid [] out)[i] else mny ((tid [] out).take i)) = (tid [] out)[i] := by
        by_cases c : ∃ j, ∃ hj : j < i, 0 ≤ j ∧ out[j]'(by omega) = out[i]
        · rw [if_pos c]
        · rw [if_neg c]
          exact (tid_first hlt (fun j hj e => c ⟨j, hj, by omega, e⟩)).symm
      rw [hv, ← take_snoc hlt2]
      exact tg_loop n hn ps hs hb hr hP hfull m (i + 1) (by omega) (by omega)
    · rw [← hl, dlt_f hlt, cond_false, List.take_of_length_le (by omega)]
def rOut (sz : Int) (ps : List Int) (gs : List (List Int)) (out : List Int) (r : Int × List Int) : List Int × Int :=
  if r.1 ≠ 0 then ([], r.1) else if r.2.length ≠ ps.length then ([], 5) else if vld sz ps (tid [] out) ≠ 0 then ([], vld sz ps (tid [] out)) else (tid [] out, 0)
theorem rOut_err {sz : Int} {ps out : List Int} {gs : List (List Int)} {r : Int × List Int} (h : r.1 ≠ 0) : rOut sz ps gs out r = ([], r.1) := if_pos h
theorem rot_end (n : Nat × Nat) {sz : Int} {ps out : List Int} {gs : List (List Int)} {e : Int} (he : e ≠ 0) (m : Nat) (g : Int) (met : List Int) : DL23_1 n (m + 1) sz ps gs e g met = some (rOut sz ps gs out (e, met)) := by
  rw [DL23_1_succ]
  unfold DF23_1
  rw [rOut_err (show ((e, met) : Int × List Int).1 ≠ 0 from he), show (e == 0) = false from beq_false_of_ne he]
  have h2 : (e != 0) = true := by simpa using he
  by_cases h : g < (gs.length : Int)
  · rw [decide_eq_true h]
    simp only [beq_self_eq_true, cond_true, Option.bind_some, cond_false, h2, show (false == true) = false from rfl]
  · rw [decide_eq_false h]
    simp only [cond_true, Option.bind_some, cond_false, h2, show (false == true) = false from rfl]
theorem Rd.le {P : Nat} {pre : List (List Int)} {out met : List Int} (h : Rd P pre out met) : met.length ≤ P := by
  have := sub_len (b := (List.range P).map fun i : Nat => (i : Int)) h.nodup (fun x hx => by
    have := h.rng x hx
    exact List.mem_map.2 ⟨x.toNat, by simp; omega, by omega⟩)
  simpa using this
theorem rot_loop (n : Nat × Nat) (hn : 1000 ≤ n.1) {sz : Int} {ps : List Int} (hj : Job sz ps) {gs : List (List Int)} (hs : gs.length ≤ 40) (hb : ∀ l ∈ gs, l.length ≤ 40) :
    ∀ (m k : Nat) (out met : List Int), k ≤ gs.length → gs.length - k + 1 < m → Rd ps.length (gs.take k) out met →
    DL23_1 n m sz ps gs 0 (k : Int) met = some (rOut sz ps gs (pot (k : Int) (gs.drop k) out).2 (rot ps.length (gs.drop k) met))
  | 0, k, _, _, _, h, _ => by omega
  | m + 1, k, out, met, hk, h, hr => by
    have h8 := hj.len
    have hle := hr.le
    have hl := hr.len
    obtain ⟨q, hq⟩ : ∃ q, m = q + 1 := ⟨m - 1, by omega⟩
    rw [DL23_1_succ]
    unfold DF23_1
    by_cases hlt : k < gs.length
    · have hlk := hb _ (List.getElem_mem hlt)
      rw [dlt_t hlt]
      simp only [beq_self_eq_true, cond_true, Option.bind_some]
      rw [idx_nat hlt, Option.bind_some, drop_cons hlt]
      by_cases e1 : gs[k] = []
      · obtain ⟨q2, hq2⟩ : ∃ q2, n.1 = q2 + 1 := ⟨n.1 - 1, by omega⟩
        rw [show ((gs[k].length : Int) == 0) = true by simp [e1], cond_true, hq2, rin_err n _ hlt (by omega), hq, rot_end n (out := out) (by omega)]
        unfold rot
        rw [if_pos e1, rOut_err (by simp), rOut_err (by simp)]
      · have hl0 : gs[k].length ≠ 0 := fun h => e1 (List.eq_nil_of_length_eq_zero h)
        have := rin_loop n hn (DL23_1 n m) (sz := sz) (ps := ps) h8 hlt hlk n.1 0 met (by omega) (by omega) (by omega)
        rw [List.drop_zero] at this
        rw [show ((gs[k].length : Int) == 0) = false from beq_false_of_ne (by omega), cond_false]
        refine (show DL23_2 n (DL23_1 n m) n.1 sz ps gs 0 (k : Int) 0 met = _ from this).trans ?_
        have htk : (gs.take k).length = k := by simp; omega
        obtain ⟨g1, g2⟩ := pin_rin (gs.take k) gs[k] [] out met hr.open
        rw [htk] at g1 g2
        rw [List.nil_append] at g2
        by_cases e2 : (rin ps.length gs[k] met).1 = 0
        · have hr2 := g2 (g1.trans e2)
          rw [← take_snoc hlt] at hr2
          rw [e2, wr_succ (by omega), rot_loop n hn hj hs hb m (k + 1) _ _ (by omega) (by omega) hr2]
          have er : rot (ps.length : Int) (gs[k] :: gs.drop (k + 1)) met = rot ps.length (gs.drop (k + 1)) (rin ps.length gs[k] met).2 := by
            conv => lhs; unfold rot
            rw [if_neg e1, if_neg (by simpa using e2)]
          have ep : pot (k : Int) (gs[k] :: gs.drop (k + 1)) out = pot ((k + 1 : Nat) : Int) (gs.drop (k + 1)) (pin (k : Int) gs[k] out).2 := by
            conv => lhs; unfold pot
            rw [if_neg e1, if_neg (show ¬ (pin (k : Int) gs[k] out).1 ≠ 0 by rw [g1]; simpa using e2)]
            rfl
          rw [er, ep]
        · rw [hq, rot_end n (out := out) e2]
          have er : rot (ps.length : Int) (gs[k] :: gs.drop (k + 1)) met = rin ps.length gs[k] met := by
            conv => lhs; unfold rot
            rw [if_neg e1, if_pos e2]
          rw [er, rOut_err e2, rOut_err e2]
    · have e : k = gs.length := by omega
      subst e
      rw [List.take_length] at hr
      have hf := hr.full
      rw [dlt_f hlt, List.drop_length]
      simp only [show (false == true) = false from rfl, cond_false, Option.bind_some, beq_self_eq_true, cond_true]
      unfold rot pot rOut
      rw [if_neg (by simp)]
      by_cases e1 : met.length = ps.length
      · rw [show ((met.length : Int) != (ps.length : Int)) = false by simp [e1], cond_false, if_neg (by simpa using e1)]
        have hfull : ∀ i (h : i < out.length), 0 ≤ out[i] := fun i hi => Classical.byContradiction fun hh => hf.1 (by
          have := hr.no i hi hh
          rw [← this]
          exact List.getElem_mem hi) e1
        have ht := tg_loop n hn ps hs hb hr h8 hfull n.1 0 (by omega) (by omega)
        rw [List.take_zero] at ht
        have ht : D74 n ps gs = some (tid [] out) := ht
        simp only [bne_self_eq_false, cond_false]
        rw [ht, Option.bind_some, rValid_eq hn, Option.bind_some]
        by_cases e2 : vld sz ps (tid [] out) = 0
        · rw [e2, bne_self_eq_false, cond_false, if_neg (by simp)]
        · rw [show (vld sz ps (tid [] out) != 0) = true by simpa using e2, cond_true, if_pos e2]
      · rw [show ((met.length : Int) != (ps.length : Int)) = true by simpa using (by omega : (met.length : Int) ≠ ps.length), cond_true, if_pos e1]
        rfl
theorem rPlan_eq {n : Nat × Nat} (hn : 1000 ≤ n.1) (sz : Int) (ps : List Int) (gs : List (List Int)) (hs : gs.length ≤ 40) (hb : ∀ l ∈ gs, l.length ≤ 40) : D23 n sz ps gs = some (plnS sz ps gs) := by
  unfold D23 plnS
  rw [rCheck_eq hn, Option.bind_some]
  by_cases h : chk sz ps = 0
  · have hj := chk_job.1 h
    rw [h, if_neg (by simp)]
    have := rot_loop n hn hj hs hb n.1 0 (List.replicate ps.length (-1)) [] (by omega) (by omega) (by rw [List.take_zero]; exact Rd.start _)
    rw [List.drop_zero] at this
    refine (show DL23_1 n n.1 sz ps gs 0 0 [] = _ from this).trans ?_
    congr 1
    obtain ⟨g1, g2⟩ := pot_rot gs [] (List.replicate ps.length (-1)) [] (Rd.start ps.length)
    have g1 : (pot 0 gs (List.replicate ps.length (-1))).1 = (rot ps.length gs []).1 := g1
    have g2 : (pot 0 gs (List.replicate ps.length (-1))).1 = 0 → Rd ps.length gs (pot 0 gs (List.replicate ps.length (-1))).2 (rot ps.length gs []).2 := g2
    rw [show ((0 : Nat) : Int) = 0 from rfl]
    unfold rOut plnOut
    rw [← g1]
    by_cases e : (pot 0 gs (List.replicate ps.length (-1))).1 = 0
    · have hc : ¬ (pot 0 gs (List.replicate ps.length (-1))).1 ≠ 0 := by simpa using e
      rw [if_neg hc, if_neg hc]
      have hf := (g2 e).full
      by_cases e2 : (rot (ps.length : Int) gs []).2.length = ps.length
      · have h2 : ¬ (rot (ps.length : Int) gs []).2.length ≠ ps.length := by simpa using e2
        rw [if_neg h2, if_neg (fun h => hf.1 h e2)]
      · rw [if_pos e2, if_pos (hf.2 e2)]
    · rw [if_pos e, if_pos e]
  · obtain ⟨q, hq⟩ : ∃ q, n.1 = q + 1 := ⟨n.1 - 1, by omega⟩
    rw [if_pos h, hq, rot_end n (out := []) h, rOut_err (by exact h)]
theorem mem_grp_len {l : List Int} {n : Nat} : ∀ q ∈ grp l n, q.length ≤ l.length := fun q hq => by
  unfold grp at hq
  obtain ⟨s, hs, e⟩ := List.mem_map.1 hq
  rw [← e]
  exact plc_len _ _ _
theorem plans_ok (sz : Int) (ps l : List Int) (gs : List (List Int)) : S3 N sz ps l gs = some true := by
  rw [S3_D N rfl]
  unfold D3
  have w := works_eq
  by_cases h1 : 40 < ps.length
  · rw [decide_eq_true (show (ps.length : Int) > 40 by omega)]
    simp only [show (true == false) = false from rfl, cond_false, cond_true, Option.bind_some, w]
  · rw [decide_eq_false (show ¬ (ps.length : Int) > 40 by omega)]
    by_cases h2 : 40 < l.length
    · rw [decide_eq_true (show (l.length : Int) > 40 by omega)]
      simp only [beq_self_eq_true, show (true == false) = false from rfl, cond_false, cond_true, Option.bind_some, w]
    · rw [decide_eq_false (show ¬ (l.length : Int) > 40 by omega), large_eq hN1]
      simp only [beq_self_eq_true, cond_true, Option.bind_some]
      by_cases h3 : 40 < gs.length ∨ ∃ x ∈ gs, 40 < x.length
      · rw [decide_eq_true h3]
        simp only [cond_true, w, Option.bind_some]
      · rw [decide_eq_false h3, cond_false]
        have hg : gs.length ≤ 40 := Nat.not_lt.1 (fun h => h3 (.inl h))
        have hb : ∀ x ∈ gs, x.length ≤ 40 := fun x hx => Nat.not_lt.1 (fun h => h3 (.inr ⟨x, hx, h⟩))
        have hs1 : (shts sz ps l).1.length < 900 := by
          unfold shts
          split
          · simp
          · rename_i hv
            have hp := vld_pln.1 (by simpa using hv)
            have := hp.mny
            have := lf_len sz ps l
            simp only []
            omega
        have hs2 : (grps sz ps l).1.length < 900 ∧ ∀ q ∈ (grps sz ps l).1, q.length < 900 := by
          unfold grps
          split
          · simp
          · rename_i hv
            have hp := vld_pln.1 (by simpa using hv)
            have := hp.mny
            refine ⟨by simp [grp]; omega, fun q hq => ?_⟩
            have := mem_grp_len q hq
            omega
        have hs3 : (plnS sz ps gs).1.length < 900 := by
          unfold plnS
          split
          · simp
          · rename_i hc
            have hj := chk_job.1 (by simpa using hc)
            have h8 := hj.len
            unfold plnOut
            split
            · simp
            · split
              · simp
              · split
                · simp
                · simp only [tid_len, pot_len, List.length_replicate]; omega
        rw [Left_eq hN1, Option.bind_some, rLeft_eq hN1, Option.bind_some, Groups_eq hN1, Option.bind_some, rGroups_eq hN1, Option.bind_some, Plan_eq sz ps gs hg hb, Option.bind_some, rPlan_eq hN1 sz ps gs hg hb, Option.bind_some, same_eq hN1 hs1, Option.bind_some]
        simp only [decide_true, beq_self_eq_true, cond_true, Option.bind_some, alike_eq hN1 hs2.1 hs2.2, same_eq hN1 hs3, Check_eq hN1, rCheck_eq hN1, Valid_eq hN1, rValid_eq hN1, w]
end Go.Proofs.YtgmonagekfjnmaaDoor
