/- Texts of this claim, joined: G26 to Cr. -/
import Derived.KernelRfl
import Derived.Test.YtjgmfdgpgdaclaaProg
import Derived.WalkKit
import Derived.Test.YtjgmfdgpgdaclaaP6
set_option linter.unusedVariables false
set_option linter.unusedSimpArgs false
set_option maxRecDepth 100000
namespace Go.Proofs.Ytjgmfdgpgdaclaa
open Go.Vi
abbrev R26 := Int
noncomputable def c26 : Code := bodyOf Try.f26
noncomputable def an26 : Ann := (.s .l (.s (.s .l (.j [0, 25, 26, 27, 28, 29, 30, 31, 32, 33, 34] .l .l)) (.s (.s .l (.j [0, 25, 26, 27, 28, 29, 30, 31, 32, 33, 34] .l .l)) (.s (.s .l (.j [0] (.j [0, 3, 25, 26, 27, 28, 29, 30, 31, 32, 33, 34] (.s (.s .l (.j [0, 3, 25, 26, 27, 28, 29, 30, 31, 32, 33, 34] .l .l)) (.s (.j [0, 3, 25, 26, 27, 28, 29, 30, 31, 32, 33, 34] (.s (.s .l (.j [0, 3, 25, 26, 27, 28, 29, 30, 31, 32, 33, 34] .l .l)) (.s .l (.j [0, 3, 25, 26, 27, 28, 29, 30, 31, 32, 33, 34] .l .l))) .l) .l)) .l) .l)) (.s (.s .l (.j [] .l .l)) .l)))))
def pk26 : List PK := [.c (.sl (.int .i64))]
def rk26 : List RK := [.c (.int .i64) 2]
noncomputable def rt26 (st : St) : Option R26 := rtG rk26 st
noncomputable def E26 (n : Nat × Nat) : Env := { T := tab, phi := (consPhi 65 (fun _ => true) (P65 n) noPhi), eff := fun _ => false, fuel := n.1, hold := n.2 }
noncomputable def kq26_1 (n : Nat × Nat) : St → Option R26 := run (E26 n) (cB (cB c26)) (Ann.snd (Ann.snd an26)) rt26 (fun _ _ => none) rt26
noncomputable def kc26_2 (n : Nat × Nat) : St → Option R26 := fun s => normC [0, 25, 26, 27, 28, 29, 30, 31, 32, 33, 34] s (kq26_1 n)
noncomputable def kq26_3 (n : Nat × Nat) : St → Option R26 := run (E26 n) (cB (cB (cB c26))) (Ann.snd (Ann.snd (Ann.snd an26))) rt26 (fun _ _ => none) rt26
noncomputable def kc26_4 (n : Nat × Nat) : St → Option R26 := fun s => normC [0, 25, 26, 27, 28, 29, 30, 31, 32, 33, 34] s (kq26_3 n)
noncomputable def kq26_5 (n : Nat × Nat) : St → Option R26 := run (E26 n) (cB (cB (cB (cB c26)))) (Ann.snd (Ann.snd (Ann.snd (Ann.snd an26)))) rt26 (fun _ _ => none) rt26
noncomputable def kc26_6 (n : Nat × Nat) : St → Option R26 := fun s => normC [0] s (kq26_5 n)
noncomputable def xb26_7 (n : Nat × Nat) : Nat → St → Option R26 := fun j s => bif Nat.beq j 0 then normC [0] s (kq26_5 n) else (fun _ _ => none) j s
noncomputable def F26_8 (n : Nat × Nat) : (St → Option R26) → St → Option R26 := fun K s => run (E26 n) (cA (cA (cB (cA (cB (cB (cB c26))))))) (Ann.fst (Ann.fst (Ann.snd (Ann.fst (Ann.snd (Ann.snd (Ann.snd an26))))))) (fun s => normC [0, 3, 25, 26, 27, 28, 29, 30, 31, 32, 33, 34] s K) (xb26_7 n) rt26 s
noncomputable def kq26_9 (n : Nat × Nat) (m1 : Nat) : St → Option R26 := run (E26 n) (cB (cA (cA (cB (cA (cB (cB (cB c26)))))))) (Ann.snd (Ann.fst (Ann.fst (Ann.snd (Ann.fst (Ann.snd (Ann.snd (Ann.snd an26)))))))) (fun s => normC [0, 3, 25, 26, 27, 28, 29, 30, 31, 32, 33, 34] s (loopN (F26_8 n) m1)) (xb26_7 n) rt26
noncomputable def kc26_10 (n : Nat × Nat) (m1 : Nat) : St → Option R26 := fun s => normC [0, 3, 25, 26, 27, 28, 29, 30, 31, 32, 33, 34] s (kq26_9 n m1)
noncomputable def kq26_11 (n : Nat × Nat) (m1 : Nat) : St → Option R26 := run (E26 n) (cB (cB (cA (cA (cB (cA (cB (cB (cB c26))))))))) (Ann.snd (Ann.snd (Ann.fst (Ann.fst (Ann.snd (Ann.fst (Ann.snd (Ann.snd (Ann.snd an26))))))))) (fun s => normC [0, 3, 25, 26, 27, 28, 29, 30, 31, 32, 33, 34] s (loopN (F26_8 n) m1)) (xb26_7 n) rt26
noncomputable def kc26_12 (n : Nat × Nat) (m1 : Nat) : St → Option R26 := fun s => normC [0, 3, 25, 26, 27, 28, 29, 30, 31, 32, 33, 34] s (kq26_11 n m1)
noncomputable def xb26_13 (n : Nat × Nat) (m1 : Nat) : Nat → St → Option R26 := fun j s => bif Nat.beq j 1 then normC [0, 3, 25, 26, 27, 28, 29, 30, 31, 32, 33, 34] s (kq26_11 n m1) else (xb26_7 n) j s
noncomputable def kq26_14 (n : Nat × Nat) (m1 : Nat) : St → Option R26 := run (E26 n) (cB (cA (cA (cB (cA (cA (cB (cA (cB (cB (cB c26))))))))))) (Ann.snd (Ann.fst (Ann.fst (Ann.snd (Ann.fst (Ann.fst (Ann.snd (Ann.fst (Ann.snd (Ann.snd (Ann.snd an26))))))))))) (kc26_12 n m1) (xb26_13 n m1) rt26
noncomputable def kc26_15 (n : Nat × Nat) (m1 : Nat) : St → Option R26 := fun s => normC [0, 3, 25, 26, 27, 28, 29, 30, 31, 32, 33, 34] s (kq26_14 n m1)
noncomputable def kc26_16 (n : Nat × Nat) (m1 : Nat) : St → Option R26 := fun s => normC [0, 3, 25, 26, 27, 28, 29, 30, 31, 32, 33, 34] s (kc26_12 n m1)
noncomputable def kq26_17 (n : Nat × Nat) : St → Option R26 := run (E26 n) (cB (cB (cB (cB (cB c26))))) (Ann.snd (Ann.snd (Ann.snd (Ann.snd (Ann.snd an26))))) rt26 (fun _ _ => none) rt26
noncomputable def kc26_18 (n : Nat × Nat) : St → Option R26 := fun s => normC [] s (kq26_17 n)
noncomputable def L26_1 (n : Nat × Nat) (m : Nat) (coins0 : List Int) (i3 : Int) : Option R26 := loopN (F26_8 n) m { tm := [.c (.sl (.int .i64) coins0 false), uu, uu, .c (.int .i64 i3), uu, uu, uu, uu, uu, uu, uu, uu, uu, uu, uu, uu, uu, uu, uu, uu, uu, uu, uu, uu, uu, uu, uu, uu, uu, uu, uu, uu, uu, uu, uu, uu, uu, uu, uu, uu], hp := emp }
theorem L26_1_eq (n : Nat × Nat) (m1 : Nat) (coins0 : List Int) (i3 : Int) : L26_1 n (m1 + 1) coins0 i3 =
 (bif decide (i3 < (coins0.length : Int)) then (idx coins0 i3).bind fun x1' =>
 (S65 n x1' 1 40).bind fun r2' =>
 (bif (!r2') then some 1
 else ((bif (decide (i3 > 0) == true) then (idx coins0 i3).bind fun x3' =>
 (idx coins0 (wr .i64 (i3 - 1))).bind fun x4' =>
 some (decide (x3' ≤ x4'))
 else some false)).bind fun b5' =>
 (bif b5' then some 7
 else L26_1 n m1 coins0 (wr .i64 (i3 + 1))))
 else (idx coins0 0).bind fun x6' =>
 (bif (x6' != 1) then some 5
 else some 0)) := by kernel_rfl
noncomputable def S26 (n : Nat × Nat) (coins0 : List Int) : Option R26 := run (E26 n) c26 an26 rt26 (fun _ _ => none) rt26 { tm := [.c (.sl (.int .i64) coins0 false), uu, uu, uu, uu, uu, uu, uu, uu, uu, uu, uu, uu, uu, uu, uu, uu, uu, uu, uu, uu, uu, uu, uu, uu, uu, uu, uu, uu, uu, uu, uu, uu, uu, uu, uu, uu, uu, uu, uu], hp := emp }
theorem S26_eq (n : Nat × Nat) (coins0 : List Int) : S26 n coins0 =
 (bif ((coins0.length : Int) == 0) then some 4
 else (bif decide ((coins0.length : Int) > 6) then some 3
 else L26_1 n n.1 coins0 0)) := by kernel_rfl
theorem S26_run (n : Nat × Nat) (xs : pksDen pk26) : S26 n xs.1 = runG (E26 n) noScope c26 an26 (rtG rk26) (fun _ _ => none) (rtG rk26) (st0 pk26 xs Try.f26.ntmps) := by kernel_rfl
noncomputable def P26 (n : Nat × Nat) := phiOf pk26 rk26 (fun xs => S26 n xs.1)
theorem call26 : CallOK Try.prog 26 := callOK_of Try.func26 (by kernel_rfl) (by kernel_rfl)
theorem env26 (n : Nat × Nat) : EnvOK Try.prog (E26 n) := envOK0 (consPhi_ok (FC65 n) call65 noPhi_ok) rfl rfl
theorem par26 (n : Nat × Nat) : EnvPar (E26 n) := envPar0 (consPhi_par phiOf_Par1 noPhi_par) rfl
theorem FC26 (n : Nat × Nat) : FCs Try.prog 26 (P26 n) := phiOf_FCs fun xs r h vs hv => FC.of_runG tabOK eqsOK (env26 n) (par26 n) mixed (fun _ => noScope_ok) Try.func26 (c := c26) (an := an26) (pks := pk26) (rks := rk26) (by kernel_rfl) (by kernel_rfl) hv ((S26_run n xs).symm.trans h)
abbrev R58 := Int
noncomputable def c58 : Code := bodyOf Try.f58
noncomputable def an58 : Ann := (.s .l (.s .l (.s (.s .l (.j [5] .l .l)) .l)))
def pk58 : List PK := [.c (.sl (.int .i64)), .c (.int .i64)]
def rk58 : List RK := [.c (.int .i64) 4]
noncomputable def rt58 (st : St) : Option R58 := rtG rk58 st
noncomputable def E58 (n : Nat × Nat) : Env := { T := tab, phi := (consPhi 26 (fun _ => true) (P26 n) (consPhi 65 (fun _ => true) (P65 n) noPhi)), eff := fun _ => false, fuel := n.1, hold := n.2 }
noncomputable def kq58_1 (n : Nat × Nat) : St → Option R58 := run (E58 n) (cB (cB (cB c58))) (Ann.snd (Ann.snd (Ann.snd an58))) rt58 (fun _ _ => none) rt58
noncomputable def kc58_2 (n : Nat × Nat) : St → Option R58 := fun s => normC [5] s (kq58_1 n)
noncomputable def S58 (n : Nat × Nat) (coins0 : List Int) (sum1 : Int) : Option R58 := run (E58 n) c58 an58 rt58 (fun _ _ => none) rt58 { tm := [.c (.sl (.int .i64) coins0 false), .c (.int .i64 sum1), uu, uu, uu, uu, uu, uu, uu, uu, uu, uu, uu, uu, uu, uu], hp := emp }
theorem S58_eq (n : Nat × Nat) (coins0 : List Int) (sum1 : Int) : S58 n coins0 sum1 =
 (S26 n coins0).bind fun r1' =>
 ((bif ((r1' == 0) == true) then (S65 n sum1 0 200).bind fun r2' =>
 some (!r2')
 else some false)).bind fun b3' =>
 (bif b3' then some 1
 else some r1') := by kernel_rfl
theorem S58_run (n : Nat × Nat) (xs : pksDen pk58) : S58 n xs.1 xs.2.1 = runG (E58 n) noScope c58 an58 (rtG rk58) (fun _ _ => none) (rtG rk58) (st0 pk58 xs Try.f58.ntmps) := by kernel_rfl
noncomputable def P58 (n : Nat × Nat) := phiOf pk58 rk58 (fun xs => S58 n xs.1 xs.2.1)
theorem call58 : CallOK Try.prog 58 := callOK_of Try.func58 (by kernel_rfl) (by kernel_rfl)
theorem env58 (n : Nat × Nat) : EnvOK Try.prog (E58 n) := envOK0 (consPhi_ok (FC26 n) call26 (consPhi_ok (FC65 n) call65 noPhi_ok)) rfl rfl
theorem par58 (n : Nat × Nat) : EnvPar (E58 n) := envPar0 (consPhi_par phiOf_Par1 (consPhi_par phiOf_Par1 noPhi_par)) rfl
theorem FC58 (n : Nat × Nat) : FCs Try.prog 58 (P58 n) := phiOf_FCs fun xs r h vs hv => FC.of_runG tabOK eqsOK (env58 n) (par58 n) mixed (fun _ => noScope_ok) Try.func58 (c := c58) (an := an58) (pks := pk58) (rks := rk58) (by kernel_rfl) (by kernel_rfl) hv ((S58_run n xs).symm.trans h)
abbrev R59 := List Int
noncomputable def c59 : Code := bodyOf Try.f59
noncomputable def an59 : Ann := (.s .l (.s .l (.s (.s .l (.j [0, 1, 5, 37, 38, 39, 40, 41, 42, 56, 57, 58, 59, 60] (.j [0, 1, 5, 6, 37, 38, 39, 40, 41, 42, 56, 57, 58, 59, 60] (.s (.s .l (.j [0, 1, 5, 6, 37, 38, 39, 40, 41, 42, 56, 57, 58, 59, 60] .l .l)) (.s (.j [0, 1, 5, 6, 37, 38, 39, 40, 41, 42, 56, 57, 58, 59, 60] .l .l) .l)) .l) .l)) (.s (.s .l (.j [5] (.j [0, 1, 5, 7, 37, 38, 39, 40, 41, 42, 56, 57, 58, 59, 60] (.s (.s .l (.j [0, 1, 5, 7, 37, 38, 39, 40, 41, 42, 56, 57, 58, 59, 60] .l .l)) (.s (.j [0, 1, 5, 7, 37, 38, 39, 40, 41, 42, 56, 57, 58, 59, 60] (.s .l (.j [0, 1, 5, 7, 37, 38, 39, 40, 41, 42, 56, 57, 58, 59, 60] (.j [0, 1, 5, 7, 8, 37, 38, 39, 40, 41, 42, 56, 57, 58, 59, 60] (.s (.s .l (.j [0, 1, 5, 7, 8, 37, 38, 39, 40, 41, 42, 56, 57, 58, 59, 60] .l .l)) (.s (.j [0, 1, 5, 7, 8, 37, 38, 39, 40, 41, 42, 56, 57, 58, 59, 60] (.s .l (.j [0, 1, 5, 7, 8, 37, 38, 39, 40, 41, 42, 56, 57, 58, 59, 60] (.j [0, 1, 5, 7, 8, 9, 37, 38, 39, 40, 41, 42, 56, 57, 58, 59, 60] (.s (.s .l (.j [0, 1, 5, 7, 8, 9, 37, 38, 39, 40, 41, 42, 56, 57, 58, 59, 60] .l .l)) (.j [] (.j [0, 1, 5, 7, 8, 9, 37, 38, 39, 40, 41, 42, 56, 57, 58, 59, 60] (.s .l (.s .l (.j [0, 1, 5, 7, 8, 9, 37, 38, 39, 40, 41, 42, 56, 57, 58, 59, 60] .l .l))) .l) .l)) .l) .l)) .l) .l)) .l) .l)) .l) .l)) .l) .l)) .l))))
def pk59 : List PK := [.c (.sl (.int .i64)), .c (.int .i64)]
def rk59 : List RK := [.own (.int .i64) 4]
noncomputable def rt59 (st : St) : Option R59 := rtG rk59 st
noncomputable def E59 (n : Nat × Nat) : Env := { T := tab, phi := noPhi, eff := fun _ => false, fuel := n.1, hold := n.2 }
noncomputable def kq59_1 (n : Nat × Nat) : St → Option R59 := run (E59 n) (cB (cB (cB c59))) (Ann.snd (Ann.snd (Ann.snd an59))) rt59 (fun _ _ => none) rt59
noncomputable def kc59_2 (n : Nat × Nat) : St → Option R59 := fun s => normC [0, 1, 5, 37, 38, 39, 40, 41, 42, 56, 57, 58, 59, 60] s (kq59_1 n)
noncomputable def xb59_3 (n : Nat × Nat) : Nat → St → Option R59 := fun j s => bif Nat.beq j 0 then normC [0, 1, 5, 37, 38, 39, 40, 41, 42, 56, 57, 58, 59, 60] s (kq59_1 n) else (fun _ _ => none) j s
noncomputable def F59_4 (n : Nat × Nat) : (St → Option R59) → St → Option R59 := fun K s => run (E59 n) (cA (cA (cB (cA (cB (cB c59)))))) (Ann.fst (Ann.fst (Ann.snd (Ann.fst (Ann.snd (Ann.snd an59)))))) (fun s => normC [0, 1, 5, 6, 37, 38, 39, 40, 41, 42, 56, 57, 58, 59, 60] s K) (xb59_3 n) rt59 s
noncomputable def kq59_5 (n : Nat × Nat) (m1 : Nat) : St → Option R59 := run (E59 n) (cB (cA (cA (cB (cA (cB (cB c59))))))) (Ann.snd (Ann.fst (Ann.fst (Ann.snd (Ann.fst (Ann.snd (Ann.snd an59))))))) (fun s => normC [0, 1, 5, 6, 37, 38, 39, 40, 41, 42, 56, 57, 58, 59, 60] s (loopN (F59_4 n) m1)) (xb59_3 n) rt59
noncomputable def kc59_6 (n : Nat × Nat) (m1 : Nat) : St → Option R59 := fun s => normC [0, 1, 5, 6, 37, 38, 39, 40, 41, 42, 56, 57, 58, 59, 60] s (kq59_5 n m1)
noncomputable def kq59_7 (n : Nat × Nat) (m1 : Nat) : St → Option R59 := run (E59 n) (cB (cB (cA (cA (cB (cA (cB (cB c59)))))))) (Ann.snd (Ann.snd (Ann.fst (Ann.fst (Ann.snd (Ann.fst (Ann.snd (Ann.snd an59)))))))) (fun s => normC [0, 1, 5, 6, 37, 38, 39, 40, 41, 42, 56, 57, 58, 59, 60] s (loopN (F59_4 n) m1)) (xb59_3 n) rt59
noncomputable def kc59_8 (n : Nat × Nat) (m1 : Nat) : St → Option R59 := fun s => normC [0, 1, 5, 6, 37, 38, 39, 40, 41, 42, 56, 57, 58, 59, 60] s (kq59_7 n m1)
noncomputable def xb59_9 (n : Nat × Nat) (m1 : Nat) : Nat → St → Option R59 := fun j s => bif Nat.beq j 1 then normC [0, 1, 5, 6, 37, 38, 39, 40, 41, 42, 56, 57, 58, 59, 60] s (kq59_7 n m1) else (xb59_3 n) j s
noncomputable def kq59_10 (n : Nat × Nat) : St → Option R59 := run (E59 n) (cB (cB (cB (cB c59)))) (Ann.snd (Ann.snd (Ann.snd (Ann.snd an59)))) rt59 (fun _ _ => none) rt59
noncomputable def kc59_11 (n : Nat × Nat) : St → Option R59 := fun s => normC [5] s (kq59_10 n)
noncomputable def xb59_12 (n : Nat × Nat) : Nat → St → Option R59 := fun j s => bif Nat.beq j 2 then normC [5] s (kq59_10 n) else (fun _ _ => none) j s
noncomputable def F59_13 (n : Nat × Nat) : (St → Option R59) → St → Option R59 := fun K s => run (E59 n) (cA (cA (cB (cA (cB (cB (cB c59))))))) (Ann.fst (Ann.fst (Ann.snd (Ann.fst (Ann.snd (Ann.snd (Ann.snd an59))))))) (fun s => normC [0, 1, 5, 7, 37, 38, 39, 40, 41, 42, 56, 57, 58, 59, 60] s K) (xb59_12 n) rt59 s
noncomputable def kq59_14 (n : Nat × Nat) (m1 : Nat) : St → Option R59 := run (E59 n) (cB (cA (cA (cB (cA (cB (cB (cB c59)))))))) (Ann.snd (Ann.fst (Ann.fst (Ann.snd (Ann.fst (Ann.snd (Ann.snd (Ann.snd an59)))))))) (fun s => normC [0, 1, 5, 7, 37, 38, 39, 40, 41, 42, 56, 57, 58, 59, 60] s (loopN (F59_13 n) m1)) (xb59_12 n) rt59
noncomputable def kc59_15 (n : Nat × Nat) (m1 : Nat) : St → Option R59 := fun s => normC [0, 1, 5, 7, 37, 38, 39, 40, 41, 42, 56, 57, 58, 59, 60] s (kq59_14 n m1)
noncomputable def kq59_16 (n : Nat × Nat) (m1 : Nat) : St → Option R59 := run (E59 n) (cB (cB (cA (cA (cB (cA (cB (cB (cB c59))))))))) (Ann.snd (Ann.snd (Ann.fst (Ann.fst (Ann.snd (Ann.fst (Ann.snd (Ann.snd (Ann.snd an59))))))))) (fun s => normC [0, 1, 5, 7, 37, 38, 39, 40, 41, 42, 56, 57, 58, 59, 60] s (loopN (F59_13 n) m1)) (xb59_12 n) rt59
noncomputable def kc59_17 (n : Nat × Nat) (m1 : Nat) : St → Option R59 := fun s => normC [0, 1, 5, 7, 37, 38, 39, 40, 41, 42, 56, 57, 58, 59, 60] s (kq59_16 n m1)
noncomputable def xb59_18 (n : Nat × Nat) (m1 : Nat) : Nat → St → Option R59 := fun j s => bif Nat.beq j 3 then normC [0, 1, 5, 7, 37, 38, 39, 40, 41, 42, 56, 57, 58, 59, 60] s (kq59_16 n m1) else (xb59_12 n) j s
noncomputable def kc59_19 (n : Nat × Nat) (m1 : Nat) : St → Option R59 := fun s => normC [0, 1, 5, 7, 37, 38, 39, 40, 41, 42, 56, 57, 58, 59, 60] s (kc59_17 n m1)
noncomputable def xb59_20 (n : Nat × Nat) (m1 : Nat) : Nat → St → Option R59 := fun j s => bif Nat.beq j 4 then normC [0, 1, 5, 7, 37, 38, 39, 40, 41, 42, 56, 57, 58, 59, 60] s (kc59_17 n m1) else (xb59_18 n m1) j s
noncomputable def F59_21 (n : Nat × Nat) (m1 : Nat) : (St → Option R59) → St → Option R59 := fun K s => run (E59 n) (cA (cA (cB (cA (cA (cB (cA (cA (cB (cA (cB (cB (cB c59))))))))))))) (Ann.fst (Ann.fst (Ann.snd (Ann.fst (Ann.fst (Ann.snd (Ann.fst (Ann.fst (Ann.snd (Ann.fst (Ann.snd (Ann.snd (Ann.snd an59))))))))))))) (fun s => normC [0, 1, 5, 7, 8, 37, 38, 39, 40, 41, 42, 56, 57, 58, 59, 60] s K) (xb59_20 n m1) rt59 s
noncomputable def kq59_22 (n : Nat × Nat) (m1 m2 : Nat) : St → Option R59 := run (E59 n) (cB (cA (cA (cB (cA (cA (cB (cA (cA (cB (cA (cB (cB (cB c59)))))))))))))) (Ann.snd (Ann.fst (Ann.fst (Ann.snd (Ann.fst (Ann.fst (Ann.snd (Ann.fst (Ann.fst (Ann.snd (Ann.fst (Ann.snd (Ann.snd (Ann.snd an59)))))))))))))) (fun s => normC [0, 1, 5, 7, 8, 37, 38, 39, 40, 41, 42, 56, 57, 58, 59, 60] s (loopN (F59_21 n m1) m2)) (xb59_20 n m1) rt59
noncomputable def kc59_23 (n : Nat × Nat) (m1 m2 : Nat) : St → Option R59 := fun s => normC [0, 1, 5, 7, 8, 37, 38, 39, 40, 41, 42, 56, 57, 58, 59, 60] s (kq59_22 n m1 m2)
noncomputable def kq59_24 (n : Nat × Nat) (m1 m2 : Nat) : St → Option R59 := run (E59 n) (cB (cB (cA (cA (cB (cA (cA (cB (cA (cA (cB (cA (cB (cB (cB c59))))))))))))))) (Ann.snd (Ann.snd (Ann.fst (Ann.fst (Ann.snd (Ann.fst (Ann.fst (Ann.snd (Ann.fst (Ann.fst (Ann.snd (Ann.fst (Ann.snd (Ann.snd (Ann.snd an59))))))))))))))) (fun s => normC [0, 1, 5, 7, 8, 37, 38, 39, 40, 41, 42, 56, 57, 58, 59, 60] s (loopN (F59_21 n m1) m2)) (xb59_20 n m1) rt59
noncomputable def kc59_25 (n : Nat × Nat) (m1 m2 : Nat) : St → Option R59 := fun s => normC [0, 1, 5, 7, 8, 37, 38, 39, 40, 41, 42, 56, 57, 58, 59, 60] s (kq59_24 n m1 m2)
noncomputable def xb59_26 (n : Nat × Nat) (m1 m2 : Nat) : Nat → St → Option R59 := fun j s => bif Nat.beq j 5 then normC [0, 1, 5, 7, 8, 37, 38, 39, 40, 41, 42, 56, 57, 58, 59, 60] s (kq59_24 n m1 m2) else (xb59_20 n m1) j s
noncomputable def kc59_27 (n : Nat × Nat) (m1 m2 : Nat) : St → Option R59 := fun s => normC [0, 1, 5, 7, 8, 37, 38, 39, 40, 41, 42, 56, 57, 58, 59, 60] s (kc59_25 n m1 m2)
noncomputable def xb59_28 (n : Nat × Nat) (m1 m2 : Nat) : Nat → St → Option R59 := fun j s => bif Nat.beq j 6 then normC [0, 1, 5, 7, 8, 37, 38, 39, 40, 41, 42, 56, 57, 58, 59, 60] s (kc59_25 n m1 m2) else (xb59_26 n m1 m2) j s
noncomputable def F59_29 (n : Nat × Nat) (m1 m2 : Nat) : (St → Option R59) → St → Option R59 := fun K s => run (E59 n) (cA (cA (cB (cA (cA (cB (cA (cA (cB (cA (cA (cB (cA (cA (cB (cA (cB (cB (cB c59))))))))))))))))))) (Ann.fst (Ann.fst (Ann.snd (Ann.fst (Ann.fst (Ann.snd (Ann.fst (Ann.fst (Ann.snd (Ann.fst (Ann.fst (Ann.snd (Ann.fst (Ann.fst (Ann.snd (Ann.fst (Ann.snd (Ann.snd (Ann.snd an59))))))))))))))))))) (fun s => normC [0, 1, 5, 7, 8, 9, 37, 38, 39, 40, 41, 42, 56, 57, 58, 59, 60] s K) (xb59_28 n m1 m2) rt59 s
noncomputable def kq59_30 (n : Nat × Nat) (m1 m2 m3 : Nat) : St → Option R59 := run (E59 n) (cB (cA (cA (cB (cA (cA (cB (cA (cA (cB (cA (cA (cB (cA (cA (cB (cA (cB (cB (cB c59)))))))))))))))))))) (Ann.snd (Ann.fst (Ann.fst (Ann.snd (Ann.fst (Ann.fst (Ann.snd (Ann.fst (Ann.fst (Ann.snd (Ann.fst (Ann.fst (Ann.snd (Ann.fst (Ann.fst (Ann.snd (Ann.fst (Ann.snd (Ann.snd (Ann.snd an59)))))))))))))))))))) (fun s => normC [0, 1, 5, 7, 8, 9, 37, 38, 39, 40, 41, 42, 56, 57, 58, 59, 60] s (loopN (F59_29 n m1 m2) m3)) (xb59_28 n m1 m2) rt59
noncomputable def kc59_31 (n : Nat × Nat) (m1 m2 m3 : Nat) : St → Option R59 := fun s => normC [0, 1, 5, 7, 8, 9, 37, 38, 39, 40, 41, 42, 56, 57, 58, 59, 60] s (kq59_30 n m1 m2 m3)
noncomputable def kq59_32 (n : Nat × Nat) (m1 m2 m3 : Nat) : St → Option R59 := run (E59 n) (cB (cB (cA (cA (cB (cA (cA (cB (cA (cA (cB (cA (cA (cB (cA (cA (cB (cA (cB (cB (cB c59))))))))))))))))))))) (Ann.snd (Ann.snd (Ann.fst (Ann.fst (Ann.snd (Ann.fst (Ann.fst (Ann.snd (Ann.fst (Ann.fst (Ann.snd (Ann.fst (Ann.fst (Ann.snd (Ann.fst (Ann.fst (Ann.snd (Ann.fst (Ann.snd (Ann.snd (Ann.snd an59))))))))))))))))))))) (fun s => normC [0, 1, 5, 7, 8, 9, 37, 38, 39, 40, 41, 42, 56, 57, 58, 59, 60] s (loopN (F59_29 n m1 m2) m3)) (xb59_28 n m1 m2) rt59
noncomputable def kc59_33 (n : Nat × Nat) (m1 m2 m3 : Nat) : St → Option R59 := fun s => normC [0, 1, 5, 7, 8, 9, 37, 38, 39, 40, 41, 42, 56, 57, 58, 59, 60] s (loopN (fun _ => (kq59_32 n m1 m2 m3)) n.2)
noncomputable def xb59_34 (n : Nat × Nat) (m1 m2 m3 : Nat) : Nat → St → Option R59 := fun j s => bif Nat.beq j 7 then normC [0, 1, 5, 7, 8, 9, 37, 38, 39, 40, 41, 42, 56, 57, 58, 59, 60] s (loopN (fun _ => (kq59_32 n m1 m2 m3)) n.2) else (xb59_28 n m1 m2) j s
noncomputable def kc59_35 (n : Nat × Nat) (m1 m2 m3 : Nat) : St → Option R59 := fun s => normC [0, 1, 5, 7, 8, 9, 37, 38, 39, 40, 41, 42, 56, 57, 58, 59, 60] s (kc59_33 n m1 m2 m3)
noncomputable def L59_1 (n : Nat × Nat) (m : Nat) (coins0 : List Int) (most1 : Int) (s6 : Int) (out5 : List Int) : Option R59 := loopN (F59_4 n) m { tm := [.c (.sl (.int .i64) coins0 false), .c (.int .i64 most1), uu, uu, uu, .own 5 none false, .c (.int .i64 s6), uu, uu, uu, uu, uu, uu, uu, uu, uu, uu, uu, uu, uu, uu, uu, uu, uu, uu, uu, uu, uu, uu, uu, uu, uu, uu, uu, uu, uu, uu, uu, uu, uu, uu, uu, uu, uu, uu, uu, uu, uu, uu, uu, uu, uu, uu, uu, uu, uu, uu, uu, uu, uu, uu, uu, uu, uu, uu, uu, uu, uu], hp := (upd emp 5 (.arr (.int .i64) out5 false)) }
noncomputable def L59_2 (n : Nat × Nat) (m : Nat) (coins0 : List Int) (most1 : Int) (many7 : Int) (out5 : List Int) : Option R59 := loopN (F59_13 n) m { tm := [.c (.sl (.int .i64) coins0 false), .c (.int .i64 most1), uu, uu, uu, .own 5 none false, uu, .c (.int .i64 many7), uu, uu, uu, uu, uu, uu, uu, uu, uu, uu, uu, uu, uu, uu, uu, uu, uu, uu, uu, uu, uu, uu, uu, uu, uu, uu, uu, uu, uu, uu, uu, uu, uu, uu, uu, uu, uu, uu, uu, uu, uu, uu, uu, uu, uu, uu, uu, uu, uu, uu, uu, uu, uu, uu, uu, uu, uu, uu, uu, uu], hp := (upd emp 5 (.arr (.int .i64) out5 false)) }
noncomputable def L59_3 (n : Nat × Nat) (m1 : Nat) (m : Nat) (coins0 : List Int) (most1 : Int) (many7 : Int) (s8 : Int) (out5 : List Int) : Option R59 := loopN (F59_21 n m1) m { tm := [.c (.sl (.int .i64) coins0 false), .c (.int .i64 most1), uu, uu, uu, .own 5 none false, uu, .c (.int .i64 many7), .c (.int .i64 s8), uu, uu, uu, uu, uu, uu, uu, uu, uu, uu, uu, uu, uu, uu, uu, uu, uu, uu, uu, uu, uu, uu, uu, uu, uu, uu, uu, uu, uu, uu, uu, uu, uu, uu, uu, uu, uu, uu, uu, uu, uu, uu, uu, uu, uu, uu, uu, uu, uu, uu, uu, uu, uu, uu, uu, uu, uu, uu, uu], hp := (upd emp 5 (.arr (.int .i64) out5 false)) }
noncomputable def L59_4 (n : Nat × Nat) (m1 m2 : Nat) (m : Nat) (coins0 : List Int) (most1 : Int) (many7 : Int) (s8 : Int) (i9 : Int) (out5 : List Int) : Option R59 := loopN (F59_29 n m1 m2) m { tm := [.c (.sl (.int .i64) coins0 false), .c (.int .i64 most1), uu, uu, uu, .own 5 none false, uu, .c (.int .i64 many7), .c (.int .i64 s8), .c (.int .i64 i9), uu, uu, uu, uu, uu, uu, uu, uu, uu, uu, uu, uu, uu, uu, uu, uu, uu, uu, uu, uu, uu, uu, uu, uu, uu, uu, uu, uu, uu, uu, uu, uu, uu, uu, uu, uu, uu, uu, uu, uu, uu, uu, uu, uu, uu, uu, uu, uu, uu, uu, uu, uu, uu, uu, uu, uu, uu, uu], hp := (upd emp 5 (.arr (.int .i64) out5 false)) }
noncomputable def L59_5 (n : Nat × Nat) (m1 m2 m3 : Nat) (coins0 : List Int) (most1 : Int) (many7 : Int) (s8 : Int) (i9 : Int) (out5 : List Int) : Option R59 := loopN (fun _ => (kq59_32 n m1 m2 m3)) n.2 { tm := [.c (.sl (.int .i64) coins0 false), .c (.int .i64 most1), uu, uu, uu, .own 5 none false, uu, .c (.int .i64 many7), .c (.int .i64 s8), .c (.int .i64 i9), uu, uu, uu, uu, uu, uu, uu, uu, uu, uu, uu, uu, uu, uu, uu, uu, uu, uu, uu, uu, uu, uu, uu, uu, uu, uu, uu, uu, uu, uu, uu, uu, uu, uu, uu, uu, uu, uu, uu, uu, uu, uu, uu, uu, uu, uu, uu, uu, uu, uu, uu, uu, uu, uu, uu, uu, uu, uu], hp := (upd emp 5 (.arr (.int .i64) out5 false)) }
theorem L59_1_eq (n : Nat × Nat) (m1 : Nat) (coins0 : List Int) (most1 : Int) (s6 : Int) (out5 : List Int) : L59_1 n (m1 + 1) coins0 most1 s6 out5 =
 (bif decide (s6 ≤ most1) then (bif inB s6 out5.length then (idx out5 s6).bind fun x1' =>
        L59_1 n m1 coins0 most1 (wr .i64 (s6 + 1)) (out5.set (Int.toNat s6) (-1))
 else none)
 else L59_2 n n.1 coins0 most1 0 out5) := by kernel_rfl
theorem L59_2_eq (n : Nat × Nat) (m1 : Nat) (coins0 : List Int) (most1 : Int) (many7 : Int) (out5 : List Int) : L59_2 n (m1 + 1) coins0 most1 many7 out5 =
 (bif decide (many7 ≤ most1) then L59_3 n m1 n.1 coins0 most1 many7 0 out5
 else some out5) := by kernel_rfl
theorem L59_3_eq (n : Nat × Nat) (m1 m2 : Nat) (coins0 : List Int) (most1 : Int) (many7 : Int) (s8 : Int) (out5 : List Int) : L59_3 n m1 (m2 + 1) coins0 most1 many7 s8 out5 =
 (bif decide (s8 ≤ most1) then L59_4 n m1 m2 n.1 coins0 most1 many7 s8 0 out5
 else L59_2 n m1 coins0 most1 (wr .i64 (many7 + 1)) out5) := by kernel_rfl
theorem L59_4_eq (n : Nat × Nat) (m1 m2 m3 : Nat) (coins0 : List Int) (most1 : Int) (many7 : Int) (s8 : Int) (i9 : Int) (out5 : List Int) : L59_4 n m1 m2 (m3 + 1) coins0 most1 many7 s8 i9 out5 =
 ((bif (decide (i9 < (coins0.length : Int)) == true) then (bif inB s8 out5.length then (idx out5 s8).bind fun x2' =>
 some (x2' == many7)
 else none)
 else some false)).bind fun b3' =>
 (bif b3' then (idx coins0 i9).bind fun x4' =>
 ((bif (decide (wr .i64 (s8 + x4') ≤ most1) == true) then (bif inB (wr .i64 (s8 + x4')) out5.length then (idx out5 (wr .i64 (s8 + x4'))).bind fun x5' =>
 some (decide (x5' < 0))
 else none)
 else some false)).bind fun b6' =>
 (bif b6' then (bif inB (wr .i64 (s8 + x4')) out5.length then (idx out5 (wr .i64 (s8 + x4'))).bind fun x7' =>
          L59_5 n m1 m2 m3 coins0 most1 many7 s8 i9 (out5.set (Int.toNat (wr .i64 (s8 + x4'))) (wr .i64 (many7 + 1)))
 else none)
 else L59_5 n m1 m2 m3 coins0 most1 many7 s8 i9 out5)
 else L59_3 n m1 m2 coins0 most1 many7 (wr .i64 (s8 + 1)) out5) := by kernel_rfl
theorem L59_5_raw (n : Nat × Nat) (m1 m2 m3 : Nat) (coins0 : List Int) (most1 : Int) (many7 : Int) (s8 : Int) (i9 : Int) (out5 : List Int) : (kq59_32 n m1 m2 m3) { tm := [.c (.sl (.int .i64) coins0 false), .c (.int .i64 most1), uu, uu, uu, .own 5 none false, uu, .c (.int .i64 many7), .c (.int .i64 s8), .c (.int .i64 i9), uu, uu, uu, uu, uu, uu, uu, uu, uu, uu, uu, uu, uu, uu, uu, uu, uu, uu, uu, uu, uu, uu, uu, uu, uu, uu, uu, uu, uu, uu, uu, uu, uu, uu, uu, uu, uu, uu, uu, uu, uu, uu, uu, uu, uu, uu, uu, uu, uu, uu, uu, uu, uu, uu, uu, uu, uu, uu], hp := (upd emp 5 (.arr (.int .i64) out5 false)) } =
    L59_4 n m1 m2 m3 coins0 most1 many7 s8 (wr .i64 (i9 + 1)) out5 := by kernel_rfl
noncomputable def S59 (n : Nat × Nat) (coins0 : List Int) (most1 : Int) : Option R59 := run (E59 n) c59 an59 rt59 (fun _ _ => none) rt59 { tm := [.c (.sl (.int .i64) coins0 false), .c (.int .i64 most1), uu, uu, uu, uu, uu, uu, uu, uu, uu, uu, uu, uu, uu, uu, uu, uu, uu, uu, uu, uu, uu, uu, uu, uu, uu, uu, uu, uu, uu, uu, uu, uu, uu, uu, uu, uu, uu, uu, uu, uu, uu, uu, uu, uu, uu, uu, uu, uu, uu, uu, uu, uu, uu, uu, uu, uu, uu, uu, uu, uu, uu, uu, uu, uu, uu, uu], hp := emp }
theorem S59_eq (n : Nat × Nat) (coins0 : List Int) (most1 : Int) : S59 n coins0 most1 =
 (bif decide (0 ≤ wr .i64 (most1 + 1)) && decide (wr .i64 (most1 + 1) ≤ wr .i64 (most1 + 1)) && decide (wr .i64 (most1 + 1) ≤ lim) then L59_1 n n.1 coins0 most1 1 (List.replicate (Int.toNat (wr .i64 (most1 + 1))) (0 : Int))
 else none) := by kernel_rfl
theorem S59_run (n : Nat × Nat) (xs : pksDen pk59) : S59 n xs.1 xs.2.1 = runG (E59 n) noScope c59 an59 (rtG rk59) (fun _ _ => none) (rtG rk59) (st0 pk59 xs Try.f59.ntmps) := by kernel_rfl
noncomputable def P59 (n : Nat × Nat) := phiOf pk59 rk59 (fun xs => S59 n xs.1 xs.2.1)
theorem call59 : CallOK Try.prog 59 := callOK_of Try.func59 (by kernel_rfl) (by kernel_rfl)
theorem env59 (n : Nat × Nat) : EnvOK Try.prog (E59 n) := envOK0 noPhi_ok rfl rfl
theorem par59 (n : Nat × Nat) : EnvPar (E59 n) := envPar0 noPhi_par rfl
theorem FC59 (n : Nat × Nat) : FCs Try.prog 59 (P59 n) := phiOf_FCs fun xs r h vs hv => FC.of_runG tabOK eqsOK (env59 n) (par59 n) mixed (fun _ => noScope_ok) Try.func59 (c := c59) (an := an59) (pks := pk59) (rks := rk59) (by kernel_rfl) (by kernel_rfl) hv ((S59_run n xs).symm.trans h)
/-D 65 -/
noncomputable def D65 (n : Nat × Nat) (v0 : Int) (lo1 : Int) (hi2 : Int) : Option R65 :=
 ((bif (decide (v0 ≥ lo1) == true) then some (decide (v0 ≤ hi2))
 else some false)).bind fun b1' =>
 some b1'
theorem S65_D (n : Nat × Nat) (hn : n.2 = 1) : S65 n = D65 n := by
  funext v0 lo1 hi2; refine (S65_eq n v0 lo1 hi2).trans ?_
  unfold D65
  first | with_reducible rfl | rfl
/-D 26 -/
noncomputable def DF26_1 (n : Nat × Nat) (f1 : List Int → Int → Option R26) (coins0 : List Int) (i3 : Int) : Option R26 :=
 (bif decide (i3 < (coins0.length : Int)) then (idx coins0 i3).bind fun x1' =>
 (D65 n x1' 1 40).bind fun r2' =>
 (bif (!r2') then some 1
 else ((bif (decide (i3 > 0) == true) then (idx coins0 i3).bind fun x3' =>
 (idx coins0 (wr .i64 (i3 - 1))).bind fun x4' =>
 some (decide (x3' ≤ x4'))
 else some false)).bind fun b5' =>
 (bif b5' then some 7
 else f1 coins0 (wr .i64 (i3 + 1))))
 else (idx coins0 0).bind fun x6' =>
 (bif (x6' != 1) then some 5
 else some 0))
noncomputable def DL26_1 (n : Nat × Nat) (m : Nat) : List Int → Int → Option R26 := Nat.rec (motive := fun _ => List Int → Int → Option R26) (fun _ _ => none) (fun _ ih => DF26_1 n ih) m
theorem DL26_1_succ (n : Nat × Nat) (m : Nat) : DL26_1 n (m + 1) = DF26_1 n (DL26_1 n m) := rfl
theorem DL26_1_eq (n : Nat × Nat) (hn : n.2 = 1) : ∀ m, L26_1 n m = DL26_1 n m
  | 0 => by funext coins0 i3; kernel_rfl
  | m + 1 => by
    have ih := DL26_1_eq n hn m
    funext coins0 i3; refine (L26_1_eq n m coins0 i3).trans ?_
    rw [DL26_1_succ]
    unfold DF26_1
    (try simp only [ih, S65_D n hn]) <;> first | with_reducible rfl | rfl
noncomputable def D26 (n : Nat × Nat) (coins0 : List Int) : Option R26 :=
 (bif ((coins0.length : Int) == 0) then some 4
 else (bif decide ((coins0.length : Int) > 6) then some 3
 else DL26_1 n n.1 coins0 0))
theorem S26_D (n : Nat × Nat) (hn : n.2 = 1) : S26 n = D26 n := by
  funext coins0; refine (S26_eq n coins0).trans ?_
  unfold D26
  (try simp only [DL26_1_eq n hn, S65_D n hn]) <;> first | with_reducible rfl | rfl
/-D 58 -/
noncomputable def D58 (n : Nat × Nat) (coins0 : List Int) (sum1 : Int) : Option R58 :=
 (D26 n coins0).bind fun r1' =>
 ((bif ((r1' == 0) == true) then (D65 n sum1 0 200).bind fun r2' =>
 some (!r2')
 else some false)).bind fun b3' =>
 (bif b3' then some 1
 else some r1')
theorem S58_D (n : Nat × Nat) (hn : n.2 = 1) : S58 n = D58 n := by
  funext coins0 sum1; refine (S58_eq n coins0 sum1).trans ?_
  unfold D58
  (try simp only [S26_D n hn, S65_D n hn]) <;> first | with_reducible rfl | rfl
/-D 59 -/
noncomputable def DL59_5 (n : Nat × Nat) (f1 : List Int → Int → Int → List Int → Option R59) (f2 : List Int → Int → Int → Int → List Int → Option R59) (f3 : List Int → Int → Int → Int → Int → List Int → Option R59) (coins0 : List Int) (most1 : Int) (many7 : Int) (s8 : Int) (i9 : Int) (out5 : List Int) : Option R59 :=
    f3 coins0 most1 many7 s8 (wr .i64 (i9 + 1)) out5
theorem DL59_5_eq (n : Nat × Nat) (hn : n.2 = 1) (m1 m2 m3 : Nat) : L59_5 n m1 m2 m3 = DL59_5 n (L59_2 n m1) (L59_3 n m1 m2) (L59_4 n m1 m2 m3) := by
  funext coins0 most1 many7 s8 i9 out5; refine ((held_eq hn _).trans (L59_5_raw n m1 m2 m3 coins0 most1 many7 s8 i9 out5)).trans ?_
  unfold DL59_5
  first | with_reducible rfl | rfl
noncomputable def DF59_4 (n : Nat × Nat) (f1 : List Int → Int → Int → List Int → Option R59) (f2 : List Int → Int → Int → Int → List Int → Option R59) (f3 : List Int → Int → Int → Int → Int → List Int → Option R59) (coins0 : List Int) (most1 : Int) (many7 : Int) (s8 : Int) (i9 : Int) (out5 : List Int) : Option R59 :=
 ((bif (decide (i9 < (coins0.length : Int)) == true) then (bif inB s8 out5.length then (idx out5 s8).bind fun x2' =>
 some (x2' == many7)
 else none)
 else some false)).bind fun b3' =>
 (bif b3' then (idx coins0 i9).bind fun x4' =>
 ((bif (decide (wr .i64 (s8 + x4') ≤ most1) == true) then (bif inB (wr .i64 (s8 + x4')) out5.length then (idx out5 (wr .i64 (s8 + x4'))).bind fun x5' =>
 some (decide (x5' < 0))
 else none)
 else some false)).bind fun b6' =>
 (bif b6' then (bif inB (wr .i64 (s8 + x4')) out5.length then (idx out5 (wr .i64 (s8 + x4'))).bind fun x7' =>
          DL59_5 n f1 f2 f3 coins0 most1 many7 s8 i9 (out5.set (Int.toNat (wr .i64 (s8 + x4'))) (wr .i64 (many7 + 1)))
 else none)
 else DL59_5 n f1 f2 f3 coins0 most1 many7 s8 i9 out5)
 else f2 coins0 most1 many7 (wr .i64 (s8 + 1)) out5)
noncomputable def DL59_4 (n : Nat × Nat) (f1 : List Int → Int → Int → List Int → Option R59) (f2 : List Int → Int → Int → Int → List Int → Option R59) (m : Nat) : List Int → Int → Int → Int → Int → List Int → Option R59 := Nat.rec (motive := fun _ => List Int → Int → Int → Int → Int → List Int → Option R59) (fun _ _ _ _ _ _ => none) (fun _ ih => DF59_4 n f1 f2 ih) m
theorem DL59_4_succ (n : Nat × Nat) (f1 : List Int → Int → Int → List Int → Option R59) (f2 : List Int → Int → Int → Int → List Int → Option R59) (m : Nat) : DL59_4 n f1 f2 (m + 1) = DF59_4 n f1 f2 (DL59_4 n f1 f2 m) := rfl
theorem DL59_4_eq (n : Nat × Nat) (hn : n.2 = 1) (m1 m2 : Nat) : ∀ m, L59_4 n m1 m2 m = DL59_4 n (L59_2 n m1) (L59_3 n m1 m2) m
  | 0 => by funext coins0 most1 many7 s8 i9 out5; kernel_rfl
  | m + 1 => by
    have ih := DL59_4_eq n hn m1 m2 m
    funext coins0 most1 many7 s8 i9 out5; refine (L59_4_eq n m1 m2 m coins0 most1 many7 s8 i9 out5).trans ?_
    rw [DL59_4_succ]
    unfold DF59_4
    (try simp only [ih, DL59_5_eq n hn]) <;> first | with_reducible rfl | rfl
noncomputable def DF59_3 (n : Nat × Nat) (f1 : List Int → Int → Int → List Int → Option R59) (f2 : List Int → Int → Int → Int → List Int → Option R59) (coins0 : List Int) (most1 : Int) (many7 : Int) (s8 : Int) (out5 : List Int) : Option R59 :=
 (bif decide (s8 ≤ most1) then DL59_4 n f1 f2 n.1 coins0 most1 many7 s8 0 out5
 else f1 coins0 most1 (wr .i64 (many7 + 1)) out5)
noncomputable def DL59_3 (n : Nat × Nat) (f1 : List Int → Int → Int → List Int → Option R59) (m : Nat) : List Int → Int → Int → Int → List Int → Option R59 := Nat.rec (motive := fun _ => List Int → Int → Int → Int → List Int → Option R59) (fun _ _ _ _ _ => none) (fun _ ih => DF59_3 n f1 ih) m
theorem DL59_3_succ (n : Nat × Nat) (f1 : List Int → Int → Int → List Int → Option R59) (m : Nat) : DL59_3 n f1 (m + 1) = DF59_3 n f1 (DL59_3 n f1 m) := rfl
theorem DL59_3_eq (n : Nat × Nat) (hn : n.2 = 1) (m1 : Nat) : ∀ m, L59_3 n m1 m = DL59_3 n (L59_2 n m1) m
  | 0 => by funext coins0 most1 many7 s8 out5; kernel_rfl
  | m + 1 => by
    have ih := DL59_3_eq n hn m1 m
    funext coins0 most1 many7 s8 out5; refine (L59_3_eq n m1 m coins0 most1 many7 s8 out5).trans ?_
    rw [DL59_3_succ]
    unfold DF59_3
    (try simp only [ih, DL59_5_eq n hn, DL59_4_eq n hn]) <;> first | with_reducible rfl | rfl
noncomputable def DF59_2 (n : Nat × Nat) (f1 : List Int → Int → Int → List Int → Option R59) (coins0 : List Int) (most1 : Int) (many7 : Int) (out5 : List Int) : Option R59 :=
 (bif decide (many7 ≤ most1) then DL59_3 n f1 n.1 coins0 most1 many7 0 out5
 else some out5)
noncomputable def DL59_2 (n : Nat × Nat) (m : Nat) : List Int → Int → Int → List Int → Option R59 := Nat.rec (motive := fun _ => List Int → Int → Int → List Int → Option R59) (fun _ _ _ _ => none) (fun _ ih => DF59_2 n ih) m
theorem DL59_2_succ (n : Nat × Nat) (m : Nat) : DL59_2 n (m + 1) = DF59_2 n (DL59_2 n m) := rfl
theorem DL59_2_eq (n : Nat × Nat) (hn : n.2 = 1) : ∀ m, L59_2 n m = DL59_2 n m
  | 0 => by funext coins0 most1 many7 out5; kernel_rfl
  | m + 1 => by
    have ih := DL59_2_eq n hn m
    funext coins0 most1 many7 out5; refine (L59_2_eq n m coins0 most1 many7 out5).trans ?_
    rw [DL59_2_succ]
    unfold DF59_2
    (try simp only [ih, DL59_5_eq n hn, DL59_4_eq n hn, DL59_3_eq n hn]) <;> first | with_reducible rfl | rfl
noncomputable def DF59_1 (n : Nat × Nat) (f1 : List Int → Int → Int → List Int → Option R59) (coins0 : List Int) (most1 : Int) (s6 : Int) (out5 : List Int) : Option R59 :=
 (bif decide (s6 ≤ most1) then (bif inB s6 out5.length then (idx out5 s6).bind fun x1' =>
        f1 coins0 most1 (wr .i64 (s6 + 1)) (out5.set (Int.toNat s6) (-1))
 else none)
 else DL59_2 n n.1 coins0 most1 0 out5)
noncomputable def DL59_1 (n : Nat × Nat) (m : Nat) : List Int → Int → Int → List Int → Option R59 := Nat.rec (motive := fun _ => List Int → Int → Int → List Int → Option R59) (fun _ _ _ _ => none) (fun _ ih => DF59_1 n ih) m
theorem DL59_1_succ (n : Nat × Nat) (m : Nat) : DL59_1 n (m + 1) = DF59_1 n (DL59_1 n m) := rfl
theorem DL59_1_eq (n : Nat × Nat) (hn : n.2 = 1) : ∀ m, L59_1 n m = DL59_1 n m
  | 0 => by funext coins0 most1 s6 out5; kernel_rfl
  | m + 1 => by
    have ih := DL59_1_eq n hn m
    funext coins0 most1 s6 out5; refine (L59_1_eq n m coins0 most1 s6 out5).trans ?_
    rw [DL59_1_succ]
    unfold DF59_1
    (try simp only [ih, DL59_5_eq n hn, DL59_4_eq n hn, DL59_3_eq n hn, DL59_2_eq n hn]) <;> first | with_reducible rfl | rfl
noncomputable def D59 (n : Nat × Nat) (coins0 : List Int) (most1 : Int) : Option R59 :=
 (bif decide (0 ≤ wr .i64 (most1 + 1)) && decide (wr .i64 (most1 + 1) ≤ wr .i64 (most1 + 1)) && decide (wr .i64 (most1 + 1) ≤ lim) then DL59_1 n n.1 coins0 most1 1 (List.replicate (Int.toNat (wr .i64 (most1 + 1))) (0 : Int))
 else none)
theorem S59_D (n : Nat × Nat) (hn : n.2 = 1) : S59 n = D59 n := by
  funext coins0 most1; refine (S59_eq n coins0 most1).trans ?_
  unfold D59
  (try simp only [DL59_5_eq n hn, DL59_4_eq n hn, DL59_3_eq n hn, DL59_2_eq n hn, DL59_1_eq n hn]) <;> first | with_reducible rfl | rfl
abbrev R64 := List Int
noncomputable def c64 : Code := bodyOf Try.f64
noncomputable def an64 : Ann := (.s .l (.s .l (.s (.s .l (.j [5] (.j [0, 1, 5, 6] (.s (.s .l (.j [0, 1, 5, 6] .l .l)) (.s (.j [0, 1, 5, 6] .l .l) .l)) .l) .l)) .l)))
def pk64 : List PK := [.c (.sl (.int .i64)), .c (.int .i64)]
def rk64 : List RK := [.own (.int .i64) 4]
noncomputable def rt64 (st : St) : Option R64 := rtG rk64 st
noncomputable def E64 (n : Nat × Nat) : Env := { T := tab, phi := noPhi, eff := fun _ => false, fuel := n.1, hold := n.2 }
noncomputable def kq64_1 (n : Nat × Nat) : St → Option R64 := run (E64 n) (cB (cB (cB c64))) (Ann.snd (Ann.snd (Ann.snd an64))) rt64 (fun _ _ => none) rt64
noncomputable def kc64_2 (n : Nat × Nat) : St → Option R64 := fun s => normC [5] s (kq64_1 n)
noncomputable def xb64_3 (n : Nat × Nat) : Nat → St → Option R64 := fun j s => bif Nat.beq j 0 then normC [5] s (kq64_1 n) else (fun _ _ => none) j s
noncomputable def F64_4 (n : Nat × Nat) : (St → Option R64) → St → Option R64 := fun K s => run (E64 n) (cA (cA (cB (cA (cB (cB c64)))))) (Ann.fst (Ann.fst (Ann.snd (Ann.fst (Ann.snd (Ann.snd an64)))))) (fun s => normC [0, 1, 5, 6] s K) (xb64_3 n) rt64 s
noncomputable def kq64_5 (n : Nat × Nat) (m1 : Nat) : St → Option R64 := run (E64 n) (cB (cA (cA (cB (cA (cB (cB c64))))))) (Ann.snd (Ann.fst (Ann.fst (Ann.snd (Ann.fst (Ann.snd (Ann.snd an64))))))) (fun s => normC [0, 1, 5, 6] s (loopN (F64_4 n) m1)) (xb64_3 n) rt64
noncomputable def kc64_6 (n : Nat × Nat) (m1 : Nat) : St → Option R64 := fun s => normC [0, 1, 5, 6] s (kq64_5 n m1)
noncomputable def kq64_7 (n : Nat × Nat) (m1 : Nat) : St → Option R64 := run (E64 n) (cB (cB (cA (cA (cB (cA (cB (cB c64)))))))) (Ann.snd (Ann.snd (Ann.fst (Ann.fst (Ann.snd (Ann.fst (Ann.snd (Ann.snd an64)))))))) (fun s => normC [0, 1, 5, 6] s (loopN (F64_4 n) m1)) (xb64_3 n) rt64
noncomputable def kc64_8 (n : Nat × Nat) (m1 : Nat) : St → Option R64 := fun s => normC [0, 1, 5, 6] s (kq64_7 n m1)
noncomputable def xb64_9 (n : Nat × Nat) (m1 : Nat) : Nat → St → Option R64 := fun j s => bif Nat.beq j 1 then normC [0, 1, 5, 6] s (kq64_7 n m1) else (xb64_3 n) j s
noncomputable def L64_1 (n : Nat × Nat) (m : Nat) (coins0 : List Int) (sum1 : Int) (i6 : Int) (out5 : List Int) : Option R64 := loopN (F64_4 n) m { tm := [.c (.sl (.int .i64) coins0 false), .c (.int .i64 sum1), uu, uu, uu, .own 5 none false, .c (.int .i64 i6), uu, uu, uu, uu, uu, uu, uu, uu, uu, uu, uu, uu, uu, uu, uu, uu, uu, uu, uu, uu, uu, uu, uu, uu, uu, uu], hp := (upd emp 5 (.arr (.int .i64) out5 false)) }
theorem L64_1_eq (n : Nat × Nat) (m1 : Nat) (coins0 : List Int) (sum1 : Int) (i6 : Int) (out5 : List Int) : L64_1 n (m1 + 1) coins0 sum1 i6 out5 =
 (bif decide (i6 ≥ 0) then (idx coins0 i6).bind fun x1' =>
 (bif x1' == 0 then none
 else (bif inB i6 out5.length then (idx out5 i6).bind fun x2' =>
 (idx coins0 i6).bind fun x3' =>
 (bif x3' == 0 then none
 else L64_1 n m1 coins0 (Int.tmod sum1 x3') (wr .i64 (i6 - 1)) (out5.set (Int.toNat i6) (wr .i64 (Int.tdiv sum1 x1'))))
 else none))
 else some out5) := by kernel_rfl
noncomputable def S64 (n : Nat × Nat) (coins0 : List Int) (sum1 : Int) : Option R64 := run (E64 n) c64 an64 rt64 (fun _ _ => none) rt64 { tm := [.c (.sl (.int .i64) coins0 false), .c (.int .i64 sum1), uu, uu, uu, uu, uu, uu, uu, uu, uu, uu, uu, uu, uu, uu, uu, uu, uu, uu, uu, uu, uu, uu, uu, uu, uu, uu, uu, uu, uu, uu, uu], hp := emp }
theorem S64_eq (n : Nat × Nat) (coins0 : List Int) (sum1 : Int) : S64 n coins0 sum1 =
 (bif decide (0 ≤ (coins0.length : Int)) && decide ((coins0.length : Int) ≤ (coins0.length : Int)) && decide ((coins0.length : Int) ≤ lim) then L64_1 n n.1 coins0 sum1 (wr .i64 ((coins0.length : Int) - 1)) (List.replicate (Int.toNat (coins0.length : Int)) (0 : Int))
 else none) := by kernel_rfl
theorem S64_run (n : Nat × Nat) (xs : pksDen pk64) : S64 n xs.1 xs.2.1 = runG (E64 n) noScope c64 an64 (rtG rk64) (fun _ _ => none) (rtG rk64) (st0 pk64 xs Try.f64.ntmps) := by kernel_rfl
noncomputable def P64 (n : Nat × Nat) := phiOf pk64 rk64 (fun xs => S64 n xs.1 xs.2.1)
theorem call64 : CallOK Try.prog 64 := callOK_of Try.func64 (by kernel_rfl) (by kernel_rfl)
theorem env64 (n : Nat × Nat) : EnvOK Try.prog (E64 n) := envOK0 noPhi_ok rfl rfl
theorem par64 (n : Nat × Nat) : EnvPar (E64 n) := envPar0 noPhi_par rfl
theorem FC64 (n : Nat × Nat) : FCs Try.prog 64 (P64 n) := phiOf_FCs fun xs r h vs hv => FC.of_runG tabOK eqsOK (env64 n) (par64 n) mixed (fun _ => noScope_ok) Try.func64 (c := c64) (an := an64) (pks := pk64) (rks := rk64) (by kernel_rfl) (by kernel_rfl) hv ((S64_run n xs).symm.trans h)
/-D 64 -/
noncomputable def DF64_1 (n : Nat × Nat) (f1 : List Int → Int → Int → List Int → Option R64) (coins0 : List Int) (sum1 : Int) (i6 : Int) (out5 : List Int) : Option R64 :=
 (bif decide (i6 ≥ 0) then (idx coins0 i6).bind fun x1' =>
 (bif x1' == 0 then none
 else (bif inB i6 out5.length then (idx out5 i6).bind fun x2' =>
 (idx coins0 i6).bind fun x3' =>
 (bif x3' == 0 then none
 else f1 coins0 (Int.tmod sum1 x3') (wr .i64 (i6 - 1)) (out5.set (Int.toNat i6) (wr .i64 (Int.tdiv sum1 x1'))))
 else none))
 else some out5)
noncomputable def DL64_1 (n : Nat × Nat) (m : Nat) : List Int → Int → Int → List Int → Option R64 := Nat.rec (motive := fun _ => List Int → Int → Int → List Int → Option R64) (fun _ _ _ _ => none) (fun _ ih => DF64_1 n ih) m
theorem DL64_1_succ (n : Nat × Nat) (m : Nat) : DL64_1 n (m + 1) = DF64_1 n (DL64_1 n m) := rfl
theorem DL64_1_eq (n : Nat × Nat) (hn : n.2 = 1) : ∀ m, L64_1 n m = DL64_1 n m
  | 0 => by funext coins0 sum1 i6 out5; kernel_rfl
  | m + 1 => by
    have ih := DL64_1_eq n hn m
    funext coins0 sum1 i6 out5; refine (L64_1_eq n m coins0 sum1 i6 out5).trans ?_
    rw [DL64_1_succ]
    unfold DF64_1
    (try simp only [ih]) <;> first | with_reducible rfl | rfl
noncomputable def D64 (n : Nat × Nat) (coins0 : List Int) (sum1 : Int) : Option R64 :=
 (bif decide (0 ≤ (coins0.length : Int)) && decide ((coins0.length : Int) ≤ (coins0.length : Int)) && decide ((coins0.length : Int) ≤ lim) then DL64_1 n n.1 coins0 sum1 (wr .i64 ((coins0.length : Int) - 1)) (List.replicate (Int.toNat (coins0.length : Int)) (0 : Int))
 else none)
theorem S64_D (n : Nat × Nat) (hn : n.2 = 1) : S64 n = D64 n := by
  funext coins0 sum1; refine (S64_eq n coins0 sum1).trans ?_
  unfold D64
  (try simp only [DL64_1_eq n hn]) <;> first | with_reducible rfl | rfl
abbrev R70 := Int
noncomputable def c70 : Code := bodyOf Try.f70
noncomputable def an70 : Ann := (.s .l (.s .l (.s (.s .l (.j [3] (.j [0, 3, 4] (.s (.s .l (.j [0, 3, 4] .l .l)) (.s (.j [0, 3, 4] .l .l) .l)) .l) .l)) .l)))
def pk70 : List PK := [.c (.sl (.int .i64))]
def rk70 : List RK := [.c (.int .i64) 2]
noncomputable def rt70 (st : St) : Option R70 := rtG rk70 st
noncomputable def E70 (n : Nat × Nat) : Env := { T := tab, phi := noPhi, eff := fun _ => false, fuel := n.1, hold := n.2 }
noncomputable def kq70_1 (n : Nat × Nat) : St → Option R70 := run (E70 n) (cB (cB (cB c70))) (Ann.snd (Ann.snd (Ann.snd an70))) rt70 (fun _ _ => none) rt70
noncomputable def kc70_2 (n : Nat × Nat) : St → Option R70 := fun s => normC [3] s (kq70_1 n)
noncomputable def xb70_3 (n : Nat × Nat) : Nat → St → Option R70 := fun j s => bif Nat.beq j 0 then normC [3] s (kq70_1 n) else (fun _ _ => none) j s
noncomputable def F70_4 (n : Nat × Nat) : (St → Option R70) → St → Option R70 := fun K s => run (E70 n) (cA (cA (cB (cA (cB (cB c70)))))) (Ann.fst (Ann.fst (Ann.snd (Ann.fst (Ann.snd (Ann.snd an70)))))) (fun s => normC [0, 3, 4] s K) (xb70_3 n) rt70 s
noncomputable def kq70_5 (n : Nat × Nat) (m1 : Nat) : St → Option R70 := run (E70 n) (cB (cA (cA (cB (cA (cB (cB c70))))))) (Ann.snd (Ann.fst (Ann.fst (Ann.snd (Ann.fst (Ann.snd (Ann.snd an70))))))) (fun s => normC [0, 3, 4] s (loopN (F70_4 n) m1)) (xb70_3 n) rt70
noncomputable def kc70_6 (n : Nat × Nat) (m1 : Nat) : St → Option R70 := fun s => normC [0, 3, 4] s (kq70_5 n m1)
noncomputable def kq70_7 (n : Nat × Nat) (m1 : Nat) : St → Option R70 := run (E70 n) (cB (cB (cA (cA (cB (cA (cB (cB c70)))))))) (Ann.snd (Ann.snd (Ann.fst (Ann.fst (Ann.snd (Ann.fst (Ann.snd (Ann.snd an70)))))))) (fun s => normC [0, 3, 4] s (loopN (F70_4 n) m1)) (xb70_3 n) rt70
noncomputable def kc70_8 (n : Nat × Nat) (m1 : Nat) : St → Option R70 := fun s => normC [0, 3, 4] s (kq70_7 n m1)
noncomputable def xb70_9 (n : Nat × Nat) (m1 : Nat) : Nat → St → Option R70 := fun j s => bif Nat.beq j 1 then normC [0, 3, 4] s (kq70_7 n m1) else (xb70_3 n) j s
noncomputable def L70_1 (n : Nat × Nat) (m : Nat) (l0 : List Int) (v3 : Int) (i4 : Int) : Option R70 := loopN (F70_4 n) m { tm := [.c (.sl (.int .i64) l0 false), uu, uu, .c (.int .i64 v3), .c (.int .i64 i4), uu, uu, uu, uu, uu, uu, uu, uu, uu, uu, uu, uu, uu], hp := emp }
theorem L70_1_eq (n : Nat × Nat) (m1 : Nat) (l0 : List Int) (v3 : Int) (i4 : Int) : L70_1 n (m1 + 1) l0 v3 i4 =
 (bif decide (i4 < (l0.length : Int)) then (idx l0 i4).bind fun x1' =>
      L70_1 n m1 l0 (wr .i64 (v3 + x1')) (wr .i64 (i4 + 1))
 else some v3) := by kernel_rfl
noncomputable def S70 (n : Nat × Nat) (l0 : List Int) : Option R70 := run (E70 n) c70 an70 rt70 (fun _ _ => none) rt70 { tm := [.c (.sl (.int .i64) l0 false), uu, uu, uu, uu, uu, uu, uu, uu, uu, uu, uu, uu, uu, uu, uu, uu, uu], hp := emp }
theorem S70_eq (n : Nat × Nat) (l0 : List Int) : S70 n l0 =
    L70_1 n n.1 l0 0 0 := by kernel_rfl
theorem S70_run (n : Nat × Nat) (xs : pksDen pk70) : S70 n xs.1 = runG (E70 n) noScope c70 an70 (rtG rk70) (fun _ _ => none) (rtG rk70) (st0 pk70 xs Try.f70.ntmps) := by kernel_rfl
noncomputable def P70 (n : Nat × Nat) := phiOf pk70 rk70 (fun xs => S70 n xs.1)
theorem call70 : CallOK Try.prog 70 := callOK_of Try.func70 (by kernel_rfl) (by kernel_rfl)
theorem env70 (n : Nat × Nat) : EnvOK Try.prog (E70 n) := envOK0 noPhi_ok rfl rfl
theorem par70 (n : Nat × Nat) : EnvPar (E70 n) := envPar0 noPhi_par rfl
theorem FC70 (n : Nat × Nat) : FCs Try.prog 70 (P70 n) := phiOf_FCs fun xs r h vs hv => FC.of_runG tabOK eqsOK (env70 n) (par70 n) mixed (fun _ => noScope_ok) Try.func70 (c := c70) (an := an70) (pks := pk70) (rks := rk70) (by kernel_rfl) (by kernel_rfl) hv ((S70_run n xs).symm.trans h)
abbrev R67 := Int
noncomputable def c67 : Code := bodyOf Try.f67
noncomputable def an67 : Ann := (.s .l (.s (.s .l (.j [0] .l .l)) (.s .l (.s .l (.s (.s .l (.j [] (.j [0, 3, 4, 5] (.s (.s .l (.j [0, 3, 4, 5] .l .l)) (.s (.j [0, 3, 4, 5] (.s .l (.j [0, 3, 4, 5] .l .l)) .l) .l)) .l) .l)) .l)))))
def pk67 : List PK := [.c (.sl (.int .i64))]
def rk67 : List RK := [.c (.int .i64) 2]
noncomputable def rt67 (st : St) : Option R67 := rtG rk67 st
noncomputable def E67 (n : Nat × Nat) : Env := { T := tab, phi := (consPhi 59 (fun _ => true) (P59 n) (consPhi 64 (fun _ => true) (P64 n) (consPhi 70 (fun _ => true) (P70 n) noPhi))), eff := fun _ => false, fuel := n.1, hold := n.2 }
noncomputable def kq67_1 (n : Nat × Nat) : St → Option R67 := run (E67 n) (cB (cB c67)) (Ann.snd (Ann.snd an67)) rt67 (fun _ _ => none) rt67
noncomputable def kc67_2 (n : Nat × Nat) : St → Option R67 := fun s => normC [0] s (kq67_1 n)
noncomputable def kq67_3 (n : Nat × Nat) : St → Option R67 := run (E67 n) (cB (cB (cB (cB (cB c67))))) (Ann.snd (Ann.snd (Ann.snd (Ann.snd (Ann.snd an67))))) rt67 (fun _ _ => none) rt67
noncomputable def kc67_4 (n : Nat × Nat) : St → Option R67 := fun s => normC [] s (kq67_3 n)
noncomputable def xb67_5 (n : Nat × Nat) : Nat → St → Option R67 := fun j s => bif Nat.beq j 0 then normC [] s (kq67_3 n) else (fun _ _ => none) j s
noncomputable def F67_6 (n : Nat × Nat) : (St → Option R67) → St → Option R67 := fun K s => run (E67 n) (cA (cA (cB (cA (cB (cB (cB (cB c67)))))))) (Ann.fst (Ann.fst (Ann.snd (Ann.fst (Ann.snd (Ann.snd (Ann.snd (Ann.snd an67)))))))) (fun s => normC [0, 3, 4, 5] s K) (xb67_5 n) rt67 s
noncomputable def kq67_7 (n : Nat × Nat) (m1 : Nat) : St → Option R67 := run (E67 n) (cB (cA (cA (cB (cA (cB (cB (cB (cB c67))))))))) (Ann.snd (Ann.fst (Ann.fst (Ann.snd (Ann.fst (Ann.snd (Ann.snd (Ann.snd (Ann.snd an67))))))))) (fun s => normC [0, 3, 4, 5] s (loopN (F67_6 n) m1)) (xb67_5 n) rt67
noncomputable def kc67_8 (n : Nat × Nat) (m1 : Nat) : St → Option R67 := fun s => normC [0, 3, 4, 5] s (kq67_7 n m1)
noncomputable def kq67_9 (n : Nat × Nat) (m1 : Nat) : St → Option R67 := run (E67 n) (cB (cB (cA (cA (cB (cA (cB (cB (cB (cB c67)))))))))) (Ann.snd (Ann.snd (Ann.fst (Ann.fst (Ann.snd (Ann.fst (Ann.snd (Ann.snd (Ann.snd (Ann.snd an67)))))))))) (fun s => normC [0, 3, 4, 5] s (loopN (F67_6 n) m1)) (xb67_5 n) rt67
noncomputable def kc67_10 (n : Nat × Nat) (m1 : Nat) : St → Option R67 := fun s => normC [0, 3, 4, 5] s (kq67_9 n m1)
noncomputable def xb67_11 (n : Nat × Nat) (m1 : Nat) : Nat → St → Option R67 := fun j s => bif Nat.beq j 1 then normC [0, 3, 4, 5] s (kq67_9 n m1) else (xb67_5 n) j s
noncomputable def kc67_12 (n : Nat × Nat) (m1 : Nat) : St → Option R67 := fun s => normC [0, 3, 4, 5] s (kc67_10 n m1)
noncomputable def L67_1 (n : Nat × Nat) (m : Nat) (coins0 : List Int) (most3 : Int) (s5 : Int) (l4 : List Int) : Option R67 := loopN (F67_6 n) m { tm := [.c (.sl (.int .i64) coins0 false), uu, uu, .c (.int .i64 most3), .own 4 none false, .c (.int .i64 s5), uu, uu, uu, uu, uu, uu, uu, uu, uu, uu, uu, uu, uu, uu, uu, uu, uu, uu, uu, uu, uu, uu, uu, uu, uu, uu, uu, uu, uu, uu, uu, uu, uu, uu], hp := (upd emp 4 (.arr (.int .i64) l4 false)) }
theorem L67_1_eq (n : Nat × Nat) (m1 : Nat) (coins0 : List Int) (most3 : Int) (s5 : Int) (l4 : List Int) : L67_1 n (m1 + 1) coins0 most3 s5 l4 =
 (bif decide (s5 < most3) then (S64 n coins0 s5).bind fun r4' =>
 (S70 n r4').bind fun r5' =>
 (bif inB s5 l4.length then (idx l4 s5).bind fun x6' =>
 (bif decide (r5' > x6') then some s5
 else L67_1 n m1 coins0 most3 (wr .i64 (s5 + 1)) l4)
 else none)
 else some 0) := by kernel_rfl
noncomputable def S67 (n : Nat × Nat) (coins0 : List Int) : Option R67 := run (E67 n) c67 an67 rt67 (fun _ _ => none) rt67 { tm := [.c (.sl (.int .i64) coins0 false), uu, uu, uu, uu, uu, uu, uu, uu, uu, uu, uu, uu, uu, uu, uu, uu, uu, uu, uu, uu, uu, uu, uu, uu, uu, uu, uu, uu, uu, uu, uu, uu, uu, uu, uu, uu, uu, uu, uu], hp := emp }
theorem S67_eq (n : Nat × Nat) (coins0 : List Int) : S67 n coins0 =
 (bif decide ((coins0.length : Int) < 3) then some 0
 else (idx coins0 (wr .i64 ((coins0.length : Int) - 1))).bind fun x1' =>
 (idx coins0 (wr .i64 ((coins0.length : Int) - 2))).bind fun x2' =>
 (S59 n coins0 (wr .i64 (x1' + x2'))).bind fun r3' =>
      L67_1 n n.1 coins0 (wr .i64 (x1' + x2')) 1 r3') := by kernel_rfl
theorem S67_run (n : Nat × Nat) (xs : pksDen pk67) : S67 n xs.1 = runG (E67 n) noScope c67 an67 (rtG rk67) (fun _ _ => none) (rtG rk67) (st0 pk67 xs Try.f67.ntmps) := by kernel_rfl
noncomputable def P67 (n : Nat × Nat) := phiOf pk67 rk67 (fun xs => S67 n xs.1)
theorem call67 : CallOK Try.prog 67 := callOK_of Try.func67 (by kernel_rfl) (by kernel_rfl)
theorem env67 (n : Nat × Nat) : EnvOK Try.prog (E67 n) := envOK0 (consPhi_ok (FC59 n) call59 (consPhi_ok (FC64 n) call64 (consPhi_ok (FC70 n) call70 noPhi_ok))) rfl rfl
theorem par67 (n : Nat × Nat) : EnvPar (E67 n) := envPar0 (consPhi_par phiOf_Par1 (consPhi_par phiOf_Par1 (consPhi_par phiOf_Par1 noPhi_par))) rfl
theorem FC67 (n : Nat × Nat) : FCs Try.prog 67 (P67 n) := phiOf_FCs fun xs r h vs hv => FC.of_runG tabOK eqsOK (env67 n) (par67 n) mixed (fun _ => noScope_ok) Try.func67 (c := c67) (an := an67) (pks := pk67) (rks := rk67) (by kernel_rfl) (by kernel_rfl) hv ((S67_run n xs).symm.trans h)
abbrev R28 := Bool × Int
noncomputable def c28 : Code := bodyOf Try.f28
noncomputable def an28 : Ann := (.s .l (.s .l (.s (.s .l (.j [0] .l .l)) .l)))
def pk28 : List PK := [.c (.sl (.int .i64))]
def rk28 : List RK := [.c .bool 2, .c (.int .i64) 3]
noncomputable def rt28 (st : St) : Option R28 := rtG rk28 st
noncomputable def E28 (n : Nat × Nat) : Env := { T := tab, phi := (consPhi 26 (fun _ => true) (P26 n) (consPhi 67 (fun _ => true) (P67 n) noPhi)), eff := fun _ => false, fuel := n.1, hold := n.2 }
noncomputable def kq28_1 (n : Nat × Nat) : St → Option R28 := run (E28 n) (cB (cB (cB c28))) (Ann.snd (Ann.snd (Ann.snd an28))) rt28 (fun _ _ => none) rt28
noncomputable def kc28_2 (n : Nat × Nat) : St → Option R28 := fun s => normC [0] s (kq28_1 n)
noncomputable def S28 (n : Nat × Nat) (coins0 : List Int) : Option R28 := run (E28 n) c28 an28 rt28 (fun _ _ => none) rt28 { tm := [.c (.sl (.int .i64) coins0 false), uu, uu, uu, uu, uu, uu, uu, uu, uu, uu, uu, uu], hp := emp }
theorem S28_eq (n : Nat × Nat) (coins0 : List Int) : S28 n coins0 =
 (S26 n coins0).bind fun r1' =>
 (bif (r1' != 0) then some (false, r1')
 else (S67 n coins0).bind fun r2' =>
 some ((r2' == 0), 0)) := by kernel_rfl
theorem S28_run (n : Nat × Nat) (xs : pksDen pk28) : S28 n xs.1 = runG (E28 n) noScope c28 an28 (rtG rk28) (fun _ _ => none) (rtG rk28) (st0 pk28 xs Try.f28.ntmps) := by kernel_rfl
noncomputable def P28 (n : Nat × Nat) := phiOf pk28 rk28 (fun xs => S28 n xs.1)
theorem call28 : CallOK Try.prog 28 := callOK_of Try.func28 (by kernel_rfl) (by kernel_rfl)
theorem env28 (n : Nat × Nat) : EnvOK Try.prog (E28 n) := envOK0 (consPhi_ok (FC26 n) call26 (consPhi_ok (FC67 n) call67 noPhi_ok)) rfl rfl
theorem par28 (n : Nat × Nat) : EnvPar (E28 n) := envPar0 (consPhi_par phiOf_Par1 (consPhi_par phiOf_Par1 noPhi_par)) rfl
theorem FC28 (n : Nat × Nat) : FCs Try.prog 28 (P28 n) := phiOf_FCs fun xs r h vs hv => FC.of_runG tabOK eqsOK (env28 n) (par28 n) mixed (fun _ => noScope_ok) Try.func28 (c := c28) (an := an28) (pks := pk28) (rks := rk28) (by kernel_rfl) (by kernel_rfl) hv ((S28_run n xs).symm.trans h)
/-D 70 -/
noncomputable def DF70_1 (n : Nat × Nat) (f1 : List Int → Int → Int → Option R70) (l0 : List Int) (v3 : Int) (i4 : Int) : Option R70 :=
 (bif decide (i4 < (l0.length : Int)) then (idx l0 i4).bind fun x1' =>
      f1 l0 (wr .i64 (v3 + x1')) (wr .i64 (i4 + 1))
 else some v3)
noncomputable def DL70_1 (n : Nat × Nat) (m : Nat) : List Int → Int → Int → Option R70 := Nat.rec (motive := fun _ => List Int → Int → Int → Option R70) (fun _ _ _ => none) (fun _ ih => DF70_1 n ih) m
theorem DL70_1_succ (n : Nat × Nat) (m : Nat) : DL70_1 n (m + 1) = DF70_1 n (DL70_1 n m) := rfl
theorem DL70_1_eq (n : Nat × Nat) (hn : n.2 = 1) : ∀ m, L70_1 n m = DL70_1 n m
  | 0 => by funext l0 v3 i4; kernel_rfl
  | m + 1 => by
    have ih := DL70_1_eq n hn m
    funext l0 v3 i4; refine (L70_1_eq n m l0 v3 i4).trans ?_
    rw [DL70_1_succ]
    unfold DF70_1
    (try simp only [ih]) <;> first | with_reducible rfl | rfl
noncomputable def D70 (n : Nat × Nat) (l0 : List Int) : Option R70 :=
    DL70_1 n n.1 l0 0 0
theorem S70_D (n : Nat × Nat) (hn : n.2 = 1) : S70 n = D70 n := by
  funext l0; refine (S70_eq n l0).trans ?_
  unfold D70
  (try simp only [DL70_1_eq n hn]) <;> first | with_reducible rfl | rfl
/-D 67 -/
noncomputable def DF67_1 (n : Nat × Nat) (f1 : List Int → Int → Int → List Int → Option R67) (coins0 : List Int) (most3 : Int) (s5 : Int) (l4 : List Int) : Option R67 :=
 (bif decide (s5 < most3) then (D64 n coins0 s5).bind fun r4' =>
 (D70 n r4').bind fun r5' =>
 (bif inB s5 l4.length then (idx l4 s5).bind fun x6' =>
 (bif decide (r5' > x6') then some s5
 else f1 coins0 most3 (wr .i64 (s5 + 1)) l4)
 else none)
 else some 0)
noncomputable def DL67_1 (n : Nat × Nat) (m : Nat) : List Int → Int → Int → List Int → Option R67 := Nat.rec (motive := fun _ => List Int → Int → Int → List Int → Option R67) (fun _ _ _ _ => none) (fun _ ih => DF67_1 n ih) m
theorem DL67_1_succ (n : Nat × Nat) (m : Nat) : DL67_1 n (m + 1) = DF67_1 n (DL67_1 n m) := rfl
theorem DL67_1_eq (n : Nat × Nat) (hn : n.2 = 1) : ∀ m, L67_1 n m = DL67_1 n m
  | 0 => by funext coins0 most3 s5 l4; kernel_rfl
  | m + 1 => by
    have ih := DL67_1_eq n hn m
    funext coins0 most3 s5 l4; refine (L67_1_eq n m coins0 most3 s5 l4).trans ?_
    rw [DL67_1_succ]
    unfold DF67_1
    (try simp only [ih, S59_D n hn, S64_D n hn, S70_D n hn]) <;> first | with_reducible rfl | rfl
noncomputable def D67 (n : Nat × Nat) (coins0 : List Int) : Option R67 :=
 (bif decide ((coins0.length : Int) < 3) then some 0
 else (idx coins0 (wr .i64 ((coins0.length : Int) - 1))).bind fun x1' =>
 (idx coins0 (wr .i64 ((coins0.length : Int) - 2))).bind fun x2' =>
 (D59 n coins0 (wr .i64 (x1' + x2'))).bind fun r3' =>
      DL67_1 n n.1 coins0 (wr .i64 (x1' + x2')) 1 r3')
theorem S67_D (n : Nat × Nat) (hn : n.2 = 1) : S67 n = D67 n := by
  funext coins0; refine (S67_eq n coins0).trans ?_
  unfold D67
  (try simp only [DL67_1_eq n hn, S59_D n hn, S64_D n hn, S70_D n hn]) <;> first | with_reducible rfl | rfl
/-D 28 -/
noncomputable def D28 (n : Nat × Nat) (coins0 : List Int) : Option R28 :=
 (D26 n coins0).bind fun r1' =>
 (bif (r1' != 0) then some (false, r1')
 else (D67 n coins0).bind fun r2' =>
 some ((r2' == 0), 0))
theorem S28_D (n : Nat × Nat) (hn : n.2 = 1) : S28 n = D28 n := by
  funext coins0; refine (S28_eq n coins0).trans ?_
  unfold D28
  (try simp only [S26_D n hn, S67_D n hn]) <;> first | with_reducible rfl | rfl
abbrev R30 := Int × Int
noncomputable def c30 : Code := bodyOf Try.f30
noncomputable def an30 : Ann := (.s .l (.s .l (.s (.s .l (.j [0, 4] .l .l)) (.s (.s .l (.j [0] .l .l)) .l))))
def pk30 : List PK := [.c (.sl (.int .i64))]
def rk30 : List RK := [.c (.int .i64) 2, .c (.int .i64) 3]
noncomputable def rt30 (st : St) : Option R30 := rtG rk30 st
noncomputable def E30 (n : Nat × Nat) : Env := { T := tab, phi := (consPhi 26 (fun _ => true) (P26 n) (consPhi 67 (fun _ => true) (P67 n) noPhi)), eff := fun _ => false, fuel := n.1, hold := n.2 }
noncomputable def kq30_1 (n : Nat × Nat) : St → Option R30 := run (E30 n) (cB (cB (cB c30))) (Ann.snd (Ann.snd (Ann.snd an30))) rt30 (fun _ _ => none) rt30
noncomputable def kc30_2 (n : Nat × Nat) : St → Option R30 := fun s => normC [0, 4] s (kq30_1 n)
noncomputable def kq30_3 (n : Nat × Nat) : St → Option R30 := run (E30 n) (cB (cB (cB (cB c30)))) (Ann.snd (Ann.snd (Ann.snd (Ann.snd an30)))) rt30 (fun _ _ => none) rt30
noncomputable def kc30_4 (n : Nat × Nat) : St → Option R30 := fun s => normC [0] s (kq30_3 n)
noncomputable def S30 (n : Nat × Nat) (coins0 : List Int) : Option R30 := run (E30 n) c30 an30 rt30 (fun _ _ => none) rt30 { tm := [.c (.sl (.int .i64) coins0 false), uu, uu, uu, uu, uu, uu, uu, uu, uu, uu, uu, uu, uu, uu, uu, uu, uu, uu], hp := emp }
theorem S30_eq (n : Nat × Nat) (coins0 : List Int) : S30 n coins0 =
 (S26 n coins0).bind fun r1' =>
 ((bif ((r1' == 0) == true) then (S67 n coins0).bind fun r2' =>
 some (r2' == 0)
 else some false)).bind fun b3' =>
 (bif b3' then (bif (13 != 0) then some (0, 13)
 else (S67 n coins0).bind fun r4' =>
 some (r4', 0))
 else (bif (r1' != 0) then some (0, r1')
 else (S67 n coins0).bind fun r5' =>
 some (r5', 0))) := by kernel_rfl
theorem S30_run (n : Nat × Nat) (xs : pksDen pk30) : S30 n xs.1 = runG (E30 n) noScope c30 an30 (rtG rk30) (fun _ _ => none) (rtG rk30) (st0 pk30 xs Try.f30.ntmps) := by kernel_rfl
noncomputable def P30 (n : Nat × Nat) := phiOf pk30 rk30 (fun xs => S30 n xs.1)
theorem call30 : CallOK Try.prog 30 := callOK_of Try.func30 (by kernel_rfl) (by kernel_rfl)
theorem env30 (n : Nat × Nat) : EnvOK Try.prog (E30 n) := envOK0 (consPhi_ok (FC26 n) call26 (consPhi_ok (FC67 n) call67 noPhi_ok)) rfl rfl
theorem par30 (n : Nat × Nat) : EnvPar (E30 n) := envPar0 (consPhi_par phiOf_Par1 (consPhi_par phiOf_Par1 noPhi_par)) rfl
theorem FC30 (n : Nat × Nat) : FCs Try.prog 30 (P30 n) := phiOf_FCs fun xs r h vs hv => FC.of_runG tabOK eqsOK (env30 n) (par30 n) mixed (fun _ => noScope_ok) Try.func30 (c := c30) (an := an30) (pks := pk30) (rks := rk30) (by kernel_rfl) (by kernel_rfl) hv ((S30_run n xs).symm.trans h)
/-D 30 -/
noncomputable def D30 (n : Nat × Nat) (coins0 : List Int) : Option R30 :=
 (D26 n coins0).bind fun r1' =>
 ((bif ((r1' == 0) == true) then (D67 n coins0).bind fun r2' =>
 some (r2' == 0)
 else some false)).bind fun b3' =>
 (bif b3' then (bif (13 != 0) then some (0, 13)
 else (D67 n coins0).bind fun r4' =>
 some (r4', 0))
 else (bif (r1' != 0) then some (0, r1')
 else (D67 n coins0).bind fun r5' =>
 some (r5', 0)))
theorem S30_D (n : Nat × Nat) (hn : n.2 = 1) : S30 n = D30 n := by
  funext coins0; refine (S30_eq n coins0).trans ?_
  unfold D30
  (try simp only [S26_D n hn, S67_D n hn]) <;> first | with_reducible rfl | rfl
abbrev R69 := Int
noncomputable def c69 : Code := bodyOf Try.f69
noncomputable def an69 : Ann := (.s .l (.s (.s .l (.j [1] .l .l)) (.s (.s .l (.j [] (.j [1, 5] (.s (.s .l (.j [1, 5] .l .l)) (.s (.j [1, 5] (.s .l (.j [1, 5] .l .l)) .l) .l)) .l) .l)) .l)))
def pk69 : List PK := [.c (.sl (.int .i64)), .c (.sl (.int .i64))]
def rk69 : List RK := [.c (.int .i64) 4]
noncomputable def rt69 (st : St) : Option R69 := rtG rk69 st
noncomputable def E69 (n : Nat × Nat) : Env := { T := tab, phi := (consPhi 65 (fun _ => true) (P65 n) noPhi), eff := fun _ => false, fuel := n.1, hold := n.2 }
noncomputable def kq69_1 (n : Nat × Nat) : St → Option R69 := run (E69 n) (cB (cB c69)) (Ann.snd (Ann.snd an69)) rt69 (fun _ _ => none) rt69
noncomputable def kc69_2 (n : Nat × Nat) : St → Option R69 := fun s => normC [1] s (kq69_1 n)
noncomputable def kq69_3 (n : Nat × Nat) : St → Option R69 := run (E69 n) (cB (cB (cB c69))) (Ann.snd (Ann.snd (Ann.snd an69))) rt69 (fun _ _ => none) rt69
noncomputable def kc69_4 (n : Nat × Nat) : St → Option R69 := fun s => normC [] s (kq69_3 n)
noncomputable def xb69_5 (n : Nat × Nat) : Nat → St → Option R69 := fun j s => bif Nat.beq j 0 then normC [] s (kq69_3 n) else (fun _ _ => none) j s
noncomputable def F69_6 (n : Nat × Nat) : (St → Option R69) → St → Option R69 := fun K s => run (E69 n) (cA (cA (cB (cA (cB (cB c69)))))) (Ann.fst (Ann.fst (Ann.snd (Ann.fst (Ann.snd (Ann.snd an69)))))) (fun s => normC [1, 5] s K) (xb69_5 n) rt69 s
noncomputable def kq69_7 (n : Nat × Nat) (m1 : Nat) : St → Option R69 := run (E69 n) (cB (cA (cA (cB (cA (cB (cB c69))))))) (Ann.snd (Ann.fst (Ann.fst (Ann.snd (Ann.fst (Ann.snd (Ann.snd an69))))))) (fun s => normC [1, 5] s (loopN (F69_6 n) m1)) (xb69_5 n) rt69
noncomputable def kc69_8 (n : Nat × Nat) (m1 : Nat) : St → Option R69 := fun s => normC [1, 5] s (kq69_7 n m1)
noncomputable def kq69_9 (n : Nat × Nat) (m1 : Nat) : St → Option R69 := run (E69 n) (cB (cB (cA (cA (cB (cA (cB (cB c69)))))))) (Ann.snd (Ann.snd (Ann.fst (Ann.fst (Ann.snd (Ann.fst (Ann.snd (Ann.snd an69)))))))) (fun s => normC [1, 5] s (loopN (F69_6 n) m1)) (xb69_5 n) rt69
noncomputable def kc69_10 (n : Nat × Nat) (m1 : Nat) : St → Option R69 := fun s => normC [1, 5] s (kq69_9 n m1)
noncomputable def xb69_11 (n : Nat × Nat) (m1 : Nat) : Nat → St → Option R69 := fun j s => bif Nat.beq j 1 then normC [1, 5] s (kq69_9 n m1) else (xb69_5 n) j s
noncomputable def kc69_12 (n : Nat × Nat) (m1 : Nat) : St → Option R69 := fun s => normC [1, 5] s (kc69_10 n m1)
noncomputable def L69_1 (n : Nat × Nat) (m : Nat) (l1 : List Int) (i5 : Int) : Option R69 := loopN (F69_6 n) m { tm := [uu, .c (.sl (.int .i64) l1 false), uu, uu, uu, .c (.int .i64 i5), uu, uu, uu, uu, uu, uu, uu, uu, uu, uu, uu, uu, uu, uu, uu, uu, uu], hp := emp }
theorem L69_1_eq (n : Nat × Nat) (m1 : Nat) (l1 : List Int) (i5 : Int) : L69_1 n (m1 + 1) l1 i5 =
 (bif decide (i5 < (l1.length : Int)) then (idx l1 i5).bind fun x1' =>
 (S65 n x1' 0 200).bind fun r2' =>
 (bif (!r2') then some 1
 else L69_1 n m1 l1 (wr .i64 (i5 + 1)))
 else some 0) := by kernel_rfl
noncomputable def S69 (n : Nat × Nat) (coins0 : List Int) (l1 : List Int) : Option R69 := run (E69 n) c69 an69 rt69 (fun _ _ => none) rt69 { tm := [.c (.sl (.int .i64) coins0 false), .c (.sl (.int .i64) l1 false), uu, uu, uu, uu, uu, uu, uu, uu, uu, uu, uu, uu, uu, uu, uu, uu, uu, uu, uu, uu, uu], hp := emp }
theorem S69_eq (n : Nat × Nat) (coins0 : List Int) (l1 : List Int) : S69 n coins0 l1 =
 (bif ((l1.length : Int) != (coins0.length : Int)) then some 5
 else L69_1 n n.1 l1 0) := by kernel_rfl
theorem S69_run (n : Nat × Nat) (xs : pksDen pk69) : S69 n xs.1 xs.2.1 = runG (E69 n) noScope c69 an69 (rtG rk69) (fun _ _ => none) (rtG rk69) (st0 pk69 xs Try.f69.ntmps) := by kernel_rfl
noncomputable def P69 (n : Nat × Nat) := phiOf pk69 rk69 (fun xs => S69 n xs.1 xs.2.1)
theorem call69 : CallOK Try.prog 69 := callOK_of Try.func69 (by kernel_rfl) (by kernel_rfl)
theorem env69 (n : Nat × Nat) : EnvOK Try.prog (E69 n) := envOK0 (consPhi_ok (FC65 n) call65 noPhi_ok) rfl rfl
theorem par69 (n : Nat × Nat) : EnvPar (E69 n) := envPar0 (consPhi_par phiOf_Par1 noPhi_par) rfl
theorem FC69 (n : Nat × Nat) : FCs Try.prog 69 (P69 n) := phiOf_FCs fun xs r h vs hv => FC.of_runG tabOK eqsOK (env69 n) (par69 n) mixed (fun _ => noScope_ok) Try.func69 (c := c69) (an := an69) (pks := pk69) (rks := rk69) (by kernel_rfl) (by kernel_rfl) hv ((S69_run n xs).symm.trans h)
abbrev R32 := Int
noncomputable def c32 : Code := bodyOf Try.f32
noncomputable def an32 : Ann := (.s .l (.s .l (.s (.s .l (.j [0, 1, 2, 7] .l .l)) (.s (.s .l (.j [0, 1, 2] .l .l)) (.s .l (.s (.s .l (.j [0, 1, 2, 8] (.j [0, 1, 2, 8, 9] (.s (.s .l (.j [0, 1, 2, 8, 9] .l .l)) (.s (.j [0, 1, 2, 8, 9] .l .l) .l)) .l) .l)) (.s (.s .l (.j [0, 1, 2] .l .l)) (.s (.s .l (.j [] .l .l)) .l))))))))
def pk32 : List PK := [.c (.sl (.int .i64)), .c (.int .i64), .c (.sl (.int .i64))]
def rk32 : List RK := [.c (.int .i64) 6]
noncomputable def rt32 (st : St) : Option R32 := rtG rk32 st
noncomputable def E32 (n : Nat × Nat) : Env := { T := tab, phi := (consPhi 58 (fun _ => true) (P58 n) (consPhi 64 (fun _ => true) (P64 n) (consPhi 69 (fun _ => true) (P69 n) (consPhi 70 (fun _ => true) (P70 n) noPhi)))), eff := fun _ => false, fuel := n.1, hold := n.2 }
noncomputable def kq32_1 (n : Nat × Nat) : St → Option R32 := run (E32 n) (cB (cB (cB c32))) (Ann.snd (Ann.snd (Ann.snd an32))) rt32 (fun _ _ => none) rt32
noncomputable def kc32_2 (n : Nat × Nat) : St → Option R32 := fun s => normC [0, 1, 2, 7] s (kq32_1 n)
noncomputable def kq32_3 (n : Nat × Nat) : St → Option R32 := run (E32 n) (cB (cB (cB (cB c32)))) (Ann.snd (Ann.snd (Ann.snd (Ann.snd an32)))) rt32 (fun _ _ => none) rt32
noncomputable def kc32_4 (n : Nat × Nat) : St → Option R32 := fun s => normC [0, 1, 2] s (kq32_3 n)
noncomputable def kq32_5 (n : Nat × Nat) : St → Option R32 := run (E32 n) (cB (cB (cB (cB (cB (cB c32)))))) (Ann.snd (Ann.snd (Ann.snd (Ann.snd (Ann.snd (Ann.snd an32)))))) rt32 (fun _ _ => none) rt32
noncomputable def kc32_6 (n : Nat × Nat) : St → Option R32 := fun s => normC [0, 1, 2, 8] s (kq32_5 n)
noncomputable def xb32_7 (n : Nat × Nat) : Nat → St → Option R32 := fun j s => bif Nat.beq j 0 then normC [0, 1, 2, 8] s (kq32_5 n) else (fun _ _ => none) j s
noncomputable def F32_8 (n : Nat × Nat) : (St → Option R32) → St → Option R32 := fun K s => run (E32 n) (cA (cA (cB (cA (cB (cB (cB (cB (cB c32))))))))) (Ann.fst (Ann.fst (Ann.snd (Ann.fst (Ann.snd (Ann.snd (Ann.snd (Ann.snd (Ann.snd an32))))))))) (fun s => normC [0, 1, 2, 8, 9] s K) (xb32_7 n) rt32 s
noncomputable def kq32_9 (n : Nat × Nat) (m1 : Nat) : St → Option R32 := run (E32 n) (cB (cA (cA (cB (cA (cB (cB (cB (cB (cB c32)))))))))) (Ann.snd (Ann.fst (Ann.fst (Ann.snd (Ann.fst (Ann.snd (Ann.snd (Ann.snd (Ann.snd (Ann.snd an32)))))))))) (fun s => normC [0, 1, 2, 8, 9] s (loopN (F32_8 n) m1)) (xb32_7 n) rt32
noncomputable def kc32_10 (n : Nat × Nat) (m1 : Nat) : St → Option R32 := fun s => normC [0, 1, 2, 8, 9] s (kq32_9 n m1)
noncomputable def kq32_11 (n : Nat × Nat) (m1 : Nat) : St → Option R32 := run (E32 n) (cB (cB (cA (cA (cB (cA (cB (cB (cB (cB (cB c32))))))))))) (Ann.snd (Ann.snd (Ann.fst (Ann.fst (Ann.snd (Ann.fst (Ann.snd (Ann.snd (Ann.snd (Ann.snd (Ann.snd an32))))))))))) (fun s => normC [0, 1, 2, 8, 9] s (loopN (F32_8 n) m1)) (xb32_7 n) rt32
noncomputable def kc32_12 (n : Nat × Nat) (m1 : Nat) : St → Option R32 := fun s => normC [0, 1, 2, 8, 9] s (kq32_11 n m1)
noncomputable def xb32_13 (n : Nat × Nat) (m1 : Nat) : Nat → St → Option R32 := fun j s => bif Nat.beq j 1 then normC [0, 1, 2, 8, 9] s (kq32_11 n m1) else (xb32_7 n) j s
noncomputable def kq32_14 (n : Nat × Nat) : St → Option R32 := run (E32 n) (cB (cB (cB (cB (cB (cB (cB c32))))))) (Ann.snd (Ann.snd (Ann.snd (Ann.snd (Ann.snd (Ann.snd (Ann.snd an32))))))) rt32 (fun _ _ => none) rt32
noncomputable def kc32_15 (n : Nat × Nat) : St → Option R32 := fun s => normC [0, 1, 2] s (kq32_14 n)
noncomputable def kq32_16 (n : Nat × Nat) : St → Option R32 := run (E32 n) (cB (cB (cB (cB (cB (cB (cB (cB c32)))))))) (Ann.snd (Ann.snd (Ann.snd (Ann.snd (Ann.snd (Ann.snd (Ann.snd (Ann.snd an32)))))))) rt32 (fun _ _ => none) rt32
noncomputable def kc32_17 (n : Nat × Nat) : St → Option R32 := fun s => normC [] s (kq32_16 n)
noncomputable def L32_1 (n : Nat × Nat) (m : Nat) (coins0 : List Int) (sum1 : Int) (payment2 : List Int) (v8 : Int) (i9 : Int) : Option R32 := loopN (F32_8 n) m { tm := [.c (.sl (.int .i64) coins0 false), .c (.int .i64 sum1), .c (.sl (.int .i64) payment2 false), uu, uu, uu, uu, uu, .c (.int .i64 v8), .c (.int .i64 i9), uu, uu, uu, uu, uu, uu, uu, uu, uu, uu, uu, uu, uu, uu, uu, uu, uu, uu, uu, uu, uu, uu, uu, uu, uu, uu, uu, uu, uu, uu, uu, uu, uu, uu, uu, uu, uu, uu], hp := emp }
theorem L32_1_eq (n : Nat × Nat) (m1 : Nat) (coins0 : List Int) (sum1 : Int) (payment2 : List Int) (v8 : Int) (i9 : Int) : L32_1 n (m1 + 1) coins0 sum1 payment2 v8 i9 =
 (bif decide (i9 < (coins0.length : Int)) then (idx coins0 i9).bind fun x3' =>
 (idx payment2 i9).bind fun x4' =>
      L32_1 n m1 coins0 sum1 payment2 (wr .i64 (v8 + (wr .i64 (x3' * x4')))) (wr .i64 (i9 + 1))
 else (bif (v8 != sum1) then some 17
 else (S70 n payment2).bind fun r5' =>
 (S64 n coins0 sum1).bind fun r6' =>
 (S70 n r6').bind fun r7' =>
 (bif decide (r5' ≥ r7') then some 14
 else some 0))) := by kernel_rfl
noncomputable def S32 (n : Nat × Nat) (coins0 : List Int) (sum1 : Int) (payment2 : List Int) : Option R32 := run (E32 n) c32 an32 rt32 (fun _ _ => none) rt32 { tm := [.c (.sl (.int .i64) coins0 false), .c (.int .i64 sum1), .c (.sl (.int .i64) payment2 false), uu, uu, uu, uu, uu, uu, uu, uu, uu, uu, uu, uu, uu, uu, uu, uu, uu, uu, uu, uu, uu, uu, uu, uu, uu, uu, uu, uu, uu, uu, uu, uu, uu, uu, uu, uu, uu, uu, uu, uu, uu, uu, uu, uu, uu], hp := emp }
theorem S32_eq (n : Nat × Nat) (coins0 : List Int) (sum1 : Int) (payment2 : List Int) : S32 n coins0 sum1 payment2 =
 (S58 n coins0 sum1).bind fun r1' =>
 (bif (r1' == 0) then (S69 n coins0 payment2).bind fun r2' =>
 (bif (r2' != 0) then some r2'
 else L32_1 n n.1 coins0 sum1 payment2 0 0)
 else (bif (r1' != 0) then some r1'
 else L32_1 n n.1 coins0 sum1 payment2 0 0)) := by kernel_rfl
theorem S32_run (n : Nat × Nat) (xs : pksDen pk32) : S32 n xs.1 xs.2.1 xs.2.2.1 = runG (E32 n) noScope c32 an32 (rtG rk32) (fun _ _ => none) (rtG rk32) (st0 pk32 xs Try.f32.ntmps) := by kernel_rfl
noncomputable def P32 (n : Nat × Nat) := phiOf pk32 rk32 (fun xs => S32 n xs.1 xs.2.1 xs.2.2.1)
theorem call32 : CallOK Try.prog 32 := callOK_of Try.func32 (by kernel_rfl) (by kernel_rfl)
theorem env32 (n : Nat × Nat) : EnvOK Try.prog (E32 n) := envOK0 (consPhi_ok (FC58 n) call58 (consPhi_ok (FC64 n) call64 (consPhi_ok (FC69 n) call69 (consPhi_ok (FC70 n) call70 noPhi_ok)))) rfl rfl
theorem par32 (n : Nat × Nat) : EnvPar (E32 n) := envPar0 (consPhi_par phiOf_Par1 (consPhi_par phiOf_Par1 (consPhi_par phiOf_Par1 (consPhi_par phiOf_Par1 noPhi_par)))) rfl
theorem FC32 (n : Nat × Nat) : FCs Try.prog 32 (P32 n) := phiOf_FCs fun xs r h vs hv => FC.of_runG tabOK eqsOK (env32 n) (par32 n) mixed (fun _ => noScope_ok) Try.func32 (c := c32) (an := an32) (pks := pk32) (rks := rk32) (by kernel_rfl) (by kernel_rfl) hv ((S32_run n xs).symm.trans h)
/-D 69 -/
noncomputable def DF69_1 (n : Nat × Nat) (f1 : List Int → Int → Option R69) (l1 : List Int) (i5 : Int) : Option R69 :=
 (bif decide (i5 < (l1.length : Int)) then (idx l1 i5).bind fun x1' =>
 (D65 n x1' 0 200).bind fun r2' =>
 (bif (!r2') then some 1
 else f1 l1 (wr .i64 (i5 + 1)))
 else some 0)
noncomputable def DL69_1 (n : Nat × Nat) (m : Nat) : List Int → Int → Option R69 := Nat.rec (motive := fun _ => List Int → Int → Option R69) (fun _ _ => none) (fun _ ih => DF69_1 n ih) m
theorem DL69_1_succ (n : Nat × Nat) (m : Nat) : DL69_1 n (m + 1) = DF69_1 n (DL69_1 n m) := rfl
theorem DL69_1_eq (n : Nat × Nat) (hn : n.2 = 1) : ∀ m, L69_1 n m = DL69_1 n m
  | 0 => by funext l1 i5; kernel_rfl
  | m + 1 => by
    have ih := DL69_1_eq n hn m
    funext l1 i5; refine (L69_1_eq n m l1 i5).trans ?_
    rw [DL69_1_succ]
    unfold DF69_1
    (try simp only [ih, S65_D n hn]) <;> first | with_reducible rfl | rfl
noncomputable def D69 (n : Nat × Nat) (coins0 : List Int) (l1 : List Int) : Option R69 :=
 (bif ((l1.length : Int) != (coins0.length : Int)) then some 5
 else DL69_1 n n.1 l1 0)
theorem S69_D (n : Nat × Nat) (hn : n.2 = 1) : S69 n = D69 n := by
  funext coins0 l1; refine (S69_eq n coins0 l1).trans ?_
  unfold D69
  (try simp only [DL69_1_eq n hn, S65_D n hn]) <;> first | with_reducible rfl | rfl
/-D 32 -/
noncomputable def DF32_1 (n : Nat × Nat) (f1 : List Int → Int → List Int → Int → Int → Option R32) (coins0 : List Int) (sum1 : Int) (payment2 : List Int) (v8 : Int) (i9 : Int) : Option R32 :=
 (bif decide (i9 < (coins0.length : Int)) then (idx coins0 i9).bind fun x3' =>
 (idx payment2 i9).bind fun x4' =>
      f1 coins0 sum1 payment2 (wr .i64 (v8 + (wr .i64 (x3' * x4')))) (wr .i64 (i9 + 1))
 else (bif (v8 != sum1) then some 17
 else (D70 n payment2).bind fun r5' =>
 (D64 n coins0 sum1).bind fun r6' =>
 (D70 n r6').bind fun r7' =>
 (bif decide (r5' ≥ r7') then some 14
 else some 0)))
noncomputable def DL32_1 (n : Nat × Nat) (m : Nat) : List Int → Int → List Int → Int → Int → Option R32 := Nat.rec (motive := fun _ => List Int → Int → List Int → Int → Int → Option R32) (fun _ _ _ _ _ => none) (fun _ ih => DF32_1 n ih) m
theorem DL32_1_succ (n : Nat × Nat) (m : Nat) : DL32_1 n (m + 1) = DF32_1 n (DL32_1 n m) := rfl
theorem DL32_1_eq (n : Nat × Nat) (hn : n.2 = 1) : ∀ m, L32_1 n m = DL32_1 n m
  | 0 => by funext coins0 sum1 payment2 v8 i9; kernel_rfl
  | m + 1 => by
    have ih := DL32_1_eq n hn m
    funext coins0 sum1 payment2 v8 i9; refine (L32_1_eq n m coins0 sum1 payment2 v8 i9).trans ?_
    rw [DL32_1_succ]
    unfold DF32_1
    (try simp only [ih, S58_D n hn, S64_D n hn, S69_D n hn, S70_D n hn]) <;> first | with_reducible rfl | rfl
noncomputable def D32 (n : Nat × Nat) (coins0 : List Int) (sum1 : Int) (payment2 : List Int) : Option R32 :=
 (D58 n coins0 sum1).bind fun r1' =>
 (bif (r1' == 0) then (D69 n coins0 payment2).bind fun r2' =>
 (bif (r2' != 0) then some r2'
 else DL32_1 n n.1 coins0 sum1 payment2 0 0)
 else (bif (r1' != 0) then some r1'
 else DL32_1 n n.1 coins0 sum1 payment2 0 0))
theorem S32_D (n : Nat × Nat) (hn : n.2 = 1) : S32 n = D32 n := by
  funext coins0 sum1 payment2; refine (S32_eq n coins0 sum1 payment2).trans ?_
  unfold D32
  (try simp only [DL32_1_eq n hn, S58_D n hn, S64_D n hn, S69_D n hn, S70_D n hn]) <;> first | with_reducible rfl | rfl
abbrev R34 := Bool × Int
noncomputable def c34 : Code := bodyOf Try.f34
noncomputable def an34 : Ann := (.s .l (.s .l (.s (.s .l (.j [0, 1, 6, 19, 20, 25, 26, 27, 28, 29, 30, 31, 32, 37, 38, 39] .l .l)) (.s (.s .l (.j [0, 1, 6, 25, 26, 27, 28, 29, 30, 31, 32, 37, 38, 39] .l .l)) (.s (.s .l (.j [0, 1, 6, 37, 38, 39] .l .l)) (.s (.s .l (.j [0, 1, 6] .l .l)) (.s (.s .l (.j [0, 1] .l .l)) .l)))))))
def pk34 : List PK := [.c (.sl (.int .i64)), .c (.int .i64)]
def rk34 : List RK := [.c .bool 4, .c (.int .i64) 5]
noncomputable def rt34 (st : St) : Option R34 := rtG rk34 st
noncomputable def E34 (n : Nat × Nat) : Env := { T := tab, phi := (consPhi 26 (fun _ => true) (P26 n) (consPhi 67 (fun _ => true) (P67 n) noPhi)), eff := fun _ => false, fuel := n.1, hold := n.2 }
noncomputable def kq34_1 (n : Nat × Nat) : St → Option R34 := run (E34 n) (cB (cB (cB c34))) (Ann.snd (Ann.snd (Ann.snd an34))) rt34 (fun _ _ => none) rt34
noncomputable def kc34_2 (n : Nat × Nat) : St → Option R34 := fun s => normC [0, 1, 6, 19, 20, 25, 26, 27, 28, 29, 30, 31, 32, 37, 38, 39] s (kq34_1 n)
noncomputable def kq34_3 (n : Nat × Nat) : St → Option R34 := run (E34 n) (cB (cB (cB (cB c34)))) (Ann.snd (Ann.snd (Ann.snd (Ann.snd an34)))) rt34 (fun _ _ => none) rt34
noncomputable def kc34_4 (n : Nat × Nat) : St → Option R34 := fun s => normC [0, 1, 6, 25, 26, 27, 28, 29, 30, 31, 32, 37, 38, 39] s (kq34_3 n)
noncomputable def kq34_5 (n : Nat × Nat) : St → Option R34 := run (E34 n) (cB (cB (cB (cB (cB c34))))) (Ann.snd (Ann.snd (Ann.snd (Ann.snd (Ann.snd an34))))) rt34 (fun _ _ => none) rt34
noncomputable def kc34_6 (n : Nat × Nat) : St → Option R34 := fun s => normC [0, 1, 6, 37, 38, 39] s (kq34_5 n)
noncomputable def kq34_7 (n : Nat × Nat) : St → Option R34 := run (E34 n) (cB (cB (cB (cB (cB (cB c34)))))) (Ann.snd (Ann.snd (Ann.snd (Ann.snd (Ann.snd (Ann.snd an34)))))) rt34 (fun _ _ => none) rt34
noncomputable def kc34_8 (n : Nat × Nat) : St → Option R34 := fun s => normC [0, 1, 6] s (kq34_7 n)
noncomputable def kq34_9 (n : Nat × Nat) : St → Option R34 := run (E34 n) (cB (cB (cB (cB (cB (cB (cB c34))))))) (Ann.snd (Ann.snd (Ann.snd (Ann.snd (Ann.snd (Ann.snd (Ann.snd an34))))))) rt34 (fun _ _ => none) rt34
noncomputable def kc34_10 (n : Nat × Nat) : St → Option R34 := fun s => normC [0, 1] s (kq34_9 n)
noncomputable def S34 (n : Nat × Nat) (coins0 : List Int) (coin1 : Int) : Option R34 := run (E34 n) c34 an34 rt34 (fun _ _ => none) rt34 { tm := [.c (.sl (.int .i64) coins0 false), .c (.int .i64 coin1), uu, uu, uu, uu, uu, uu, uu, uu, uu, uu, uu, uu, uu, uu, uu, uu, uu, uu, uu, uu, uu, uu, uu, uu, uu, uu, uu, uu, uu, uu, uu, uu, uu, uu, uu, uu, uu, uu, uu, uu, uu, uu, uu, uu, uu, uu, uu, uu, uu, uu], hp := emp }
theorem S34_eq (n : Nat × Nat) (coins0 : List Int) (coin1 : Int) : S34 n coins0 coin1 =
 (S26 n coins0).bind fun r1' =>
 ((bif ((r1' == 0) == true) then some ((coins0.length : Int) == 6)
 else some false)).bind fun b2' =>
 (bif b2' then ((bif ((3 == 0) == true) then some (decide (coin1 > 40))
 else some false)).bind fun b3' =>
 (bif b3' then ((bif ((1 == 0) == true) then (idx coins0 (wr .i64 ((coins0.length : Int) - 1))).bind fun x4' =>
 some (decide (coin1 ≤ x4'))
 else some false)).bind fun b5' =>
 (bif b5' then ((bif ((7 == 0) == true) then (S67 n coins0).bind fun r6' =>
 some (decide (r6' > 0))
 else some false)).bind fun b7' =>
 (bif b7' then (bif (13 != 0) then some (false, 13)
 else (bif decide (([] : List Int).length + coins0.length ≤ lim) then (bif decide (([] ++ coins0).length + [coin1].length ≤ lim) then (S67 n (([] ++ coins0) ++ [coin1])).bind fun r8' =>
 some ((r8' == 0), 0)
 else none)
 else none))
 else (bif (7 != 0) then some (false, 7)
 else (bif decide (([] : List Int).length + coins0.length ≤ lim) then (bif decide (([] ++ coins0).length + [coin1].length ≤ lim) then (S67 n (([] ++ coins0) ++ [coin1])).bind fun r9' =>
 some ((r9' == 0), 0)
 else none)
 else none)))
 else ((bif ((1 == 0) == true) then (S67 n coins0).bind fun r10' =>
 some (decide (r10' > 0))
 else some false)).bind fun b11' =>
 (bif b11' then (bif (13 != 0) then some (false, 13)
 else (bif decide (([] : List Int).length + coins0.length ≤ lim) then (bif decide (([] ++ coins0).length + [coin1].length ≤ lim) then (S67 n (([] ++ coins0) ++ [coin1])).bind fun r12' =>
 some ((r12' == 0), 0)
 else none)
 else none))
 else (bif (1 != 0) then some (false, 1)
 else (bif decide (([] : List Int).length + coins0.length ≤ lim) then (bif decide (([] ++ coins0).length + [coin1].length ≤ lim) then (S67 n (([] ++ coins0) ++ [coin1])).bind fun r13' =>
 some ((r13' == 0), 0)
 else none)
 else none))))
 else ((bif ((3 == 0) == true) then (idx coins0 (wr .i64 ((coins0.length : Int) - 1))).bind fun x14' =>
 some (decide (coin1 ≤ x14'))
 else some false)).bind fun b15' =>
 (bif b15' then ((bif ((7 == 0) == true) then (S67 n coins0).bind fun r16' =>
 some (decide (r16' > 0))
 else some false)).bind fun b17' =>
 (bif b17' then (bif (13 != 0) then some (false, 13)
 else (bif decide (([] : List Int).length + coins0.length ≤ lim) then (bif decide (([] ++ coins0).length + [coin1].length ≤ lim) then (S67 n (([] ++ coins0) ++ [coin1])).bind fun r18' =>
 some ((r18' == 0), 0)
 else none)
 else none))
 else (bif (7 != 0) then some (false, 7)
 else (bif decide (([] : List Int).length + coins0.length ≤ lim) then (bif decide (([] ++ coins0).length + [coin1].length ≤ lim) then (S67 n (([] ++ coins0) ++ [coin1])).bind fun r19' =>
 some ((r19' == 0), 0)
 else none)
 else none)))
 else ((bif ((3 == 0) == true) then (S67 n coins0).bind fun r20' =>
 some (decide (r20' > 0))
 else some false)).bind fun b21' =>
 (bif b21' then (bif (13 != 0) then some (false, 13)
 else (bif decide (([] : List Int).length + coins0.length ≤ lim) then (bif decide (([] ++ coins0).length + [coin1].length ≤ lim) then (S67 n (([] ++ coins0) ++ [coin1])).bind fun r22' =>
 some ((r22' == 0), 0)
 else none)
 else none))
 else (bif (3 != 0) then some (false, 3)
 else (bif decide (([] : List Int).length + coins0.length ≤ lim) then (bif decide (([] ++ coins0).length + [coin1].length ≤ lim) then (S67 n (([] ++ coins0) ++ [coin1])).bind fun r23' =>
 some ((r23' == 0), 0)
 else none)
 else none)))))
 else ((bif ((r1' == 0) == true) then some (decide (coin1 > 40))
 else some false)).bind fun b24' =>
 (bif b24' then ((bif ((1 == 0) == true) then (idx coins0 (wr .i64 ((coins0.length : Int) - 1))).bind fun x25' =>
 some (decide (coin1 ≤ x25'))
 else some false)).bind fun b26' =>
 (bif b26' then ((bif ((7 == 0) == true) then (S67 n coins0).bind fun r27' =>
 some (decide (r27' > 0))
 else some false)).bind fun b28' =>
 (bif b28' then (bif (13 != 0) then some (false, 13)
 else (bif decide (([] : List Int).length + coins0.length ≤ lim) then (bif decide (([] ++ coins0).length + [coin1].length ≤ lim) then (S67 n (([] ++ coins0) ++ [coin1])).bind fun r29' =>
 some ((r29' == 0), 0)
 else none)
 else none))
 else (bif (7 != 0) then some (false, 7)
 else (bif decide (([] : List Int).length + coins0.length ≤ lim) then (bif decide (([] ++ coins0).length + [coin1].length ≤ lim) then (S67 n (([] ++ coins0) ++ [coin1])).bind fun r30' =>
 some ((r30' == 0), 0)
 else none)
 else none)))
 else ((bif ((1 == 0) == true) then (S67 n coins0).bind fun r31' =>
 some (decide (r31' > 0))
 else some false)).bind fun b32' =>
 (bif b32' then (bif (13 != 0) then some (false, 13)
 else (bif decide (([] : List Int).length + coins0.length ≤ lim) then (bif decide (([] ++ coins0).length + [coin1].length ≤ lim) then (S67 n (([] ++ coins0) ++ [coin1])).bind fun r33' =>
 some ((r33' == 0), 0)
 else none)
 else none))
 else (bif (1 != 0) then some (false, 1)
 else (bif decide (([] : List Int).length + coins0.length ≤ lim) then (bif decide (([] ++ coins0).length + [coin1].length ≤ lim) then (S67 n (([] ++ coins0) ++ [coin1])).bind fun r34' =>
 some ((r34' == 0), 0)
 else none)
 else none))))
 else ((bif ((r1' == 0) == true) then (idx coins0 (wr .i64 ((coins0.length : Int) - 1))).bind fun x35' =>
 some (decide (coin1 ≤ x35'))
 else some false)).bind fun b36' =>
 (bif b36' then ((bif ((7 == 0) == true) then (S67 n coins0).bind fun r37' =>
 some (decide (r37' > 0))
 else some false)).bind fun b38' =>
 (bif b38' then (bif (13 != 0) then some (false, 13)
 else (bif decide (([] : List Int).length + coins0.length ≤ lim) then (bif decide (([] ++ coins0).length + [coin1].length ≤ lim) then (S67 n (([] ++ coins0) ++ [coin1])).bind fun r39' =>
 some ((r39' == 0), 0)
 else none)
 else none))
 else (bif (7 != 0) then some (false, 7)
 else (bif decide (([] : List Int).length + coins0.length ≤ lim) then (bif decide (([] ++ coins0).length + [coin1].length ≤ lim) then (S67 n (([] ++ coins0) ++ [coin1])).bind fun r40' =>
 some ((r40' == 0), 0)
 else none)
 else none)))
 else ((bif ((r1' == 0) == true) then (S67 n coins0).bind fun r41' =>
 some (decide (r41' > 0))
 else some false)).bind fun b42' =>
 (bif b42' then (bif (13 != 0) then some (false, 13)
 else (bif decide (([] : List Int).length + coins0.length ≤ lim) then (bif decide (([] ++ coins0).length + [coin1].length ≤ lim) then (S67 n (([] ++ coins0) ++ [coin1])).bind fun r43' =>
 some ((r43' == 0), 0)
 else none)
 else none))
 else (bif (r1' != 0) then some (false, r1')
 else (bif decide (([] : List Int).length + coins0.length ≤ lim) then (bif decide (([] ++ coins0).length + [coin1].length ≤ lim) then (S67 n (([] ++ coins0) ++ [coin1])).bind fun r44' =>
 some ((r44' == 0), 0)
 else none)
 else none)))))) := by kernel_rfl
theorem S34_run (n : Nat × Nat) (xs : pksDen pk34) : S34 n xs.1 xs.2.1 = runG (E34 n) noScope c34 an34 (rtG rk34) (fun _ _ => none) (rtG rk34) (st0 pk34 xs Try.f34.ntmps) := by kernel_rfl
noncomputable def P34 (n : Nat × Nat) := phiOf pk34 rk34 (fun xs => S34 n xs.1 xs.2.1)
theorem call34 : CallOK Try.prog 34 := callOK_of Try.func34 (by kernel_rfl) (by kernel_rfl)
theorem env34 (n : Nat × Nat) : EnvOK Try.prog (E34 n) := envOK0 (consPhi_ok (FC26 n) call26 (consPhi_ok (FC67 n) call67 noPhi_ok)) rfl rfl
theorem par34 (n : Nat × Nat) : EnvPar (E34 n) := envPar0 (consPhi_par phiOf_Par1 (consPhi_par phiOf_Par1 noPhi_par)) rfl
theorem FC34 (n : Nat × Nat) : FCs Try.prog 34 (P34 n) := phiOf_FCs fun xs r h vs hv => FC.of_runG tabOK eqsOK (env34 n) (par34 n) mixed (fun _ => noScope_ok) Try.func34 (c := c34) (an := an34) (pks := pk34) (rks := rk34) (by kernel_rfl) (by kernel_rfl) hv ((S34_run n xs).symm.trans h)
/-D 34 -/
noncomputable def D34 (n : Nat × Nat) (coins0 : List Int) (coin1 : Int) : Option R34 :=
 (D26 n coins0).bind fun r1' =>
 ((bif ((r1' == 0) == true) then some ((coins0.length : Int) == 6)
 else some false)).bind fun b2' =>
 (bif b2' then ((bif ((3 == 0) == true) then some (decide (coin1 > 40))
 else some false)).bind fun b3' =>
 (bif b3' then ((bif ((1 == 0) == true) then (idx coins0 (wr .i64 ((coins0.length : Int) - 1))).bind fun x4' =>
 some (decide (coin1 ≤ x4'))
 else some false)).bind fun b5' =>
 (bif b5' then ((bif ((7 == 0) == true) then (D67 n coins0).bind fun r6' =>
 some (decide (r6' > 0))
 else some false)).bind fun b7' =>
 (bif b7' then (bif (13 != 0) then some (false, 13)
 else (bif decide (([] : List Int).length + coins0.length ≤ lim) then (bif decide (([] ++ coins0).length + [coin1].length ≤ lim) then (D67 n (([] ++ coins0) ++ [coin1])).bind fun r8' =>
 some ((r8' == 0), 0)
 else none)
 else none))
 else (bif (7 != 0) then some (false, 7)
 else (bif decide (([] : List Int).length + coins0.length ≤ lim) then (bif decide (([] ++ coins0).length + [coin1].length ≤ lim) then (D67 n (([] ++ coins0) ++ [coin1])).bind fun r9' =>
 some ((r9' == 0), 0)
 else none)
 else none)))
 else ((bif ((1 == 0) == true) then (D67 n coins0).bind fun r10' =>
 some (decide (r10' > 0))
 else some false)).bind fun b11' =>
 (bif b11' then (bif (13 != 0) then some (false, 13)
 else (bif decide (([] : List Int).length + coins0.length ≤ lim) then (bif decide (([] ++ coins0).length + [coin1].length ≤ lim) then (D67 n (([] ++ coins0) ++ [coin1])).bind fun r12' =>
 some ((r12' == 0), 0)
 else none)
 else none))
 else (bif (1 != 0) then some (false, 1)
 else (bif decide (([] : List Int).length + coins0.length ≤ lim) then (bif decide (([] ++ coins0).length + [coin1].length ≤ lim) then (D67 n (([] ++ coins0) ++ [coin1])).bind fun r13' =>
 some ((r13' == 0), 0)
 else none)
 else none))))
 else ((bif ((3 == 0) == true) then (idx coins0 (wr .i64 ((coins0.length : Int) - 1))).bind fun x14' =>
 some (decide (coin1 ≤ x14'))
 else some false)).bind fun b15' =>
 (bif b15' then ((bif ((7 == 0) == true) then (D67 n coins0).bind fun r16' =>
 some (decide (r16' > 0))
 else some false)).bind fun b17' =>
 (bif b17' then (bif (13 != 0) then some (false, 13)
 else (bif decide (([] : List Int).length + coins0.length ≤ lim) then (bif decide (([] ++ coins0).length + [coin1].length ≤ lim) then (D67 n (([] ++ coins0) ++ [coin1])).bind fun r18' =>
 some ((r18' == 0), 0)
 else none)
 else none))
 else (bif (7 != 0) then some (false, 7)
 else (bif decide (([] : List Int).length + coins0.length ≤ lim) then (bif decide (([] ++ coins0).length + [coin1].length ≤ lim) then (D67 n (([] ++ coins0) ++ [coin1])).bind fun r19' =>
 some ((r19' == 0), 0)
 else none)
 else none)))
 else ((bif ((3 == 0) == true) then (D67 n coins0).bind fun r20' =>
 some (decide (r20' > 0))
 else some false)).bind fun b21' =>
 (bif b21' then (bif (13 != 0) then some (false, 13)
 else (bif decide (([] : List Int).length + coins0.length ≤ lim) then (bif decide (([] ++ coins0).length + [coin1].length ≤ lim) then (D67 n (([] ++ coins0) ++ [coin1])).bind fun r22' =>
 some ((r22' == 0), 0)
 else none)
 else none))
 else (bif (3 != 0) then some (false, 3)
 else (bif decide (([] : List Int).length + coins0.length ≤ lim) then (bif decide (([] ++ coins0).length + [coin1].length ≤ lim) then (D67 n (([] ++ coins0) ++ [coin1])).bind fun r23' =>
 some ((r23' == 0), 0)
 else none)
 else none)))))
 else ((bif ((r1' == 0) == true) then some (decide (coin1 > 40))
 else some false)).bind fun b24' =>
 (bif b24' then ((bif ((1 == 0) == true) then (idx coins0 (wr .i64 ((coins0.length : Int) - 1))).bind fun x25' =>
 some (decide (coin1 ≤ x25'))
 else some false)).bind fun b26' =>
 (bif b26' then ((bif ((7 == 0) == true) then (D67 n coins0).bind fun r27' =>
 some (decide (r27' > 0))
 else some false)).bind fun b28' =>
 (bif b28' then (bif (13 != 0) then some (false, 13)
 else (bif decide (([] : List Int).length + coins0.length ≤ lim) then (bif decide (([] ++ coins0).length + [coin1].length ≤ lim) then (D67 n (([] ++ coins0) ++ [coin1])).bind fun r29' =>
 some ((r29' == 0), 0)
 else none)
 else none))
 else (bif (7 != 0) then some (false, 7)
 else (bif decide (([] : List Int).length + coins0.length ≤ lim) then (bif decide (([] ++ coins0).length + [coin1].length ≤ lim) then (D67 n (([] ++ coins0) ++ [coin1])).bind fun r30' =>
 some ((r30' == 0), 0)
 else none)
 else none)))
 else ((bif ((1 == 0) == true) then (D67 n coins0).bind fun r31' =>
 some (decide (r31' > 0))
 else some false)).bind fun b32' =>
 (bif b32' then (bif (13 != 0) then some (false, 13)
 else (bif decide (([] : List Int).length + coins0.length ≤ lim) then (bif decide (([] ++ coins0).length + [coin1].length ≤ lim) then (D67 n (([] ++ coins0) ++ [coin1])).bind fun r33' =>
 some ((r33' == 0), 0)
 else none)
 else none))
 else (bif (1 != 0) then some (false, 1)
 else (bif decide (([] : List Int).length + coins0.length ≤ lim) then (bif decide (([] ++ coins0).length + [coin1].length ≤ lim) then (D67 n (([] ++ coins0) ++ [coin1])).bind fun r34' =>
 some ((r34' == 0), 0)
 else none)
 else none))))
 else ((bif ((r1' == 0) == true) then (idx coins0 (wr .i64 ((coins0.length : Int) - 1))).bind fun x35' =>
 some (decide (coin1 ≤ x35'))
 else some false)).bind fun b36' =>
 (bif b36' then ((bif ((7 == 0) == true) then (D67 n coins0).bind fun r37' =>
 some (decide (r37' > 0))
 else some false)).bind fun b38' =>
 (bif b38' then (bif (13 != 0) then some (false, 13)
 else (bif decide (([] : List Int).length + coins0.length ≤ lim) then (bif decide (([] ++ coins0).length + [coin1].length ≤ lim) then (D67 n (([] ++ coins0) ++ [coin1])).bind fun r39' =>
 some ((r39' == 0), 0)
 else none)
 else none))
 else (bif (7 != 0) then some (false, 7)
 else (bif decide (([] : List Int).length + coins0.length ≤ lim) then (bif decide (([] ++ coins0).length + [coin1].length ≤ lim) then (D67 n (([] ++ coins0) ++ [coin1])).bind fun r40' =>
 some ((r40' == 0), 0)
 else none)
 else none)))
 else ((bif ((r1' == 0) == true) then (D67 n coins0).bind fun r41' =>
 some (decide (r41' > 0))
 else some false)).bind fun b42' =>
 (bif b42' then (bif (13 != 0) then some (false, 13)
 else (bif decide (([] : List Int).length + coins0.length ≤ lim) then (bif decide (([] ++ coins0).length + [coin1].length ≤ lim) then (D67 n (([] ++ coins0) ++ [coin1])).bind fun r43' =>
 some ((r43' == 0), 0)
 else none)
 else none))
 else (bif (r1' != 0) then some (false, r1')
 else (bif decide (([] : List Int).length + coins0.length ≤ lim) then (bif decide (([] ++ coins0).length + [coin1].length ≤ lim) then (D67 n (([] ++ coins0) ++ [coin1])).bind fun r44' =>
 some ((r44' == 0), 0)
 else none)
 else none))))))
theorem S34_D (n : Nat × Nat) (hn : n.2 = 1) : S34 n = D34 n := by
  funext coins0 coin1; refine (S34_eq n coins0 coin1).trans ?_
  unfold D34
  (try simp only [S26_D n hn, S67_D n hn]) <;> first | with_reducible rfl | rfl
abbrev R36 := Int × Int
noncomputable def c36 : Code := bodyOf Try.f36
noncomputable def an36 : Ann := (.s .l (.s .l (.s (.s .l (.j [0, 1, 6] .l .l)) (.s (.s .l (.j [0, 1] .l .l)) (.s .l (.s .l (.s (.j [8] (.j [1, 7, 8] (.s (.s .l (.j [1, 7, 8] .l .l)) (.j [1, 7, 8] .l .l)) .l) .l) .l)))))))
def pk36 : List PK := [.c (.sl (.int .i64)), .c (.int .i64)]
def rk36 : List RK := [.c (.int .i64) 4, .c (.int .i64) 5]
noncomputable def rt36 (st : St) : Option R36 := rtG rk36 st
noncomputable def E36 (n : Nat × Nat) : Env := { T := tab, phi := (consPhi 26 (fun _ => true) (P26 n) (consPhi 59 (fun _ => true) (P59 n) (consPhi 65 (fun _ => true) (P65 n) noPhi))), eff := fun _ => false, fuel := n.1, hold := n.2 }
noncomputable def kq36_1 (n : Nat × Nat) : St → Option R36 := run (E36 n) (cB (cB (cB c36))) (Ann.snd (Ann.snd (Ann.snd an36))) rt36 (fun _ _ => none) rt36
noncomputable def kc36_2 (n : Nat × Nat) : St → Option R36 := fun s => normC [0, 1, 6] s (kq36_1 n)
noncomputable def kq36_3 (n : Nat × Nat) : St → Option R36 := run (E36 n) (cB (cB (cB (cB c36)))) (Ann.snd (Ann.snd (Ann.snd (Ann.snd an36)))) rt36 (fun _ _ => none) rt36
noncomputable def kc36_4 (n : Nat × Nat) : St → Option R36 := fun s => normC [0, 1] s (kq36_3 n)
noncomputable def kq36_5 (n : Nat × Nat) : St → Option R36 := run (E36 n) (cB (cB (cB (cB (cB (cB (cB c36))))))) (Ann.snd (Ann.snd (Ann.snd (Ann.snd (Ann.snd (Ann.snd (Ann.snd an36))))))) rt36 (fun _ _ => none) rt36
noncomputable def kc36_6 (n : Nat × Nat) : St → Option R36 := fun s => normC [8] s (kq36_5 n)
noncomputable def xb36_7 (n : Nat × Nat) : Nat → St → Option R36 := fun j s => bif Nat.beq j 0 then normC [8] s (kq36_5 n) else (fun _ _ => none) j s
noncomputable def F36_8 (n : Nat × Nat) : (St → Option R36) → St → Option R36 := fun K s => run (E36 n) (cA (cA (cA (cB (cB (cB (cB (cB (cB c36))))))))) (Ann.fst (Ann.fst (Ann.fst (Ann.snd (Ann.snd (Ann.snd (Ann.snd (Ann.snd (Ann.snd an36))))))))) (fun s => normC [1, 7, 8] s K) (xb36_7 n) rt36 s
noncomputable def kq36_9 (n : Nat × Nat) (m1 : Nat) : St → Option R36 := run (E36 n) (cB (cA (cA (cA (cB (cB (cB (cB (cB (cB c36)))))))))) (Ann.snd (Ann.fst (Ann.fst (Ann.fst (Ann.snd (Ann.snd (Ann.snd (Ann.snd (Ann.snd (Ann.snd an36)))))))))) (fun s => normC [1, 7, 8] s (loopN (F36_8 n) m1)) (xb36_7 n) rt36
noncomputable def kc36_10 (n : Nat × Nat) (m1 : Nat) : St → Option R36 := fun s => normC [1, 7, 8] s (kq36_9 n m1)
noncomputable def kc36_11 (n : Nat × Nat) (m1 : Nat) : St → Option R36 := fun s => normC [1, 7, 8] s (fun s => normC [1, 7, 8] s (loopN (F36_8 n) m1))
noncomputable def xb36_12 (n : Nat × Nat) (m1 : Nat) : Nat → St → Option R36 := fun j s => bif Nat.beq j 1 then normC [1, 7, 8] s (fun s => normC [1, 7, 8] s (loopN (F36_8 n) m1)) else (xb36_7 n) j s
noncomputable def L36_1 (n : Nat × Nat) (m : Nat) (many1 : Int) (s8 : Int) (l7 : List Int) : Option R36 := loopN (F36_8 n) m { tm := [uu, .c (.int .i64 many1), uu, uu, uu, uu, uu, .own 7 none false, .c (.int .i64 s8), uu, uu, uu, uu, uu, uu, uu, uu, uu, uu, uu, uu, uu, uu, uu, uu, uu, uu, uu, uu, uu, uu, uu, uu], hp := (upd emp 7 (.arr (.int .i64) l7 false)) }
theorem L36_1_eq (n : Nat × Nat) (m1 : Nat) (many1 : Int) (s8 : Int) (l7 : List Int) : L36_1 n (m1 + 1) many1 s8 l7 =
 (bif inB (wr .i64 (s8 + 1)) l7.length then (idx l7 (wr .i64 (s8 + 1))).bind fun x6' =>
 (bif decide (x6' ≤ many1) then L36_1 n m1 many1 (wr .i64 (s8 + 1)) l7
 else some (s8, 0))
 else none) := by kernel_rfl
noncomputable def S36 (n : Nat × Nat) (coins0 : List Int) (many1 : Int) : Option R36 := run (E36 n) c36 an36 rt36 (fun _ _ => none) rt36 { tm := [.c (.sl (.int .i64) coins0 false), .c (.int .i64 many1), uu, uu, uu, uu, uu, uu, uu, uu, uu, uu, uu, uu, uu, uu, uu, uu, uu, uu, uu, uu, uu, uu, uu, uu, uu, uu, uu, uu, uu, uu, uu], hp := emp }
theorem S36_eq (n : Nat × Nat) (coins0 : List Int) (many1 : Int) : S36 n coins0 many1 =
 (S26 n coins0).bind fun r1' =>
 ((bif ((r1' == 0) == true) then (S65 n many1 0 5).bind fun r2' =>
 some (!r2')
 else some false)).bind fun b3' =>
 (bif b3' then (bif (1 != 0) then some (0, 1)
 else (S59 n coins0 201).bind fun r4' =>
        L36_1 n n.1 many1 0 r4')
 else (bif (r1' != 0) then some (0, r1')
 else (S59 n coins0 201).bind fun r5' =>
        L36_1 n n.1 many1 0 r5')) := by kernel_rfl
theorem S36_run (n : Nat × Nat) (xs : pksDen pk36) : S36 n xs.1 xs.2.1 = runG (E36 n) noScope c36 an36 (rtG rk36) (fun _ _ => none) (rtG rk36) (st0 pk36 xs Try.f36.ntmps) := by kernel_rfl
noncomputable def P36 (n : Nat × Nat) := phiOf pk36 rk36 (fun xs => S36 n xs.1 xs.2.1)
theorem call36 : CallOK Try.prog 36 := callOK_of Try.func36 (by kernel_rfl) (by kernel_rfl)
theorem env36 (n : Nat × Nat) : EnvOK Try.prog (E36 n) := envOK0 (consPhi_ok (FC26 n) call26 (consPhi_ok (FC59 n) call59 (consPhi_ok (FC65 n) call65 noPhi_ok))) rfl rfl
theorem par36 (n : Nat × Nat) : EnvPar (E36 n) := envPar0 (consPhi_par phiOf_Par1 (consPhi_par phiOf_Par1 (consPhi_par phiOf_Par1 noPhi_par))) rfl
theorem FC36 (n : Nat × Nat) : FCs Try.prog 36 (P36 n) := phiOf_FCs fun xs r h vs hv => FC.of_runG tabOK eqsOK (env36 n) (par36 n) mixed (fun _ => noScope_ok) Try.func36 (c := c36) (an := an36) (pks := pk36) (rks := rk36) (by kernel_rfl) (by kernel_rfl) hv ((S36_run n xs).symm.trans h)
/-D 36 -/
noncomputable def DF36_1 (n : Nat × Nat) (f1 : Int → Int → List Int → Option R36) (many1 : Int) (s8 : Int) (l7 : List Int) : Option R36 :=
 (bif inB (wr .i64 (s8 + 1)) l7.length then (idx l7 (wr .i64 (s8 + 1))).bind fun x6' =>
 (bif decide (x6' ≤ many1) then f1 many1 (wr .i64 (s8 + 1)) l7
 else some (s8, 0))
 else none)
noncomputable def DL36_1 (n : Nat × Nat) (m : Nat) : Int → Int → List Int → Option R36 := Nat.rec (motive := fun _ => Int → Int → List Int → Option R36) (fun _ _ _ => none) (fun _ ih => DF36_1 n ih) m
theorem DL36_1_succ (n : Nat × Nat) (m : Nat) : DL36_1 n (m + 1) = DF36_1 n (DL36_1 n m) := rfl
theorem DL36_1_eq (n : Nat × Nat) (hn : n.2 = 1) : ∀ m, L36_1 n m = DL36_1 n m
  | 0 => by funext many1 s8 l7; kernel_rfl
  | m + 1 => by
    have ih := DL36_1_eq n hn m
    funext many1 s8 l7; refine (L36_1_eq n m many1 s8 l7).trans ?_
    rw [DL36_1_succ]
    unfold DF36_1
    (try simp only [ih, S26_D n hn, S59_D n hn, S65_D n hn]) <;> first | with_reducible rfl | rfl
noncomputable def D36 (n : Nat × Nat) (coins0 : List Int) (many1 : Int) : Option R36 :=
 (D26 n coins0).bind fun r1' =>
 ((bif ((r1' == 0) == true) then (D65 n many1 0 5).bind fun r2' =>
 some (!r2')
 else some false)).bind fun b3' =>
 (bif b3' then (bif (1 != 0) then some (0, 1)
 else (D59 n coins0 201).bind fun r4' =>
        DL36_1 n n.1 many1 0 r4')
 else (bif (r1' != 0) then some (0, r1')
 else (D59 n coins0 201).bind fun r5' =>
        DL36_1 n n.1 many1 0 r5'))
theorem S36_D (n : Nat × Nat) (hn : n.2 = 1) : S36 n = D36 n := by
  funext coins0 many1; refine (S36_eq n coins0 many1).trans ?_
  unfold D36
  (try simp only [DL36_1_eq n hn, S26_D n hn, S59_D n hn, S65_D n hn]) <;> first | with_reducible rfl | rfl
abbrev R73 := Int
noncomputable def c73 : Code := bodyOf Try.f73
noncomputable def an73 : Ann := (.s .l (.s (.s .l (.j [0, 1] .l .l)) (.s .l (.s .l (.s (.j [6] (.j [0, 1, 5, 6] (.s (.s .l (.j [0, 1, 5, 6] .l .l)) (.j [0, 1, 5, 6] .l .l)) .l) .l) .l)))))
def pk73 : List PK := [.c (.sl (.int .i64)), .c (.int .i64)]
def rk73 : List RK := [.c (.int .i64) 4]
noncomputable def rt73 (st : St) : Option R73 := rtG rk73 st
noncomputable def E73 (n : Nat × Nat) (SS : List Int → Int → Option R73) : Env := { T := tab, phi := (consPhi 73 (fun _ => true) (phiOf pk73 rk73 (fun xs => SS xs.1 xs.2.1)) noPhi), eff := fun _ => false, fuel := n.1, hold := n.2 }
noncomputable def kq73_1 (n : Nat × Nat) (SS : List Int → Int → Option R73) : St → Option R73 := run (E73 n SS) (cB (cB c73)) (Ann.snd (Ann.snd an73)) rt73 (fun _ _ => none) rt73
noncomputable def kc73_2 (n : Nat × Nat) (SS : List Int → Int → Option R73) : St → Option R73 := fun s => normC [0, 1] s (kq73_1 n SS)
noncomputable def kq73_3 (n : Nat × Nat) (SS : List Int → Int → Option R73) : St → Option R73 := run (E73 n SS) (cB (cB (cB (cB (cB c73))))) (Ann.snd (Ann.snd (Ann.snd (Ann.snd (Ann.snd an73))))) rt73 (fun _ _ => none) rt73
noncomputable def kc73_4 (n : Nat × Nat) (SS : List Int → Int → Option R73) : St → Option R73 := fun s => normC [6] s (kq73_3 n SS)
noncomputable def xb73_5 (n : Nat × Nat) (SS : List Int → Int → Option R73) : Nat → St → Option R73 := fun j s => bif Nat.beq j 0 then normC [6] s (kq73_3 n SS) else (fun _ _ => none) j s
noncomputable def F73_6 (n : Nat × Nat) (SS : List Int → Int → Option R73) : (St → Option R73) → St → Option R73 := fun K s => run (E73 n SS) (cA (cA (cA (cB (cB (cB (cB c73))))))) (Ann.fst (Ann.fst (Ann.fst (Ann.snd (Ann.snd (Ann.snd (Ann.snd an73))))))) (fun s => normC [0, 1, 5, 6] s K) (xb73_5 n SS) rt73 s
noncomputable def kq73_7 (n : Nat × Nat) (SS : List Int → Int → Option R73) (m1 : Nat) : St → Option R73 := run (E73 n SS) (cB (cA (cA (cA (cB (cB (cB (cB c73)))))))) (Ann.snd (Ann.fst (Ann.fst (Ann.fst (Ann.snd (Ann.snd (Ann.snd (Ann.snd an73)))))))) (fun s => normC [0, 1, 5, 6] s (loopN (F73_6 n SS) m1)) (xb73_5 n SS) rt73
noncomputable def kc73_8 (n : Nat × Nat) (SS : List Int → Int → Option R73) (m1 : Nat) : St → Option R73 := fun s => normC [0, 1, 5, 6] s (kq73_7 n SS m1)
noncomputable def kc73_9 (n : Nat × Nat) (SS : List Int → Int → Option R73) (m1 : Nat) : St → Option R73 := fun s => normC [0, 1, 5, 6] s (fun s => normC [0, 1, 5, 6] s (loopN (F73_6 n SS) m1))
noncomputable def xb73_10 (n : Nat × Nat) (SS : List Int → Int → Option R73) (m1 : Nat) : Nat → St → Option R73 := fun j s => bif Nat.beq j 1 then normC [0, 1, 5, 6] s (fun s => normC [0, 1, 5, 6] s (loopN (F73_6 n SS) m1)) else (xb73_5 n SS) j s
noncomputable def L73_1 (n : Nat × Nat) (SS : List Int → Int → Option R73) (m : Nat) (coins0 : List Int) (sum1 : Int) (v5 : Int) (v6 : Int) : Option R73 := loopN (F73_6 n SS) m { tm := [.c (.sl (.int .i64) coins0 false), .c (.int .i64 sum1), uu, uu, uu, .c (.int .i64 v5), .c (.int .i64 v6), uu, uu, uu, uu, uu, uu, uu, uu, uu, uu, uu, uu, uu, uu, uu, uu, uu, uu, uu, uu, uu, uu], hp := emp }
theorem L73_1_eq (n : Nat × Nat) (SS : List Int → Int → Option R73) (m1 : Nat) (coins0 : List Int) (sum1 : Int) (v5 : Int) (v6 : Int) : L73_1 n SS (m1 + 1) coins0 sum1 v5 v6 =
 (bif decide (sum1 ≥ 0) then (bif bounds none (some v5) none coins0.length then (SS (coins0.take (Int.toNat v5)) sum1).bind fun r1' =>
 (idx coins0 v5).bind fun x2' =>
        L73_1 n SS m1 coins0 (wr .i64 (sum1 - x2')) v5 (wr .i64 (v6 + r1'))
 else none)
 else some v6) := by kernel_rfl
noncomputable def B73 (n : Nat × Nat) (SS : List Int → Int → Option R73) (coins0 : List Int) (sum1 : Int) : Option R73 := run (E73 n SS) c73 an73 rt73 (fun _ _ => none) rt73 { tm := [.c (.sl (.int .i64) coins0 false), .c (.int .i64 sum1), uu, uu, uu, uu, uu, uu, uu, uu, uu, uu, uu, uu, uu, uu, uu, uu, uu, uu, uu, uu, uu, uu, uu, uu, uu, uu, uu], hp := emp }
theorem B73_eq (n : Nat × Nat) (SS : List Int → Int → Option R73) (coins0 : List Int) (sum1 : Int) : B73 n SS coins0 sum1 =
 (bif ((coins0.length : Int) == 1) then some 1
 else L73_1 n SS n.1 coins0 sum1 (wr .i64 ((coins0.length : Int) - 1)) 0) := by kernel_rfl
noncomputable def T73 (n : Nat × Nat) : Nat → List Int → Int → Option R73
  | 0 => fun _ _ => none
  | d + 1 => B73 n (T73 n d)
theorem T73_eq (n : Nat × Nat) (d : Nat) (coins0 : List Int) (sum1 : Int) : T73 n (d + 1) coins0 sum1 = B73 n (T73 n d) coins0 sum1 := rfl
noncomputable def S73 (n : Nat × Nat) (coins0 : List Int) (sum1 : Int) : Option R73 := T73 n n.1 coins0 sum1
theorem B73_run (n : Nat × Nat) (SS : List Int → Int → Option R73) (xs : pksDen pk73) : B73 n SS xs.1 xs.2.1 = runG (E73 n SS) noScope c73 an73 (rtG rk73) (fun _ _ => none) (rtG rk73) (st0 pk73 xs Try.f73.ntmps) := by kernel_rfl
noncomputable def P73 (n : Nat × Nat) := phiOf pk73 rk73 (fun xs => S73 n xs.1 xs.2.1)
theorem call73 : CallOK Try.prog 73 := callOK_of Try.func73 (by kernel_rfl) (by kernel_rfl)
theorem env73 (n : Nat × Nat) (SS : List Int → Int → Option R73) (hSS : FCs Try.prog 73 (phiOf pk73 rk73 (fun xs => SS xs.1 xs.2.1))) : EnvOK Try.prog (E73 n SS) := envOK0 (consPhi_ok hSS call73 noPhi_ok) rfl rfl
theorem par73 (n : Nat × Nat) (SS : List Int → Int → Option R73) : EnvPar (E73 n SS) := envPar0 (consPhi_par phiOf_Par1 noPhi_par) rfl
theorem FCT73 (n : Nat × Nat) : ∀ d : Nat, FCs Try.prog 73 (phiOf pk73 rk73 (fun xs => T73 n d xs.1 xs.2.1))
  | 0 => phiOf_FCs fun xs r h => by cases h
  | d + 1 => phiOf_FCs fun xs r h vs hv => FC.of_runG tabOK eqsOK (env73 n (T73 n d) (FCT73 n d)) (par73 n (T73 n d)) mixed (fun _ => noScope_ok) Try.func73 (c := c73) (an := an73) (pks := pk73) (rks := rk73) (by kernel_rfl) (by kernel_rfl) hv ((B73_run n (T73 n d) xs).symm.trans h)
theorem FC73 (n : Nat × Nat) : FCs Try.prog 73 (P73 n) := FCT73 n n.1
abbrev R38 := Int × Int
noncomputable def c38 : Code := bodyOf Try.f38
noncomputable def an38 : Ann := (.s .l (.s .l (.s (.s .l (.j [0, 1] .l .l)) .l)))
def pk38 : List PK := [.c (.sl (.int .i64)), .c (.int .i64)]
def rk38 : List RK := [.c (.int .i64) 4, .c (.int .i64) 5]
noncomputable def rt38 (st : St) : Option R38 := rtG rk38 st
noncomputable def E38 (n : Nat × Nat) : Env := { T := tab, phi := (consPhi 58 (fun _ => true) (P58 n) (consPhi 73 (fun _ => true) (P73 n) noPhi)), eff := fun _ => false, fuel := n.1, hold := n.2 }
noncomputable def kq38_1 (n : Nat × Nat) : St → Option R38 := run (E38 n) (cB (cB (cB c38))) (Ann.snd (Ann.snd (Ann.snd an38))) rt38 (fun _ _ => none) rt38
noncomputable def kc38_2 (n : Nat × Nat) : St → Option R38 := fun s => normC [0, 1] s (kq38_1 n)
noncomputable def S38 (n : Nat × Nat) (coins0 : List Int) (sum1 : Int) : Option R38 := run (E38 n) c38 an38 rt38 (fun _ _ => none) rt38 { tm := [.c (.sl (.int .i64) coins0 false), .c (.int .i64 sum1), uu, uu, uu, uu, uu, uu, uu, uu, uu, uu, uu, uu, uu, uu], hp := emp }
theorem S38_eq (n : Nat × Nat) (coins0 : List Int) (sum1 : Int) : S38 n coins0 sum1 =
 (S58 n coins0 sum1).bind fun r1' =>
 (bif (r1' != 0) then some (0, r1')
 else (S73 n coins0 sum1).bind fun r2' =>
 some (r2', 0)) := by kernel_rfl
theorem S38_run (n : Nat × Nat) (xs : pksDen pk38) : S38 n xs.1 xs.2.1 = runG (E38 n) noScope c38 an38 (rtG rk38) (fun _ _ => none) (rtG rk38) (st0 pk38 xs Try.f38.ntmps) := by kernel_rfl
noncomputable def P38 (n : Nat × Nat) := phiOf pk38 rk38 (fun xs => S38 n xs.1 xs.2.1)
theorem call38 : CallOK Try.prog 38 := callOK_of Try.func38 (by kernel_rfl) (by kernel_rfl)
theorem env38 (n : Nat × Nat) : EnvOK Try.prog (E38 n) := envOK0 (consPhi_ok (FC58 n) call58 (consPhi_ok (FC73 n) call73 noPhi_ok)) rfl rfl
theorem par38 (n : Nat × Nat) : EnvPar (E38 n) := envPar0 (consPhi_par phiOf_Par1 (consPhi_par phiOf_Par1 noPhi_par)) rfl
theorem FC38 (n : Nat × Nat) : FCs Try.prog 38 (P38 n) := phiOf_FCs fun xs r h vs hv => FC.of_runG tabOK eqsOK (env38 n) (par38 n) mixed (fun _ => noScope_ok) Try.func38 (c := c38) (an := an38) (pks := pk38) (rks := rk38) (by kernel_rfl) (by kernel_rfl) hv ((S38_run n xs).symm.trans h)
/-D 73 -/
noncomputable def DF73_1 (n : Nat × Nat) (SS : List Int → Int → Option R73) (f1 : List Int → Int → Int → Int → Option R73) (coins0 : List Int) (sum1 : Int) (v5 : Int) (v6 : Int) : Option R73 :=
 (bif decide (sum1 ≥ 0) then (bif bounds none (some v5) none coins0.length then (SS (coins0.take (Int.toNat v5)) sum1).bind fun r1' =>
 (idx coins0 v5).bind fun x2' =>
        f1 coins0 (wr .i64 (sum1 - x2')) v5 (wr .i64 (v6 + r1'))
 else none)
 else some v6)
noncomputable def DL73_1 (n : Nat × Nat) (SS : List Int → Int → Option R73) (m : Nat) : List Int → Int → Int → Int → Option R73 := Nat.rec (motive := fun _ => List Int → Int → Int → Int → Option R73) (fun _ _ _ _ => none) (fun _ ih => DF73_1 n SS ih) m
theorem DL73_1_succ (n : Nat × Nat) (SS : List Int → Int → Option R73) (m : Nat) : DL73_1 n SS (m + 1) = DF73_1 n SS (DL73_1 n SS m) := rfl
theorem DL73_1_eq (n : Nat × Nat) (hn : n.2 = 1) (SS : List Int → Int → Option R73) : ∀ m, L73_1 n SS m = DL73_1 n SS m
  | 0 => by funext coins0 sum1 v5 v6; kernel_rfl
  | m + 1 => by
    have ih := DL73_1_eq n hn SS m
    funext coins0 sum1 v5 v6; refine (L73_1_eq n SS m coins0 sum1 v5 v6).trans ?_
    rw [DL73_1_succ]
    unfold DF73_1
    (try simp only [ih]) <;> first | with_reducible rfl | rfl
noncomputable def DB73 (n : Nat × Nat) (SS : List Int → Int → Option R73) (coins0 : List Int) (sum1 : Int) : Option R73 :=
 (bif ((coins0.length : Int) == 1) then some 1
 else DL73_1 n SS n.1 coins0 sum1 (wr .i64 ((coins0.length : Int) - 1)) 0)
theorem DB73_eq (n : Nat × Nat) (hn : n.2 = 1) (SS : List Int → Int → Option R73) : B73 n SS = DB73 n SS := by
  funext coins0 sum1; refine (B73_eq n SS coins0 sum1).trans ?_
  unfold DB73
  (try simp only [DL73_1_eq n hn SS]) <;> first | with_reducible rfl | rfl
noncomputable def DT73 (n : Nat × Nat) (d : Nat) : List Int → Int → Option R73 := Nat.rec (motive := fun _ => List Int → Int → Option R73) (fun _ _ => none) (fun _ ih => DB73 n ih) d
theorem DT73_succ (n : Nat × Nat) (d : Nat) : DT73 n (d + 1) = DB73 n (DT73 n d) := rfl
theorem DT73_eq (n : Nat × Nat) (hn : n.2 = 1) : ∀ d, T73 n d = DT73 n d
  | 0 => rfl
  | d + 1 => by
    funext coins0 sum1
    rw [T73_eq, DT73_eq n hn d, DB73_eq n hn, DT73_succ]
noncomputable def D73 (n : Nat × Nat) (coins0 : List Int) (sum1 : Int) : Option R73 := DT73 n n.1 coins0 sum1
theorem S73_D (n : Nat × Nat) (hn : n.2 = 1) : S73 n = D73 n := by
  funext coins0 sum1; unfold S73 D73; rw [DT73_eq n hn]
/-D 38 -/
noncomputable def D38 (n : Nat × Nat) (coins0 : List Int) (sum1 : Int) : Option R38 :=
 (D58 n coins0 sum1).bind fun r1' =>
 (bif (r1' != 0) then some (0, r1')
 else (D73 n coins0 sum1).bind fun r2' =>
 some (r2', 0))
theorem S38_D (n : Nat × Nat) (hn : n.2 = 1) : S38 n = D38 n := by
  funext coins0 sum1; refine (S38_eq n coins0 sum1).trans ?_
  unfold D38
  (try simp only [S58_D n hn, S73_D n hn]) <;> first | with_reducible rfl | rfl
abbrev R40 := Int × Int × Int
noncomputable def c40 : Code := bodyOf Try.f40
noncomputable def an40 : Ann := (.s .l (.s .l (.s (.s .l (.j [0, 1, 59, 60, 61, 62, 63, 64, 65, 66, 67, 68, 69] .l .l)) (.s .l (.s .l (.s .l (.s (.s .l (.j [10, 11] (.j [1, 8, 9, 10, 11, 12, 59, 60, 61, 62, 63, 64, 65, 66, 67, 68, 69] (.s (.s .l (.j [1, 8, 9, 10, 11, 12, 59, 60, 61, 62, 63, 64, 65, 66, 67, 68, 69] .l .l)) (.j [] (.j [1, 8, 9, 10, 11, 12, 59, 60, 61, 62, 63, 64, 65, 66, 67, 68, 69] (.s .l (.s .l (.j [1, 8, 9, 10, 11, 12, 59, 60, 61, 62, 63, 64, 65, 66, 67, 68, 69] .l .l))) .l) .l)) .l) .l)) .l)))))))
def pk40 : List PK := [.c (.sl (.int .i64)), .c (.int .i64)]
def rk40 : List RK := [.c (.int .i64) 4, .c (.int .i64) 5, .c (.int .i64) 6]
noncomputable def rt40 (st : St) : Option R40 := rtG rk40 st
noncomputable def E40 (n : Nat × Nat) : Env := { T := tab, phi := (consPhi 58 (fun _ => true) (P58 n) (consPhi 59 (fun _ => true) (P59 n) noPhi)), eff := fun _ => false, fuel := n.1, hold := n.2 }
noncomputable def kq40_1 (n : Nat × Nat) : St → Option R40 := run (E40 n) (cB (cB (cB c40))) (Ann.snd (Ann.snd (Ann.snd an40))) rt40 (fun _ _ => none) rt40
noncomputable def kc40_2 (n : Nat × Nat) : St → Option R40 := fun s => normC [0, 1, 59, 60, 61, 62, 63, 64, 65, 66, 67, 68, 69] s (kq40_1 n)
noncomputable def kq40_3 (n : Nat × Nat) : St → Option R40 := run (E40 n) (cB (cB (cB (cB (cB (cB (cB c40))))))) (Ann.snd (Ann.snd (Ann.snd (Ann.snd (Ann.snd (Ann.snd (Ann.snd an40))))))) rt40 (fun _ _ => none) rt40
noncomputable def kc40_4 (n : Nat × Nat) : St → Option R40 := fun s => normC [10, 11] s (kq40_3 n)
noncomputable def xb40_5 (n : Nat × Nat) : Nat → St → Option R40 := fun j s => bif Nat.beq j 0 then normC [10, 11] s (kq40_3 n) else (fun _ _ => none) j s
noncomputable def F40_6 (n : Nat × Nat) : (St → Option R40) → St → Option R40 := fun K s => run (E40 n) (cA (cA (cB (cA (cB (cB (cB (cB (cB (cB c40)))))))))) (Ann.fst (Ann.fst (Ann.snd (Ann.fst (Ann.snd (Ann.snd (Ann.snd (Ann.snd (Ann.snd (Ann.snd an40)))))))))) (fun s => normC [1, 8, 9, 10, 11, 12, 59, 60, 61, 62, 63, 64, 65, 66, 67, 68, 69] s K) (xb40_5 n) rt40 s
noncomputable def kq40_7 (n : Nat × Nat) (m1 : Nat) : St → Option R40 := run (E40 n) (cB (cA (cA (cB (cA (cB (cB (cB (cB (cB (cB c40))))))))))) (Ann.snd (Ann.fst (Ann.fst (Ann.snd (Ann.fst (Ann.snd (Ann.snd (Ann.snd (Ann.snd (Ann.snd (Ann.snd an40))))))))))) (fun s => normC [1, 8, 9, 10, 11, 12, 59, 60, 61, 62, 63, 64, 65, 66, 67, 68, 69] s (loopN (F40_6 n) m1)) (xb40_5 n) rt40
noncomputable def kc40_8 (n : Nat × Nat) (m1 : Nat) : St → Option R40 := fun s => normC [1, 8, 9, 10, 11, 12, 59, 60, 61, 62, 63, 64, 65, 66, 67, 68, 69] s (kq40_7 n m1)
noncomputable def kq40_9 (n : Nat × Nat) (m1 : Nat) : St → Option R40 := run (E40 n) (cB (cB (cA (cA (cB (cA (cB (cB (cB (cB (cB (cB c40)))))))))))) (Ann.snd (Ann.snd (Ann.fst (Ann.fst (Ann.snd (Ann.fst (Ann.snd (Ann.snd (Ann.snd (Ann.snd (Ann.snd (Ann.snd an40)))))))))))) (fun s => normC [1, 8, 9, 10, 11, 12, 59, 60, 61, 62, 63, 64, 65, 66, 67, 68, 69] s (loopN (F40_6 n) m1)) (xb40_5 n) rt40
noncomputable def kc40_10 (n : Nat × Nat) (m1 : Nat) : St → Option R40 := fun s => normC [1, 8, 9, 10, 11, 12, 59, 60, 61, 62, 63, 64, 65, 66, 67, 68, 69] s (loopN (fun _ => (kq40_9 n m1)) n.2)
noncomputable def xb40_11 (n : Nat × Nat) (m1 : Nat) : Nat → St → Option R40 := fun j s => bif Nat.beq j 1 then normC [1, 8, 9, 10, 11, 12, 59, 60, 61, 62, 63, 64, 65, 66, 67, 68, 69] s (loopN (fun _ => (kq40_9 n m1)) n.2) else (xb40_5 n) j s
noncomputable def kc40_12 (n : Nat × Nat) (m1 : Nat) : St → Option R40 := fun s => normC [1, 8, 9, 10, 11, 12, 59, 60, 61, 62, 63, 64, 65, 66, 67, 68, 69] s (kc40_10 n m1)
noncomputable def L40_1 (n : Nat × Nat) (m : Nat) (sum1 : Int) (most8 : Int) (pay10 : Int) (back11 : Int) (x12 : Int) (l9 : List Int) : Option R40 := loopN (F40_6 n) m { tm := [uu, .c (.int .i64 sum1), uu, uu, uu, uu, uu, uu, .c (.int .i64 most8), .own 9 none false, .c (.int .i64 pay10), .c (.int .i64 back11), .c (.int .i64 x12), uu, uu, uu, uu, uu, uu, uu, uu, uu, uu, uu, uu, uu, uu, uu, uu, uu, uu, uu, uu, uu, uu, uu, uu, uu, uu, uu, uu, uu, uu, uu, uu, uu, uu, uu, uu, uu, uu, uu, uu, uu, uu, uu, uu, uu, uu, uu, uu, uu, uu, uu, uu, uu, uu, uu, uu, uu, uu, uu, uu, uu, uu, uu, uu, uu, uu, uu, uu, uu, uu], hp := (upd emp 9 (.arr (.int .i64) l9 false)) }
noncomputable def L40_2 (n : Nat × Nat) (m1 : Nat) (sum1 : Int) (most8 : Int) (pay10 : Int) (back11 : Int) (x12 : Int) (l9 : List Int) : Option R40 := loopN (fun _ => (kq40_9 n m1)) n.2 { tm := [uu, .c (.int .i64 sum1), uu, uu, uu, uu, uu, uu, .c (.int .i64 most8), .own 9 none false, .c (.int .i64 pay10), .c (.int .i64 back11), .c (.int .i64 x12), uu, uu, uu, uu, uu, uu, uu, uu, uu, uu, uu, uu, uu, uu, uu, uu, uu, uu, uu, uu, uu, uu, uu, uu, uu, uu, uu, uu, uu, uu, uu, uu, uu, uu, uu, uu, uu, uu, uu, uu, uu, uu, uu, uu, uu, uu, uu, uu, uu, uu, uu, uu, uu, uu, uu, uu, uu, uu, uu, uu, uu, uu, uu, uu, uu, uu, uu, uu, uu, uu], hp := (upd emp 9 (.arr (.int .i64) l9 false)) }
theorem L40_1_eq (n : Nat × Nat) (m1 : Nat) (sum1 : Int) (most8 : Int) (pay10 : Int) (back11 : Int) (x12 : Int) (l9 : List Int) : L40_1 n (m1 + 1) sum1 most8 pay10 back11 x12 l9 =
 (bif decide (x12 ≤ most8) then (bif inB (wr .i64 (sum1 + x12)) l9.length then (idx l9 (wr .i64 (sum1 + x12))).bind fun x5' =>
 (bif inB x12 l9.length then (idx l9 x12).bind fun x6' =>
 ((bif (decide (wr .i64 (x5' + x6') < wr .i64 (pay10 + back11)) == false) then ((bif (((wr .i64 (x5' + x6')) == (wr .i64 (pay10 + back11))) == true) then (bif inB x12 l9.length then (idx l9 x12).bind fun x7' =>
 some (decide (x7' < back11))
 else none)
 else some false)).bind fun b8' =>
 some b8'
 else some true)).bind fun b9' =>
 (bif b9' then (bif inB (wr .i64 (sum1 + x12)) l9.length then (idx l9 (wr .i64 (sum1 + x12))).bind fun x10' =>
 (bif inB x12 l9.length then (idx l9 x12).bind fun x11' =>
                L40_2 n m1 sum1 most8 x10' x11' x12 l9
 else none)
 else none)
 else L40_2 n m1 sum1 most8 pay10 back11 x12 l9)
 else none)
 else none)
 else some (pay10, back11, 0)) := by kernel_rfl
theorem L40_2_raw (n : Nat × Nat) (m1 : Nat) (sum1 : Int) (most8 : Int) (pay10 : Int) (back11 : Int) (x12 : Int) (l9 : List Int) : (kq40_9 n m1) { tm := [uu, .c (.int .i64 sum1), uu, uu, uu, uu, uu, uu, .c (.int .i64 most8), .own 9 none false, .c (.int .i64 pay10), .c (.int .i64 back11), .c (.int .i64 x12), uu, uu, uu, uu, uu, uu, uu, uu, uu, uu, uu, uu, uu, uu, uu, uu, uu, uu, uu, uu, uu, uu, uu, uu, uu, uu, uu, uu, uu, uu, uu, uu, uu, uu, uu, uu, uu, uu, uu, uu, uu, uu, uu, uu, uu, uu, uu, uu, uu, uu, uu, uu, uu, uu, uu, uu, uu, uu, uu, uu, uu, uu, uu, uu, uu, uu, uu, uu, uu, uu], hp := (upd emp 9 (.arr (.int .i64) l9 false)) } =
    L40_1 n m1 sum1 most8 pay10 back11 (wr .i64 (x12 + 1)) l9 := by kernel_rfl
noncomputable def S40 (n : Nat × Nat) (coins0 : List Int) (sum1 : Int) : Option R40 := run (E40 n) c40 an40 rt40 (fun _ _ => none) rt40 { tm := [.c (.sl (.int .i64) coins0 false), .c (.int .i64 sum1), uu, uu, uu, uu, uu, uu, uu, uu, uu, uu, uu, uu, uu, uu, uu, uu, uu, uu, uu, uu, uu, uu, uu, uu, uu, uu, uu, uu, uu, uu, uu, uu, uu, uu, uu, uu, uu, uu, uu, uu, uu, uu, uu, uu, uu, uu, uu, uu, uu, uu, uu, uu, uu, uu, uu, uu, uu, uu, uu, uu, uu, uu, uu, uu, uu, uu, uu, uu, uu, uu, uu, uu, uu, uu, uu, uu, uu, uu, uu, uu, uu], hp := emp }
theorem S40_eq (n : Nat × Nat) (coins0 : List Int) (sum1 : Int) : S40 n coins0 sum1 =
 (S58 n coins0 sum1).bind fun r1' =>
 (bif (r1' != 0) then some (0, 0, r1')
 else (idx coins0 (wr .i64 ((coins0.length : Int) - 1))).bind fun x2' =>
 (S59 n coins0 (wr .i64 (sum1 + x2'))).bind fun r3' =>
 (bif inB sum1 r3'.length then (idx r3' sum1).bind fun x4' =>
        L40_1 n n.1 sum1 x2' x4' 0 1 r3'
 else none)) := by kernel_rfl
theorem S40_run (n : Nat × Nat) (xs : pksDen pk40) : S40 n xs.1 xs.2.1 = runG (E40 n) noScope c40 an40 (rtG rk40) (fun _ _ => none) (rtG rk40) (st0 pk40 xs Try.f40.ntmps) := by kernel_rfl
noncomputable def P40 (n : Nat × Nat) := phiOf pk40 rk40 (fun xs => S40 n xs.1 xs.2.1)
theorem call40 : CallOK Try.prog 40 := callOK_of Try.func40 (by kernel_rfl) (by kernel_rfl)
theorem env40 (n : Nat × Nat) : EnvOK Try.prog (E40 n) := envOK0 (consPhi_ok (FC58 n) call58 (consPhi_ok (FC59 n) call59 noPhi_ok)) rfl rfl
theorem par40 (n : Nat × Nat) : EnvPar (E40 n) := envPar0 (consPhi_par phiOf_Par1 (consPhi_par phiOf_Par1 noPhi_par)) rfl
theorem FC40 (n : Nat × Nat) : FCs Try.prog 40 (P40 n) := phiOf_FCs fun xs r h vs hv => FC.of_runG tabOK eqsOK (env40 n) (par40 n) mixed (fun _ => noScope_ok) Try.func40 (c := c40) (an := an40) (pks := pk40) (rks := rk40) (by kernel_rfl) (by kernel_rfl) hv ((S40_run n xs).symm.trans h)
/-D 40 -/
noncomputable def DL40_2 (n : Nat × Nat) (f1 : Int → Int → Int → Int → Int → List Int → Option R40) (sum1 : Int) (most8 : Int) (pay10 : Int) (back11 : Int) (x12 : Int) (l9 : List Int) : Option R40 :=
    f1 sum1 most8 pay10 back11 (wr .i64 (x12 + 1)) l9
theorem DL40_2_eq (n : Nat × Nat) (hn : n.2 = 1) (m1 : Nat) : L40_2 n m1 = DL40_2 n (L40_1 n m1) := by
  funext sum1 most8 pay10 back11 x12 l9; refine ((held_eq hn _).trans (L40_2_raw n m1 sum1 most8 pay10 back11 x12 l9)).trans ?_
  unfold DL40_2
  (try simp only [S58_D n hn, S59_D n hn]) <;> first | with_reducible rfl | rfl
noncomputable def DF40_1 (n : Nat × Nat) (f1 : Int → Int → Int → Int → Int → List Int → Option R40) (sum1 : Int) (most8 : Int) (pay10 : Int) (back11 : Int) (x12 : Int) (l9 : List Int) : Option R40 :=
 (bif decide (x12 ≤ most8) then (bif inB (wr .i64 (sum1 + x12)) l9.length then (idx l9 (wr .i64 (sum1 + x12))).bind fun x5' =>
 (bif inB x12 l9.length then (idx l9 x12).bind fun x6' =>
 ((bif (decide (wr .i64 (x5' + x6') < wr .i64 (pay10 + back11)) == false) then ((bif (((wr .i64 (x5' + x6')) == (wr .i64 (pay10 + back11))) == true) then (bif inB x12 l9.length then (idx l9 x12).bind fun x7' =>
 some (decide (x7' < back11))
 else none)
 else some false)).bind fun b8' =>
 some b8'
 else some true)).bind fun b9' =>
 (bif b9' then (bif inB (wr .i64 (sum1 + x12)) l9.length then (idx l9 (wr .i64 (sum1 + x12))).bind fun x10' =>
 (bif inB x12 l9.length then (idx l9 x12).bind fun x11' =>
                DL40_2 n f1 sum1 most8 x10' x11' x12 l9
 else none)
 else none)
 else DL40_2 n f1 sum1 most8 pay10 back11 x12 l9)
 else none)
 else none)
 else some (pay10, back11, 0))
noncomputable def DL40_1 (n : Nat × Nat) (m : Nat) : Int → Int → Int → Int → Int → List Int → Option R40 := Nat.rec (motive := fun _ => Int → Int → Int → Int → Int → List Int → Option R40) (fun _ _ _ _ _ _ => none) (fun _ ih => DF40_1 n ih) m
theorem DL40_1_succ (n : Nat × Nat) (m : Nat) : DL40_1 n (m + 1) = DF40_1 n (DL40_1 n m) := rfl
theorem DL40_1_eq (n : Nat × Nat) (hn : n.2 = 1) : ∀ m, L40_1 n m = DL40_1 n m
  | 0 => by funext sum1 most8 pay10 back11 x12 l9; kernel_rfl
  | m + 1 => by
    have ih := DL40_1_eq n hn m
    funext sum1 most8 pay10 back11 x12 l9; refine (L40_1_eq n m sum1 most8 pay10 back11 x12 l9).trans ?_
    rw [DL40_1_succ]
    unfold DF40_1
    (try simp only [ih, DL40_2_eq n hn, S58_D n hn, S59_D n hn]) <;> first | with_reducible rfl | rfl
noncomputable def D40 (n : Nat × Nat) (coins0 : List Int) (sum1 : Int) : Option R40 :=
 (D58 n coins0 sum1).bind fun r1' =>
 (bif (r1' != 0) then some (0, 0, r1')
 else (idx coins0 (wr .i64 ((coins0.length : Int) - 1))).bind fun x2' =>
 (D59 n coins0 (wr .i64 (sum1 + x2'))).bind fun r3' =>
 (bif inB sum1 r3'.length then (idx r3' sum1).bind fun x4' =>
        DL40_1 n n.1 sum1 x2' x4' 0 1 r3'
 else none))
theorem S40_D (n : Nat × Nat) (hn : n.2 = 1) : S40 n = D40 n := by
  funext coins0 sum1; refine (S40_eq n coins0 sum1).trans ?_
  unfold D40
  (try simp only [DL40_2_eq n hn, DL40_1_eq n hn, S58_D n hn, S59_D n hn]) <;> first | with_reducible rfl | rfl
end Go.Proofs.Ytjgmfdgpgdaclaa
/-
  Sums of coins: the fewest coins of a sum, greatest coins, the first bad sum, one coin more (plain law).
-/
set_option linter.unusedVariables false
set_option linter.unusedSimpArgs false
namespace Go.Proofs.Ytjgmfdgpgdaclaa

/-- The sum is so many coins. -/
def Rch (cs : List Int) : Nat → Int → Prop
  | 0, s => s = 0
  | n + 1, s => ∃ c ∈ cs, Rch cs n (s - c)

theorem Rch.add {cs : List Int} {m : Nat} {t : Int} (h : Rch cs m t) : ∀ {n : Nat} {s : Int}, Rch cs n s → Rch cs (n + m) (s + t)
  | 0, s, h0 => by
    have h0 : s = 0 := h0
    subst h0
    simpa using h
  | n + 1, s, ⟨c, hc, h1⟩ => by
    rw [show n + 1 + m = (n + m) + 1 by omega]
    refine ⟨c, hc, ?_⟩
    rw [show s + t - c = (s - c) + t by omega]
    exact h.add h1
theorem Rch.one {cs : List Int} {c : Int} (hc : c ∈ cs) : Rch cs 1 c := ⟨c, hc, by show c - c = 0; omega⟩
theorem Rch.mono {cs ds : List Int} (h : ∀ c ∈ cs, c ∈ ds) : ∀ {n : Nat} {s : Int}, Rch cs n s → Rch ds n s
  | 0, s, h0 => h0
  | n + 1, s, ⟨c, hc, h1⟩ => ⟨c, h c hc, h1.mono h⟩
theorem Rch.le {cs : List Int} (hp : ∀ c ∈ cs, 1 ≤ c) : ∀ {n : Nat} {s : Int}, Rch cs n s → (n : Int) ≤ s
  | 0, s, h0 => by have h0 : s = 0 := h0; omega
  | n + 1, s, ⟨c, hc, h1⟩ => by have := h1.le hp; have := hp c hc; omega
theorem Rch.ones {cs : List Int} (h1 : 1 ∈ cs) : ∀ n : Nat, Rch cs n n
  | 0 => rfl
  | n + 1 => ⟨1, h1, by rw [show ((n + 1 : Nat) : Int) - 1 = n by omega]; exact Rch.ones h1 n⟩

theorem exMin (P : Nat → Prop) : (∃ n, P n) → ∃ n, P n ∧ ∀ m, P m → n ≤ m := by
  intro ⟨n, hn⟩
  induction n using Nat.strongRecOn with
  | ind n ih =>
    by_cases h : ∃ m, m < n ∧ P m
    · obtain ⟨m, h1, h2⟩ := h
      exact ih m h1 h2
    · refine ⟨n, hn, fun m hm => ?_⟩
      by_cases h' : m < n
      · exact absurd ⟨m, h', hm⟩ h
      · omega

/-- Coins: 1 is among them, and none is smaller. -/
structure Mnt (cs : List Int) : Prop where
  one : 1 ∈ cs
  pos : ∀ c ∈ cs, 1 ≤ c

open Classical in
/-- The fewest coins of a sum. -/
noncomputable def opt (cs : List Int) (s : Int) : Int := if h : ∃ n, Rch cs n s then ((Classical.choose (exMin _ h) : Nat) : Int) else 0

theorem opt_spec {cs : List Int} (hc : Mnt cs) {s : Int} (h0 : 0 ≤ s) : ∃ n : Nat, opt cs s = n ∧ Rch cs n s ∧ ∀ m, Rch cs m s → n ≤ m := by
  have h : ∃ n, Rch cs n s := ⟨s.toNat, by have := Rch.ones hc.one s.toNat; rwa [Int.toNat_of_nonneg h0] at this⟩
  refine ⟨_, by unfold opt; rw [dif_pos h], (Classical.choose_spec (exMin _ h)).1, (Classical.choose_spec (exMin _ h)).2⟩
theorem opt_le {cs : List Int} (hc : Mnt cs) {s : Int} {n : Nat} (h : Rch cs n s) : opt cs s ≤ n := by
  obtain ⟨k, h1, h2, h3⟩ := opt_spec hc (s := s) (by have := h.le hc.pos; omega)
  have := h3 n h
  omega
theorem opt_nonneg {cs : List Int} (hc : Mnt cs) {s : Int} (h0 : 0 ≤ s) : 0 ≤ opt cs s := by
  obtain ⟨n, h, _⟩ := opt_spec hc h0
  omega
theorem opt_zero {cs : List Int} (hc : Mnt cs) : opt cs 0 = 0 := by
  have h1 := opt_le hc (show Rch cs 0 0 from rfl)
  have h2 := opt_nonneg hc (Int.le_refl 0)
  omega
theorem opt_self {cs : List Int} (hc : Mnt cs) {s : Int} (h0 : 0 ≤ s) : opt cs s ≤ s := by
  have h := Rch.ones hc.one s.toNat
  have := opt_le hc h
  rw [Int.toNat_of_nonneg h0] at this
  omega
theorem opt_add {cs : List Int} (hc : Mnt cs) {s t : Int} (h0 : 0 ≤ s) (h1 : 0 ≤ t) : opt cs (s + t) ≤ opt cs s + opt cs t := by
  obtain ⟨n, a1, a2, _⟩ := opt_spec hc h0
  obtain ⟨m, b1, b2, _⟩ := opt_spec hc h1
  have := opt_le hc (b2.add a2)
  omega
theorem opt_coin {cs : List Int} (hc : Mnt cs) {c : Int} (h : c ∈ cs) : opt cs c = 1 := by
  have h1 := opt_le hc (Rch.one h)
  obtain ⟨n, a1, a2, _⟩ := opt_spec hc (s := c) (by have := hc.pos c h; omega)
  cases n with
  | zero => have : c = 0 := a2; have := hc.pos c h; omega
  | succ n => omega
theorem opt_more {cs : List Int} (hc : Mnt cs) {c s : Int} (h : c ∈ cs) (hs : 0 ≤ s) : opt cs (s + c) ≤ opt cs s + 1 := by
  have := opt_add hc hs (show 0 ≤ c by have := hc.pos c h; omega)
  rw [opt_coin hc h] at this
  exact this
theorem opt_less {cs : List Int} (hc : Mnt cs) {c s : Int} (h : c ∈ cs) (hs : c ≤ s) : opt cs s ≤ opt cs (s - c) + 1 := by
  have := opt_more hc h (s := s - c) (by omega)
  rwa [show s - c + c = s by omega] at this
theorem opt_step {cs : List Int} (hc : Mnt cs) {s : Int} (hs : 0 < s) : ∃ c ∈ cs, c ≤ s ∧ opt cs s = opt cs (s - c) + 1 := by
  obtain ⟨n, a1, a2, _⟩ := opt_spec hc (s := s) (by omega)
  cases n with
  | zero => have : s = 0 := a2; omega
  | succ n =>
    obtain ⟨c, hcc, h1⟩ := a2
    have hle := h1.le hc.pos
    have h2 := opt_le hc h1
    have h3 := opt_less hc hcc (s := s) (by omega)
    exact ⟨c, hcc, by omega, by omega⟩
theorem opt_pos {cs : List Int} (hc : Mnt cs) {s : Int} (hs : 0 < s) : 1 ≤ opt cs s := by
  obtain ⟨c, h1, h2, h3⟩ := opt_step hc hs
  have := opt_nonneg hc (s := s - c) (by omega)
  omega
/-- What the fewest coins are, up to a sum. -/
theorem opt_unique {cs : List Int} (hc : Mnt cs) {f : Int → Int} {M : Int} (f0 : f 0 = 0) (h1 : ∀ s, 0 < s → s ≤ M → ∃ c ∈ cs, c ≤ s ∧ f s = f (s - c) + 1)
    (h2 : ∀ s, 0 < s → s ≤ M → ∀ c ∈ cs, c ≤ s → f s ≤ f (s - c) + 1) : ∀ s, 0 ≤ s → s ≤ M → f s = opt cs s := by
  have key : ∀ k : Nat, (k : Int) ≤ M → f k = opt cs k := by
    intro k
    induction k using Nat.strongRecOn with
    | ind k ih =>
      intro hk
      by_cases h0 : k = 0
      · subst h0
        rw [show ((0 : Nat) : Int) = 0 from rfl, f0, opt_zero hc]
      · have ih' : ∀ c ∈ cs, c ≤ (k : Int) → f (k - c) = opt cs (k - c) := fun c hcc hck => by
          have := hc.pos c hcc
          have := ih (k - c).toNat (by omega) (by omega)
          rwa [Int.toNat_of_nonneg (by omega)] at this
        obtain ⟨c, a1, a2, a3⟩ := h1 k (by omega) hk
        obtain ⟨d, b1, b2, b3⟩ := opt_step hc (s := (k : Int)) (by omega)
        have := ih' c a1 a2
        have := ih' d b1 b2
        have := h2 k (by omega) hk d b1 b2
        have := opt_less hc a1 a2
        omega
  intro s hs hM
  have := key s.toNat (by omega)
  rwa [Int.toNat_of_nonneg hs] at this
theorem opt_mono {cs ds : List Int} (hc : Mnt cs) (hd : Mnt ds) (h : ∀ c ∈ cs, c ∈ ds) {s : Int} (hs : 0 ≤ s) : opt ds s ≤ opt cs s := by
  obtain ⟨n, a1, a2, _⟩ := opt_spec hc hs
  have := opt_le hd (a2.mono h)
  omega

/-- The number of greatest coins: the coins in falling order. -/
def grd : List Int → Int → Int
  | [], _ => 0
  | d :: ds, s => s / d + grd ds (s % d)

theorem grd_cons (d : Int) (ds : List Int) (s : Int) : grd (d :: ds) s = s / d + grd ds (s % d) := rfl

theorem grd_nonneg : ∀ {ds : List Int} (hp : ∀ c ∈ ds, 1 ≤ c) {s : Int}, 0 ≤ s → 0 ≤ grd ds s
  | [], _, s, _ => Int.le_refl 0
  | d :: ds, hp, s, hs => by
    have h1 := hp d (by simp)
    have h2 := Int.ediv_nonneg hs (show 0 ≤ d by omega)
    have h3 := grd_nonneg (ds := ds) (fun c h => hp c (by simp [h])) (Int.emod_nonneg s (show d ≠ 0 by omega))
    rw [grd_cons]
    omega
theorem grd_rch : ∀ {ds : List Int} (hp : ∀ c ∈ ds, 1 ≤ c) (h1 : 1 ∈ ds) {s : Int}, 0 ≤ s → Rch ds (grd ds s).toNat s
  | [], _, h1, _, _ => by cases h1
  | d :: ds, hp, h1, s, hs => by
    have hd := hp d (by simp)
    have hq := Int.ediv_nonneg hs (show 0 ≤ d by omega)
    have hr := Int.emod_nonneg s (show d ≠ 0 by omega)
    have key : ∀ k : Nat, Rch (d :: ds) k ((k : Int) * d) := by
      intro k
      induction k with
      | zero => show (0 : Int) * d = 0; simp
      | succ k ih => exact ⟨d, by simp, by rw [show ((k + 1 : Nat) : Int) * d - d = (k : Int) * d by rw [Int.natCast_add, Int.add_mul]; omega]; exact ih⟩
    have hk := key (s / d).toNat
    rw [Int.toNat_of_nonneg hq] at hk
    have hg := Int.mul_ediv_add_emod s d
    have hr2 : Rch (d :: ds) (grd ds (s % d)).toNat (s % d) := by
      by_cases h : 1 ∈ ds
      · exact (grd_rch (fun c h => hp c (by simp [h])) h hr).mono (fun c h => by simp [h])
      · have : d = 1 := by
          rcases List.mem_cons.1 h1 with h1 | h1
          · exact h1.symm
          · exact absurd h1 h
        subst this
        have h0 : s % 1 = 0 := by omega
        rw [h0]
        have hz : ∀ l : List Int, grd l 0 = 0 := by
          intro l
          induction l with
          | nil => rfl
          | cons a l ih => simp [grd, ih]
        rw [hz]
        rfl
    have := hr2.add hk
    have hn := grd_nonneg (ds := ds) (fun c h => hp c (by simp [h])) hr
    have e : (grd (d :: ds) s).toNat = (s / d).toNat + (grd ds (s % d)).toNat := by
      show (s / d + grd ds (s % d)).toNat = _
      omega
    rw [e]
    have e2 : s / d * d + s % d = s := by rw [Int.mul_comm]; omega
    rw [e2] at this
    exact this
theorem grd_zero : ∀ l : List Int, grd l 0 = 0
  | [] => rfl
  | a :: l => by simp [grd, grd_zero l]
theorem grd_small {d : Int} {ds : List Int} {s : Int} (h0 : 0 ≤ s) (h : s < d) : grd (d :: ds) s = grd ds s := by
  rw [grd_cons]
  rw [Int.ediv_eq_zero_of_lt h0 h, Int.emod_eq_of_lt h0 h]
  omega
theorem grd_big {d : Int} {ds : List Int} {s : Int} (hd : 1 ≤ d) (h : d ≤ s) : grd (d :: ds) s = grd (d :: ds) (s - d) + 1 := by
  rw [grd_cons, grd_cons]
  have h1 : (s - d) % d = s % d := by simp
  have h2 : (s - d) / d = s / d - 1 := by
    have := Int.add_mul_ediv_right s (-1) (show d ≠ 0 by omega)
    rw [show s + -1 * d = s - d by omega] at this
    omega
  rw [h1, h2]
  omega
theorem grd_opt {ds : List Int} (hc : Mnt ds) {s : Int} (hs : 0 ≤ s) : opt ds s ≤ grd ds s := by
  have h := opt_le hc (grd_rch hc.pos hc.one hs)
  rw [Int.toNat_of_nonneg (grd_nonneg hc.pos hs)] at h
  exact h

/-- Greatest coins are best for this sum. -/
def Well (ds : List Int) (s : Int) : Prop := grd ds s ≤ opt ds s
theorem Well.eq {ds : List Int} {s : Int} (hc : Mnt ds) (hs : 0 ≤ s) (h : Well ds s) : grd ds s = opt ds s := by
  have := grd_opt hc hs
  unfold Well at h
  omega

/-- The first bad sum is smaller than the two greatest coins together. -/
theorem kozen {d e : Int} {ds : List Int} (hc : Mnt (d :: e :: ds)) (hde : e < d) (hle : ∀ c ∈ ds, c ≤ e) {w : Int} (hw : 0 ≤ w) (hb : ¬ Well (d :: e :: ds) w) (hmin : ∀ s, 0 ≤ s → s < w → Well (d :: e :: ds) s) : w < d + e := by
  refine Int.not_le.1 fun hge => hb ?_
  have he1 := hc.pos e (by simp)
  have hd1 := hc.pos d (by simp)
  obtain ⟨c, hcm, hcw, hco⟩ := opt_step hc (s := w) (by omega)
  have hcp := hc.pos c hcm
  have hgw := grd_big (ds := e :: ds) hd1 (show d ≤ w by omega)
  have hd' := (hmin (w - d) (by omega) (by omega)).eq hc (by omega)
  unfold Well
  rcases List.mem_cons.1 hcm with rfl | hcm2
  · omega
  · have hce : c ≤ e := by
      rcases List.mem_cons.1 hcm2 with rfl | h
      · exact Int.le_refl _
      · exact hle c h
    have hc' := (hmin (w - c) (by omega) (by omega)).eq hc (by omega)
    have hg2 := grd_big (ds := e :: ds) hd1 (show d ≤ w - c by omega)
    have h3 := opt_less hc hcm (s := w - d) (by omega)
    have h4 := grd_opt hc (s := w - c - d) (by omega)
    rw [show w - d - c = w - c - d by omega] at h3
    omega

/-- A greatest coin more changes nothing for smaller sums. -/
theorem opt_cons {d : Int} {ds : List Int} (hc : Mnt (d :: ds)) (hd : Mnt ds) {s : Int} (hs : 0 ≤ s) (h : s < d) : opt (d :: ds) s = opt ds s := by
  refine (opt_unique (f := opt ds) hc (M := d - 1) (opt_zero hd) (fun s h1 h2 => ?_) (fun s h1 h2 c hcm hcs => ?_) s hs (by omega)).symm
  · obtain ⟨c, a1, a2, a3⟩ := opt_step hd h1
    exact ⟨c, by simp [a1], a2, a3⟩
  · rcases List.mem_cons.1 hcm with rfl | hcm
    · omega
    · exact opt_less hd hcm hcs
theorem well_cons {d : Int} {ds : List Int} (hc : Mnt (d :: ds)) (hd : Mnt ds) {s : Int} (hs : 0 ≤ s) (h : s < d) : Well (d :: ds) s ↔ Well ds s := by
  unfold Well
  rw [opt_cons hc hd hs h, grd_small hs h]
theorem well_top {d : Int} {ds : List Int} (hc : Mnt (d :: ds)) : Well (d :: ds) d := by
  unfold Well
  rw [opt_coin hc (by simp), grd_cons]
  have := hc.pos d (by simp)
  rw [Int.ediv_self (by omega), Int.emod_self, grd_zero]
  omega

/-- One coin: always well. -/
theorem well_one : ∀ s, 0 ≤ s → Well [1] s := by
  intro s hs
  have hc : Mnt [1] := ⟨by simp, by simp⟩
  unfold Well
  have h1 : grd [1] s = s := by simp [grd]
  rw [h1]
  obtain ⟨n, a1, a2, _⟩ := opt_spec hc hs
  have : ∀ (n : Nat) (t : Int), Rch [1] n t → t = n := by
    intro n
    induction n with
    | zero => intro t h; exact h
    | succ n ih =>
      intro t ⟨c, h1, h2⟩
      simp at h1
      have := ih _ h2
      omega
  have := this n s a2
  omega

/-- All bad sums, or none: there is a first one. -/
theorem first_bad {ds : List Int} (h : ¬ ∀ s, 0 ≤ s → Well ds s) : ∃ w, 0 ≤ w ∧ ¬ Well ds w ∧ ∀ s, 0 ≤ s → s < w → Well ds s := by
  have : ∃ n : Nat, ¬ Well ds n := by
    refine Classical.byContradiction fun hn => h fun s hs => Classical.byContradiction fun hw => hn ⟨s.toNat, by rwa [Int.toNat_of_nonneg hs]⟩
  obtain ⟨n, h1, h2⟩ := exMin (fun n : Nat => ¬ Well ds n) this
  refine ⟨n, by omega, h1, fun s hs hsn => Classical.byContradiction fun hw => ?_⟩
  have := h2 s.toNat (by rwa [Int.toNat_of_nonneg hs])
  omega

/-- Two coins are good. -/
theorem well_two {d : Int} (hd : 1 < d) : ∀ s, 0 ≤ s → Well [d, 1] s := by
  refine Classical.byContradiction fun h => ?_
  have hc : Mnt [d, 1] := ⟨by simp, by simp; omega⟩
  obtain ⟨w, h0, h1, h2⟩ := first_bad h
  have := kozen (ds := []) hc hd (by simp) h0 h1 h2
  by_cases e : w = d
  · subst e
    exact h1 (well_top hc)
  · exact h1 ((well_cons hc ⟨by simp, by simp⟩ h0 (by omega)).2 (well_one w h0))

/-- The first bad sum is greater than the third coin and 1. -/
theorem kozen_low : ∀ {ds : List Int} {c b : Int} (hp : (ds ++ [c, b, 1]).Pairwise (· > ·)) {w : Int} (h0 : 0 ≤ w) (hb : ¬ Well (ds ++ [c, b, 1]) w), c + 1 < w := by
  have base : ∀ {ds : List Int} {c b : Int} (hp : (ds ++ [c, b, 1]).Pairwise (· > ·)) {w : Int}, 0 ≤ w → w ≤ c → Well (ds ++ [c, b, 1]) w := by
    intro ds
    induction ds with
    | nil =>
      intro c b hp w h0 hw
      simp at hp
      have hc : Mnt [c, b, 1] := ⟨by simp, by simp; omega⟩
      have hc2 : Mnt [b, 1] := ⟨by simp, by simp; omega⟩
      by_cases e : w = c
      · subst e
        exact well_top hc
      · exact (well_cons hc hc2 h0 (by omega)).2 (well_two (by omega) w h0)
    | cons d ds ih =>
      intro c b hp w h0 hw
      have hp2 : (ds ++ [c, b, 1]).Pairwise (· > ·) := (List.pairwise_cons.1 hp).2
      have hd := (List.pairwise_cons.1 hp).1
      have hcd := hd c (by simp)
      have m2 : Mnt (ds ++ [c, b, 1]) := by
        refine ⟨by simp, ?_⟩
        have : ∀ (l : List Int), (l ++ [c, b, 1]).Pairwise (· > ·) → ∀ x ∈ l ++ [c, b, 1], 1 ≤ x := by
          intro l
          induction l with
          | nil => intro h x hx; simp at h hx; omega
          | cons a l ih =>
            intro h x hx
            have h2 := List.pairwise_cons.1 h
            rcases List.mem_cons.1 hx with rfl | hx
            · have := h2.1 1 (by simp); omega
            · exact ih h2.2 x hx
        exact this ds hp2
      have m1 : Mnt (d :: (ds ++ [c, b, 1])) := ⟨by simp, fun x hx => by
        rcases List.mem_cons.1 hx with rfl | hx
        · have := hd 1 (by simp); omega
        · exact m2.pos x hx⟩
      exact (well_cons m1 m2 h0 (by omega)).2 (ih hp2 h0 hw)
  intro ds c b hp w h0 hb
  refine Int.not_le.1 fun hle => hb ?_
  by_cases h1 : w ≤ c
  · exact base hp h0 h1
  · have e : w = c + 1 := by omega
    subst e
    -- the sum c + 1: itself a coin, or two coins
    have pos : ∀ (l : List Int), (l ++ [c, b, 1]).Pairwise (· > ·) → ∀ x ∈ l ++ [c, b, 1], 1 ≤ x := by
      intro l
      induction l with
      | nil => intro h x hx; simp at h hx; omega
      | cons a l ih =>
        intro h x hx
        have h2 := List.pairwise_cons.1 h
        rcases List.mem_cons.1 hx with rfl | hx
        · have := h2.1 1 (by simp); omega
        · exact ih h2.2 x hx
    have key : ∀ (l : List Int), (l ++ [c, b, 1]).Pairwise (· > ·) → Well (l ++ [c, b, 1]) (c + 1) := by
      intro l
      induction l with
      | nil =>
        intro h
        have m : Mnt [c, b, 1] := ⟨by simp, pos [] h⟩
        simp at h
        have hg : grd [c, b, 1] (c + 1) = 2 := by
          rw [grd_big (by omega) (by omega), show c + 1 - c = 1 by omega, grd_small (by omega) (by omega), grd_small (by omega) (by omega)]
          rfl
        show grd [c, b, 1] (c + 1) ≤ opt [c, b, 1] (c + 1)
        rw [hg]
        obtain ⟨x, hx, hxs, ho⟩ := opt_step m (s := c + 1) (by omega)
        have : x ≤ c := by simp at hx; omega
        have := opt_pos m (s := c + 1 - x) (by omega)
        omega
      | cons a l ih =>
        intro h
        have h2 := List.pairwise_cons.1 h
        have m2 : Mnt (l ++ [c, b, 1]) := ⟨by simp, pos l h2.2⟩
        have m1 : Mnt (a :: (l ++ [c, b, 1])) := ⟨by simp, pos (a :: l) h⟩
        have hac := h2.1 c (by simp)
        by_cases e : c + 1 = a
        · rw [e]
          exact well_top m1
        · exact (well_cons m1 m2 (by have := m2.pos c (by simp); omega) (by omega)).2 (ih h2.2)
    exact key ds hp

/-- One coin more: one sum tells whether coins stay good. -/
theorem one_point {c d : Int} {ds : List Int} (hc : Mnt (c :: d :: ds)) (hd : Mnt (d :: ds)) (hdc : d < c) (hxlt : ∀ x ∈ d :: ds, x < c) (hg : ∀ s, 0 ≤ s → Well (d :: ds) s) {m : Int} (hm1 : c ≤ m * d) (hm2 : m * d < c + d)
    (h : grd (c :: d :: ds) (m * d) ≤ m) : ∀ s, 0 ≤ s → Well (c :: d :: ds) s := by
  have hd1 := hd.pos d (by simp)
  have e1 := grd_big (ds := d :: ds) (show 1 ≤ c by omega) hm1
  have e2 := grd_small (ds := d :: ds) (show 0 ≤ m * d - c by omega) (show m * d - c < c by omega)
  have hgo : ∀ s, 0 ≤ s → grd (d :: ds) s = opt (d :: ds) s := fun s hs => (hg s hs).eq hd hs
  have hmul : ∀ (k : Nat) (y : Int), 0 ≤ y → grd (d :: ds) (y + (k : Int) * d) = grd (d :: ds) y + k := by
    intro k
    induction k with
    | zero => intro y hy; simp
    | succ k ih =>
      intro y hy
      have hk : 0 ≤ (k : Int) * d := Int.mul_nonneg (by omega) (by omega)
      have e : ((k + 1 : Nat) : Int) * d = (k : Int) * d + d := by rw [Int.natCast_add, Int.add_mul]; omega
      rw [e, grd_big hd1 (by omega), show y + ((k : Int) * d + d) - d = y + (k : Int) * d by omega, ih y hy]
      omega
  have hm0 : 1 ≤ m := by
    refine Int.not_lt.1 fun h => ?_
    have : m * d ≤ 0 := Int.mul_nonpos_of_nonpos_of_nonneg (by omega) (by omega)
    omega
  have hmd : (m - 1) * d = m * d - d := by rw [Int.sub_mul]; omega
  -- one more coin c is no loss
  have step : ∀ y, c ≤ y → grd (d :: ds) (y - c) + 1 ≤ grd (d :: ds) y := by
    intro y hy
    by_cases hym : m * d ≤ y
    · have a1 := hmul m.toNat (y - m * d) (by omega)
      rw [Int.toNat_of_nonneg (by omega), show y - m * d + m * d = y by omega] at a1
      have a2 := opt_add hd (s := y - m * d) (t := m * d - c) (by omega) (by omega)
      rw [show y - m * d + (m * d - c) = y - c by omega, ← hgo _ (by omega), ← hgo _ (by omega), ← hgo _ (by omega)] at a2
      omega
    · have a1 := hmul (m - 1).toNat (y - (m - 1) * d) (by omega)
      rw [Int.toNat_of_nonneg (by omega), show y - (m - 1) * d + (m - 1) * d = y by omega] at a1
      have a2 := opt_add hd (s := y - (m - 1) * d) (t := m * d - c) (by omega) (by omega)
      rw [← hgo _ (by omega), ← hgo _ (by omega), ← hgo _ (by omega)] at a2
      have a3 := grd_big (ds := ds) hd1 (show d ≤ y - (m - 1) * d + (m * d - c) by omega)
      rw [show y - (m - 1) * d + (m * d - c) - d = y - c by omega] at a3
      omega
  -- all payments of the new coins
  have nb : ∀ (k : Nat) (s : Int), Rch (c :: d :: ds) k s → 0 ≤ s → grd (c :: d :: ds) s ≤ k := by
    intro k
    induction k with
    | zero => intro s hs h0; have hs : s = 0 := hs; subst hs; rw [grd_zero]; omega
    | succ k ihk =>
      intro s ⟨x, hx, hr⟩ h0
      have hsx := hr.le hc.pos
      have hxp := hc.pos x hx
      have b1 := ihk (s - x) hr (by omega)
      -- grd s ≤ grd (s - x) + 1
      have lip : ∀ (j : Nat) (t : Int), 0 ≤ t → t < (j : Int) → grd (c :: d :: ds) (t + x) ≤ grd (c :: d :: ds) t + 1 := by
        intro j
        induction j with
        | zero => intro t h1 h2; omega
        | succ j ihj =>
          intro t h1 h2
          by_cases htc : c ≤ t
          · have := ihj (t - c) (by omega) (by omega)
            rw [grd_big (show 1 ≤ c by omega) (show c ≤ t + x by omega), grd_big (show 1 ≤ c by omega) htc, show t + x - c = t - c + x by omega]
            omega
          · rcases List.mem_cons.1 hx with rfl | hx2
            · rw [grd_big (show 1 ≤ x by omega) (show x ≤ t + x by omega), show t + x - x = t by omega]
              omega
            · have hl : grd (d :: ds) (t + x) ≤ grd (d :: ds) t + 1 := by
                rw [hgo _ (by omega), hgo _ h1]
                exact opt_more hd hx2 h1
              rw [grd_small (ds := d :: ds) h1 (by omega)]
              by_cases hxc : t + x < c
              · rw [grd_small (by omega) hxc]
                exact hl
              · have hs1 := step (t + x) (by omega)
                rw [grd_big (show 1 ≤ c by omega) (by omega)]
                by_cases h2c : t + x - c < c
                · rw [grd_small (by omega) h2c]
                  omega
                · -- x < c, so the rest is smaller than c
                  exfalso
                  have : x ≤ c := by
                    have := hxlt x hx2
                    omega
                  omega
      have := lip ((s - x).toNat + 1) (s - x) (by omega) (by omega)
      rw [show s - x + x = s by omega] at this
      omega
  intro s hs
  obtain ⟨k, o1, o2, _⟩ := opt_spec hc hs
  have := nb k s o2 hs
  unfold Well
  omega
end Go.Proofs.Ytjgmfdgpgdaclaa
set_option linter.unusedVariables false
set_option linter.unusedSimpArgs false
namespace Go.Proofs.Ytjgmfdgpgdaclaa

/-- A payment out of a purse. -/
def Pay : List Int → List Int → Int → List Int → Prop
  | [], _, s, p => s = 0 ∧ p = []
  | c :: cs, qs, s, p => ∃ n p', p = n :: p' ∧ 0 ≤ n ∧ n ≤ qs.headD 0 ∧ Pay cs qs.tail (s - n * c) p'
/-- A payment out of a purse that is never empty. -/
def PayU : List Int → Int → List Int → Prop
  | [], s, p => s = 0 ∧ p = []
  | c :: cs, s, p => ∃ n p', p = n :: p' ∧ 0 ≤ n ∧ PayU cs (s - n * c) p'
def tot : List Int → Int
  | [] => 0
  | n :: l => n + tot l
/-- The order of payments. -/
def Lx : List Int → List Int → Prop
  | n :: p, m :: q => n < m ∨ n = m ∧ Lx p q
  | _, _ => True

theorem Pay.length : ∀ {cs qs : List Int} {s : Int} {p : List Int}, Pay cs qs s p → p.length = cs.length
  | [], _, s, p, h => by rw [h.2]
  | c :: cs, qs, s, p, ⟨n, p', h1, h2, h3, h4⟩ => by rw [h1]; simp [h4.length]
theorem PayU.length : ∀ {cs : List Int} {s : Int} {p : List Int}, PayU cs s p → p.length = cs.length
  | [], s, p, h => by rw [h.2]
  | c :: cs, s, p, ⟨n, p', h1, h2, h4⟩ => by rw [h1]; simp [h4.length]
theorem Pay.free : ∀ {cs qs : List Int} {s : Int} {p : List Int}, Pay cs qs s p → PayU cs s p
  | [], _, s, p, h => h
  | c :: cs, qs, s, p, ⟨n, p', h1, h2, h3, h4⟩ => ⟨n, p', h1, h2, h4.free⟩
theorem PayU.sum {cs : List Int} : ∀ (hp : ∀ c ∈ cs, 1 ≤ c) {s : Int} {p : List Int}, PayU cs s p → 0 ≤ tot p ∧ tot p ≤ s := by
  induction cs with
  | nil => intro hp s p h; rw [h.1, h.2]; exact ⟨Int.le_refl _, Int.le_refl _⟩
  | cons c cs ih =>
    intro hp s p ⟨n, p', h1, h2, h4⟩
    obtain ⟨a, b⟩ := ih (fun c h => hp c (by simp [h])) h4
    have hc := hp c (by simp)
    have : n * 1 ≤ n * c := Int.mul_le_mul_of_nonneg_left hc h2
    rw [h1]
    simp only [tot]
    omega
theorem PayU.lim {cs : List Int} : ∀ (hp : ∀ c ∈ cs, 1 ≤ c) {qs : List Int} {s m : Int} {p : List Int}, PayU cs s p → s ≤ m → qs.length = cs.length → (∀ q ∈ qs, m ≤ q) → Pay cs qs s p := by
  induction cs with
  | nil => intro hp qs s m p h hm hl hq; exact h
  | cons c cs ih =>
    intro hp qs s m p ⟨n, p', h1, h2, h4⟩ hm hl hq
    have hc := hp c (by simp)
    have hnc : n * 1 ≤ n * c := Int.mul_le_mul_of_nonneg_left hc h2
    obtain ⟨a, b⟩ := PayU.sum (fun c h => hp c (by simp [h])) h4
    cases qs with
    | nil => simp at hl
    | cons q qs =>
      have := hq q (by simp)
      exact ⟨n, p', h1, h2, by show n ≤ q; omega, ih (fun c h => hp c (by simp [h])) h4 (by omega : s - n * c ≤ m) (by simpa using hl) (fun x h => hq x (List.mem_cons_of_mem _ h))⟩

theorem Lx.refl : ∀ p : List Int, Lx p p
  | [] => trivial
  | n :: p => .inr ⟨rfl, Lx.refl p⟩
theorem Lx.anti : ∀ {p q : List Int}, p.length = q.length → Lx p q → Lx q p → p = q
  | [], [], _, _, _ => rfl
  | [], _ :: _, h, _, _ => by simp at h
  | _ :: _, [], h, _, _ => by simp at h
  | n :: p, m :: q, h, h1, h2 => by
    rcases h1 with h1 | ⟨rfl, h1⟩
    · rcases h2 with h2 | ⟨rfl, h2⟩ <;> omega
    · rcases h2 with h2 | ⟨_, h2⟩
      · omega
      · rw [Lx.anti (by simpa using h) h1 h2]

/-- The first of the payments with the fewest coins. -/
def IsBst (A : List Int → Prop) (p : List Int) : Prop := A p ∧ ∀ p', A p' → tot p < tot p' ∨ tot p = tot p' ∧ Lx p p'
theorem IsBst.uniq {A : List Int → Prop} {p q : List Int} (hl : p.length = q.length) (h : IsBst A p) (k : IsBst A q) : p = q := by
  have h1 := h.2 q k.1
  have h2 := k.2 p h.1
  rcases h1 with h1 | ⟨h1, h3⟩ <;> rcases h2 with h2 | ⟨h2, h4⟩
  · omega
  · omega
  · omega
  · exact Lx.anti hl h3 h4
theorem IsBst.congr {A B : List Int → Prop} {p : List Int} (h : IsBst A p) (e : ∀ p, A p ↔ B p) : IsBst B p := ⟨(e p).1 h.1, fun p' h' => h.2 p' ((e p').2 h')⟩

/-- Payments and sums of single coins. -/
theorem PayU.rch {cs : List Int} : ∀ {s : Int} {p : List Int}, PayU cs s p → Rch cs (tot p).toNat s := by
  induction cs with
  | nil => intro s p h; rw [h.1, h.2]; rfl
  | cons c cs ih =>
    intro s p ⟨n, p', h1, h2, h4⟩
    have h5 := (ih h4).mono (ds := c :: cs) (fun x h => by simp [h])
    have key : ∀ k : Nat, Rch (c :: cs) k ((k : Int) * c) := by
      intro k
      induction k with
      | zero => show (0 : Int) * c = 0; simp
      | succ k ih => exact ⟨c, by simp, by rw [show ((k + 1 : Nat) : Int) * c - c = (k : Int) * c by rw [Int.natCast_add, Int.add_mul]; omega]; exact ih⟩
    have h6 := key n.toNat
    rw [Int.toNat_of_nonneg h2] at h6
    have h7 := h5.add h6
    have ht : 0 ≤ tot p' := by
      have : ∀ {cs : List Int} {s : Int} {p : List Int}, PayU cs s p → 0 ≤ tot p := by
        intro cs
        induction cs with
        | nil => intro s p h; rw [h.2]; exact Int.le_refl _
        | cons c cs ih => intro s p ⟨n, p', h1, h2, h4⟩; have := ih h4; rw [h1]; simp only [tot]; omega
      exact this h4
    rw [h1]
    simp only [tot]
    rw [show (n + tot p').toNat = n.toNat + (tot p').toNat by omega]
    rwa [show n * c + (s - n * c) = s by omega] at h7
theorem PayU.zero : ∀ cs : List Int, ∃ p, PayU cs 0 p ∧ tot p = 0
  | [] => ⟨[], ⟨rfl, rfl⟩, rfl⟩
  | c :: cs => by
    obtain ⟨p, h1, h2⟩ := PayU.zero cs
    exact ⟨0 :: p, ⟨0, p, rfl, Int.le_refl _, by simpa using h1⟩, by simp only [tot]; omega⟩
theorem PayU.bump {c : Int} : ∀ {cs : List Int} {s : Int} {p : List Int}, PayU cs s p → c ∈ cs → ∃ p', PayU cs (s + c) p' ∧ tot p' = tot p + 1
  | [], _, _, _, h => by cases h
  | d :: cs, s, p, ⟨n, p', h1, h2, h4⟩, h => by
    rcases List.mem_cons.1 h with rfl | h
    · exact ⟨(n + 1) :: p', ⟨n + 1, p', rfl, by omega, by rw [Int.add_mul, show s + c - (n * c + 1 * c) = s - n * c by omega]; exact h4⟩, by rw [h1]; simp only [tot]; omega⟩
    · obtain ⟨p'', h5, h6⟩ := h4.bump h
      exact ⟨n :: p'', ⟨n, p'', rfl, h2, by rw [show s + c - n * d = s - n * d + c by omega]; exact h5⟩, by rw [h1]; simp only [tot]; omega⟩
theorem Rch.payU {cs : List Int} : ∀ {n : Nat} {s : Int}, Rch cs n s → ∃ p, PayU cs s p ∧ tot p = n
  | 0, s, h => by
    have h : s = 0 := h
    subst h
    obtain ⟨p, h1, h2⟩ := PayU.zero cs
    exact ⟨p, h1, by rw [h2]; rfl⟩
  | n + 1, s, ⟨c, hc, h⟩ => by
    obtain ⟨p, h1, h2⟩ := h.payU
    obtain ⟨p', h3, h4⟩ := h1.bump hc
    exact ⟨p', by rwa [show s - c + c = s by omega] at h3, by omega⟩
theorem opt_pay {cs : List Int} (hc : Mnt cs) {s : Int} (hs : 0 ≤ s) : ∃ p, PayU cs s p ∧ tot p = opt cs s := by
  obtain ⟨n, h1, h2, _⟩ := opt_spec hc hs
  obtain ⟨p, h3, h4⟩ := h2.payU
  exact ⟨p, h3, by omega⟩
theorem opt_pay_le {cs : List Int} (hc : Mnt cs) {s : Int} {p : List Int} (h : PayU cs s p) : opt cs s ≤ tot p := by
  have h1 := opt_le hc h.rch
  have h2 := (PayU.sum hc.pos h).1
  omega
/-- The first best payment has the fewest coins. -/
theorem IsBst.opt {cs : List Int} (hc : Mnt cs) {s : Int} (hs : 0 ≤ s) {p : List Int} (h : IsBst (PayU cs s) p) : tot p = opt cs s := by
  obtain ⟨q, h1, h2⟩ := opt_pay hc hs
  have h3 := opt_pay_le hc h.1
  rcases h.2 q h1 with h4 | ⟨h4, _⟩ <;> omega
/-- The full purse. -/
theorem pay_full {cs : List Int} (hp : ∀ c ∈ cs, 1 ≤ c) {qs : List Int} {s m : Int} (hm : s ≤ m) (hl : qs.length = cs.length) (hq : ∀ q ∈ qs, m ≤ q) (p : List Int) : Pay cs qs s p ↔ PayU cs s p :=
  ⟨Pay.free, fun h => h.lim hp hm hl hq⟩
end Go.Proofs.Ytjgmfdgpgdaclaa
set_option linter.unusedVariables false
set_option linter.unusedSimpArgs false
namespace Go.Proofs.Ytjgmfdgpgdaclaa
open Go.Vi

theorem wr_ok {x : Int} (h1 : -9223372036854775808 ≤ x) (h2 : x ≤ 9223372036854775807) : wr .i64 x = x := by
  have : wr .i64 x = (x + 9223372036854775808) % 18446744073709551616 - 9223372036854775808 := by
    simp only [wr, IntKind.wrap, IntKind.signed, IntKind.bits]
    simp
    split <;> omega
  rw [this]
  omega
theorem idx_nat {α : Type} {l : List α} {k : Nat} (h : k < l.length) : idx l (k : Int) = some l[k] := by
  unfold idx
  rw [if_pos (by omega), Int.toNat_natCast, List.getElem?_eq_getElem h]
theorem idx_int {α : Type} {l : List α} {k : Nat} {i : Int} (hi : i = k) (h : k < l.length) : idx l i = some l[k] := by
  subst hi
  exact idx_nat h
theorem drop_cons {α : Type} {l : List α} {k : Nat} (h : k < l.length) : l.drop k = l[k] :: l.drop (k + 1) := List.drop_eq_getElem_cons h
theorem inB_nat {k n : Nat} (h : k < n) : inB (k : Int) n = true := by
  unfold inB
  simp [h]

/-- What is checked, behind a coin. -/
def chkl : Option Int → List Int → Int
  | _, [] => 0
  | p, c :: l => if c < 1 ∨ 40 < c then 1 else if c ≤ p.getD 0 then 7 else chkl (some c) l
def chk (cs : List Int) : Int := if cs.length = 0 then 4 else if 6 < cs.length then 3 else if chkl none cs = 0 then (if cs.headD 0 = 1 then 0 else 5) else chkl none cs

def lst (cs : List Int) (k : Nat) : Option Int := if k = 0 then none else cs[k - 1]?

theorem chk_loop (n : Nat × Nat) (cs : List Int) (hl : cs.length ≤ 6) (h0 : 0 < cs.length) : ∀ (m k : Nat), k ≤ cs.length → cs.length - k < m → (∀ j (h : j < cs.length), j < k → 1 ≤ cs[j]) →
    DL25_1 n m cs cs (cs.length : Int) (k : Int) = some (if chkl (lst cs k) (cs.drop k) = 0 then (if cs.headD 0 = 1 then 0 else 5) else chkl (lst cs k) (cs.drop k))
  | 0, k, _, h, _ => by omega
  | m + 1, k, hk, h, hp => by
    rw [DL25_1_succ]
    unfold DF25_1
    by_cases hlt : k < cs.length
    · rw [decide_eq_true (show (k : Int) < (cs.length : Int) by omega), cond_true, idx_nat hlt, drop_cons hlt]
      simp only [Option.bind_some, chkl]
      generalize hc : cs[k] = c
      by_cases h1 : c < 1
      · simp [h1]
      by_cases h2 : c > 40
      · simp [h1, h2]
      have ih := chk_loop n cs hl h0 m (k + 1) (by omega) (by omega) (fun j hj hjk => by
        by_cases e : j = k
        · subst e; rw [hc]; omega
        · exact hp j hj (by omega))
      rw [show ((k + 1 : Nat) : Int) = wr .i64 ((k : Int) + 1) by rw [wr_ok (by omega) (by omega)]; omega] at ih
      have hlst : lst cs (k + 1) = some c := by
        unfold lst
        rw [if_neg (by omega), show k + 1 - 1 = k by omega, List.getElem?_eq_getElem hlt, hc]
      rw [hlst] at ih
      simp only [decide_eq_false h1, decide_eq_false h2, beq_self_eq_true, cond_true, cond_false, Option.bind_some, if_neg (show ¬ (c < 1 ∨ 40 < c) by omega)]
      by_cases hk0 : k = 0
      · subst hk0
        simp only [lst, if_pos, Option.getD_none, if_neg (show ¬ c ≤ 0 by omega)]
        simp only [show decide (((0 : Nat) : Int) > 0) = false by decide, show (false == true) = false from rfl, cond_false, Option.bind_some, if_false]
        exact ih
      · have hlk : lst cs k = some cs[k - 1] := by
          unfold lst
          rw [if_neg hk0, List.getElem?_eq_getElem (by omega)]
        rw [hlk, Option.getD_some, decide_eq_true (show (k : Int) > 0 by omega), show (true == true) = true from rfl, cond_true, idx_int (k := k - 1) (by rw [wr_ok (by omega) (by omega)]; omega) (by omega)]
        simp only [Option.bind_some]
        by_cases h7 : c ≤ cs[k - 1]
        · simp [h7]
        · simp only [decide_eq_false h7, cond_false, if_neg h7]
          exact ih
    · rw [decide_eq_false (show ¬ (k : Int) < (cs.length : Int) by omega), cond_false, List.drop_of_length_le (by omega), show idx cs 0 = some cs[0] from idx_int (k := 0) rfl h0]
      simp only [Option.bind_some, chkl, if_true]
      have hh : cs.headD 0 = cs[0] := by cases cs with | nil => simp at h0 | cons a l => rfl
      have h1 := hp 0 h0 (by omega)
      rw [hh]
      by_cases h5 : cs[0] > 1
      · rw [decide_eq_true h5, cond_true, if_neg (by omega)]
      · rw [decide_eq_false h5, cond_false, if_pos (by omega)]

theorem chk_eq {n : Nat × Nat} (hn : 1000 ≤ n.1) (cs : List Int) : D25 n cs = some (chk cs) := by
  unfold D25 chk
  by_cases h0 : cs.length = 0
  · simp [h0]
  rw [show (((cs.length : Int)) == 0) = false by simpa using h0, cond_false, if_neg h0]
  by_cases h8 : 6 < cs.length
  · rw [decide_eq_true (show (cs.length : Int) > 6 by omega), cond_true, if_pos h8]
  · rw [decide_eq_false (show ¬ (cs.length : Int) > 6 by omega), cond_false, if_neg h8]
    have := chk_loop n cs (by omega) (by omega) n.1 0 (by omega) (by omega) (fun j hj hjk => by omega)
    simpa [lst] using this

theorem in_eq (n : Nat × Nat) (v lo hi : Int) : D65 n v lo hi = some (decide (lo ≤ v) && decide (v ≤ hi)) := by
  unfold D65
  by_cases h : lo ≤ v <;> simp [h]

theorem chkr_loop (n : Nat × Nat) (cs : List Int) (hl : cs.length ≤ 6) (h0 : 0 < cs.length) : ∀ (m k : Nat), k ≤ cs.length → cs.length - k < m → 
    DL26_1 n m cs (k : Int) = some (if chkl (lst cs k) (cs.drop k) = 0 then (if cs.headD 0 = 1 then 0 else 5) else chkl (lst cs k) (cs.drop k))
  | 0, k, _, h => by omega
  | m + 1, k, hk, h => by
    rw [DL26_1_succ]
    unfold DF26_1
    by_cases hlt : k < cs.length
    · rw [decide_eq_true (show (k : Int) < (cs.length : Int) by omega), cond_true, idx_nat hlt, drop_cons hlt]
      simp only [Option.bind_some, chkl, in_eq]
      generalize hc : cs[k] = c
      by_cases h1 : c < 1
      · simp [h1, show ¬ 1 ≤ c by omega]
      by_cases h2 : c > 40
      · simp [h1, h2, show ¬ c ≤ 40 by omega]
      have ih := chkr_loop n cs hl h0 m (k + 1) (by omega) (by omega)
      rw [show ((k + 1 : Nat) : Int) = wr .i64 ((k : Int) + 1) by rw [wr_ok (by omega) (by omega)]; omega] at ih
      have hlst : lst cs (k + 1) = some c := by
        unfold lst
        rw [if_neg (by omega), show k + 1 - 1 = k by omega, List.getElem?_eq_getElem hlt, hc]
      rw [hlst] at ih
      simp only [decide_eq_true (show 1 ≤ c by omega), decide_eq_true (show c ≤ 40 by omega), Bool.and_self, Bool.not_true, cond_false, if_neg (show ¬ (c < 1 ∨ 40 < c) by omega)]
      by_cases hk0 : k = 0
      · subst hk0
        simp only [lst, if_pos, Option.getD_none, if_neg (show ¬ c ≤ 0 by omega)]
        simp only [show decide (((0 : Nat) : Int) > 0) = false by decide, show (false == true) = false from rfl, cond_false, Option.bind_some, if_false]
        exact ih
      · have hlk : lst cs k = some cs[k - 1] := by
          unfold lst
          rw [if_neg hk0, List.getElem?_eq_getElem (by omega)]
        rw [hlk, Option.getD_some, decide_eq_true (show (k : Int) > 0 by omega), show (true == true) = true from rfl, cond_true, idx_int (k := k - 1) (by rw [wr_ok (by omega) (by omega)]; omega) (by omega)]
        simp only [Option.bind_some]
        by_cases h7 : c ≤ cs[k - 1]
        · simp [h7]
        · simp only [decide_eq_false h7, cond_false, if_neg h7]
          exact ih
    · rw [decide_eq_false (show ¬ (k : Int) < (cs.length : Int) by omega), cond_false, List.drop_of_length_le (by omega), show idx cs 0 = some cs[0] from idx_int (k := 0) rfl h0]
      simp only [Option.bind_some, chkl, if_true]
      have hh : cs.headD 0 = cs[0] := by cases cs with | nil => simp at h0 | cons a l => rfl
      rw [hh]
      by_cases h5 : cs[0] = 1
      · simp [h5]
      · rw [show (cs[0] != 1) = true by simpa using h5, cond_true, if_neg h5]

theorem chkr_eq {n : Nat × Nat} (hn : 1000 ≤ n.1) (cs : List Int) : D26 n cs = some (chk cs) := by
  unfold D26 chk
  by_cases h0 : cs.length = 0
  · simp [h0]
  rw [show (((cs.length : Int)) == 0) = false by simpa using h0, cond_false, if_neg h0]
  by_cases h8 : 6 < cs.length
  · rw [decide_eq_true (show (cs.length : Int) > 6 by omega), cond_true, if_pos h8]
  · rw [decide_eq_false (show ¬ (cs.length : Int) > 6 by omega), cond_false, if_neg h8]
    have := chkr_loop n cs (by omega) (by omega) n.1 0 (by omega) (by omega)
    simpa [lst] using this

/-- Good coins to pay with. -/
structure Vld (cs : List Int) : Prop where
  pos : 0 < cs.length
  len : cs.length ≤ 6
  rng : ∀ c ∈ cs, 1 ≤ c ∧ c ≤ 40
  inc : cs.Pairwise (· < ·)
  one : cs.headD 0 = 1

theorem chkl_spec : ∀ (l : List Int) (p : Option Int), chkl p l = 0 → (∀ c ∈ l, 1 ≤ c ∧ c ≤ 40) ∧ l.Pairwise (· < ·) ∧ ∀ q, p = some q → ∀ c ∈ l, q < c
  | [], p, _ => ⟨by simp, List.Pairwise.nil, by simp⟩
  | c :: l, p, h => by
    simp only [chkl] at h
    split at h
    · cases h
    rename_i h1
    split at h
    · cases h
    rename_i h2
    obtain ⟨a, b, d⟩ := chkl_spec l (some c) h
    refine ⟨fun x hx => ?_, List.pairwise_cons.2 ⟨fun x hx => d c rfl x hx, b⟩, fun q hq x hx => ?_⟩
    · rcases List.mem_cons.1 hx with rfl | hx
      · omega
      · exact a x hx
    · subst hq
      rw [Option.getD_some] at h2
      rcases List.mem_cons.1 hx with rfl | hx
      · omega
      · have := d c rfl x hx; omega
theorem chkl_zero : ∀ (l : List Int) (p : Option Int), (∀ c ∈ l, 1 ≤ c ∧ c ≤ 40) → l.Pairwise (· < ·) → (∀ q, p = some q → ∀ c ∈ l, q < c) → chkl p l = 0
  | [], _, _, _, _ => rfl
  | c :: l, p, a, b, d => by
    have h1 := a c (by simp)
    have h2 := List.pairwise_cons.1 b
    have ih := chkl_zero l (some c) (fun x hx => a x (by simp [hx])) h2.2 (fun q hq x hx => by cases hq; exact h2.1 x hx)
    simp only [chkl]
    rw [if_neg (by omega)]
    have : ¬ c ≤ p.getD 0 := by
      cases p with
      | none => simp; omega
      | some q => have := d q rfl c (by simp); simp; omega
    rw [if_neg this]
    exact ih
theorem chk_vld {cs : List Int} (h : chk cs = 0) : Vld cs := by
  unfold chk at h
  split at h
  · cases h
  split at h
  · cases h
  split at h
  · rename_i h3
    split at h
    · rename_i h4
      obtain ⟨a, b, _⟩ := chkl_spec cs none h3
      exact ⟨by omega, by omega, a, b, h4⟩
    · cases h
  · rename_i h3
    exact absurd h h3
theorem vld_chk {cs : List Int} (h : Vld cs) : chk cs = 0 := by
  unfold chk
  have h1 := h.pos
  have h2 := h.len
  rw [if_neg (by omega), if_neg (by omega), chkl_zero cs none h.rng h.inc (fun q hq => by cases hq), if_pos rfl, if_pos h.one]
theorem Vld.mnt {cs : List Int} (h : Vld cs) : Mnt cs := by
  refine ⟨?_, fun c hc => (h.rng c hc).1⟩
  have h1 := h.one
  have h2 := h.pos
  cases cs with
  | nil => simp at h2
  | cons a l => simp at h1; simp [h1]

def smd (cs : List Int) (s : Int) : Int := if chk cs = 0 then (if s < 0 ∨ 200 < s then 1 else 0) else chk cs
theorem smd_eq {n : Nat × Nat} (hn : 1000 ≤ n.1) (cs : List Int) (s : Int) : D56 n cs s = some (smd cs s) := by
  unfold D56 smd
  rw [chk_eq hn]
  simp only [Option.bind_some]
  by_cases h : chk cs = 0
  · by_cases h1 : s < 0
    · simp [h, h1]
    · by_cases h2 : s > 200
      · simp [h, h1, h2]
      · simp [h, h1, h2]
  · rw [show (chk cs == 0) = false by simpa using h]; simp [h]
theorem smdr_eq {n : Nat × Nat} (hn : 1000 ≤ n.1) (cs : List Int) (s : Int) : D58 n cs s = some (smd cs s) := by
  unfold D58 smd
  rw [chkr_eq hn]
  simp only [Option.bind_some, in_eq]
  by_cases h : chk cs = 0
  · by_cases h1 : s < 0
    · simp [h, h1, show ¬ 0 ≤ s by omega]
    · by_cases h2 : s > 200
      · simp [h, h1, h2, show ¬ s ≤ 200 by omega]
      · simp [h, h1, h2, show 0 ≤ s by omega, show s ≤ 200 by omega]
  · rw [show (chk cs == 0) = false by simpa using h]; simp [h]
theorem smd_zero {cs : List Int} {s : Int} (h : smd cs s = 0) : Vld cs ∧ 0 ≤ s ∧ s ≤ 200 := by
  unfold smd at h
  split at h
  · rename_i h1
    split at h
    · cases h
    · exact ⟨chk_vld h1, by omega, by omega⟩
  · rename_i h1; exact absurd h h1
theorem smd_ok {cs : List Int} {s : Int} (h : Vld cs) (h1 : 0 ≤ s) (h2 : s ≤ 200) : smd cs s = 0 := by
  unfold smd
  rw [if_pos (vld_chk h), if_neg (by omega)]

/-! ### The fewest coins of each sum -/
noncomputable def ftab (cs : List Int) (M : Nat) : List Int := (List.range (M + 1)).map fun i => opt cs (i : Nat)
theorem ftab_length (cs : List Int) (M : Nat) : (ftab cs M).length = M + 1 := by simp [ftab]
theorem ftab_get (cs : List Int) (M : Nat) {i : Nat} (h : i < (ftab cs M).length) : (ftab cs M)[i] = opt cs (i : Nat) := by simp [ftab]
theorem ftab_succ (cs : List Int) (M : Nat) : ftab cs (M + 1) = ftab cs M ++ [opt cs ((M + 1 : Nat) : Int)] := by
  unfold ftab
  rw [List.range_succ, List.map_append]
  rfl

/-- The fewest coins, so far. -/
noncomputable def mnf (cs : List Int) (s : Int) : List Int → Int → Int
  | [], v => v
  | c :: l, v => mnf cs s l (if c ≤ s then (if 1 + opt cs (s - c) < v then 1 + opt cs (s - c) else v) else v)
theorem mnf_ge {cs : List Int} (hc : Mnt cs) {s : Int} : ∀ (l : List Int), (∀ c ∈ l, c ∈ cs) → ∀ v, opt cs s ≤ v → opt cs s ≤ mnf cs s l v
  | [], _, v, h => h
  | c :: l, hl, v, h => by
    refine mnf_ge hc l (fun x hx => hl x (by simp [hx])) _ ?_
    split
    · have := opt_less hc (hl c (by simp)) (s := s) (by assumption)
      split <;> omega
    · exact h
theorem mnf_le {cs : List Int} {s : Int} : ∀ (l : List Int) (v : Int), mnf cs s l v ≤ v
  | [], v => Int.le_refl v
  | c :: l, v => by
    refine Int.le_trans (mnf_le l _) ?_
    split
    · split <;> omega
    · exact Int.le_refl v
theorem mnf_hit {cs : List Int} {s c : Int} : ∀ (l : List Int) (v : Int), c ∈ l → c ≤ s → mnf cs s l v ≤ 1 + opt cs (s - c)
  | [], v, h, _ => by cases h
  | d :: l, v, h, hs => by
    rcases List.mem_cons.1 h with rfl | h
    · refine Int.le_trans (mnf_le l _) ?_
      rw [if_pos hs]
      split <;> omega
    · exact mnf_hit l _ h hs
theorem mnf_eq {cs : List Int} (hc : Mnt cs) {s : Int} (hs : 0 < s) : mnf cs s cs s = opt cs s := by
  obtain ⟨c, h1, h2, h3⟩ := opt_step hc hs
  have a := mnf_ge hc cs (fun c h => h) s (opt_self hc (by omega))
  have b := mnf_hit (cs := cs) cs s h1 h2
  omega

theorem few_inner (n : Nat × Nat) {cs : List Int} (hv : Vld cs) (f1 : List Int → Int → Int → List Int → Option R57) (M : Int) (s : Nat) (hs : 0 < s) (hsM : s ≤ 1000) : ∀ (m k : Nat) (v : Int), k ≤ cs.length → cs.length - k < m → 0 ≤ v → v ≤ s →
    DL57_2 n f1 m cs M (s : Int) v cs (cs.length : Int) (k : Int) (ftab cs (s - 1)) = f1 cs M ((s : Int) + 1) (ftab cs (s - 1) ++ [mnf cs s (cs.drop k) v])
  | 0, k, v, _, h, _, _ => by omega
  | m + 1, k, v, hk, h, hv0, hvs => by
    have hl := hv.len
    rw [DL57_2_succ]
    unfold DF57_2
    by_cases hlt : k < cs.length
    · obtain ⟨hc1, hc2⟩ := hv.rng cs[k] (List.getElem_mem _)
      rw [decide_eq_true (show (k : Int) < (cs.length : Int) by omega), cond_true, idx_nat hlt, drop_cons hlt]
      simp only [Option.bind_some, mnf]
      generalize cs[k] = c at hc1 hc2
      have ih := few_inner n hv f1 M s hs hsM m (k + 1)
      rw [show ((k + 1 : Nat) : Int) = wr .i64 ((k : Int) + 1) by rw [wr_ok (by omega) (by omega)]; omega] at ih
      by_cases hcs : c ≤ (s : Int)
      · obtain ⟨d, hd⟩ : ∃ d : Nat, (s : Int) - c = d := ⟨((s : Int) - c).toNat, by omega⟩
        have hd1 : wr .i64 ((s : Int) - c) = d := by rw [wr_ok (by omega) (by omega)]; exact hd
        have hdl : d < (ftab cs (s - 1)).length := by rw [ftab_length]; omega
        have ho0 := opt_nonneg hv.mnt (s := (d : Int)) (by omega)
        have ho1 := opt_self hv.mnt (s := (d : Int)) (by omega)
        rw [decide_eq_true hcs, cond_true, hd1, inB_nat hdl, cond_true, idx_nat hdl, ftab_get]
        simp only [Option.bind_some, DL57_3]
        rw [wr_ok (x := 1 + opt cs (d : Nat)) (by omega) (by omega), if_pos hcs, hd]
        exact ih _ (by omega) (by omega) (by split <;> omega) (by split <;> omega)
      · rw [decide_eq_false hcs, cond_false, if_neg hcs]
        simp only [DL57_3]
        exact ih _ (by omega) (by omega) hv0 hvs
    · rw [decide_eq_false (show ¬ (k : Int) < (cs.length : Int) by omega), cond_false, List.drop_of_length_le (by omega), decide_eq_true (by rw [ftab_length]; simp [lim]; omega), cond_true, wr_ok (by omega) (by omega)]
      rfl
theorem few_loop (n : Nat × Nat) (hn : 1000 ≤ n.1) {cs : List Int} (hv : Vld cs) (M : Nat) (hM : M ≤ 900) : ∀ (m s : Nat), 0 < s → s ≤ M + 1 → M + 1 - s < m → DL57_1 n m cs (M : Int) (s : Int) (ftab cs (s - 1)) = some (ftab cs M)
  | 0, s, _, _, h => by omega
  | m + 1, s, hs, hsM, h => by
    have hl := hv.len
    rw [DL57_1_succ]
    unfold DF57_1
    by_cases hlt : s ≤ M
    · rw [decide_eq_true (show (s : Int) ≤ (M : Int) by omega), cond_true]
      have hi := few_inner n hv (DL57_1 n m) (M : Int) s hs (by omega) n.1 0 s (by omega) (by omega) (by omega) (by omega)
      rw [show ((0 : Nat) : Int) = 0 from rfl, List.drop_zero, mnf_eq hv.mnt (by omega)] at hi
      have ih := few_loop n hn hv M hM m (s + 1) (by omega) (by omega) (by omega)
      have ht : ftab cs (s + 1 - 1) = ftab cs (s - 1) ++ [opt cs (s : Nat)] := by
        have := ftab_succ cs (s - 1)
        rw [show s - 1 + 1 = s by omega] at this
        exact this
      rw [ht] at ih
      rw [hi]
      exact ih
    · rw [decide_eq_false (show ¬ (s : Int) ≤ (M : Int) by omega), cond_false, show s - 1 = M by omega]
theorem few_eq {n : Nat × Nat} (hn : 1000 ≤ n.1) {cs : List Int} (hv : Vld cs) (M : Nat) (hM : M ≤ 900) : D57 n cs (M : Int) = some (ftab cs M) := by
  unfold D57
  have := few_loop n hn hv M hM n.1 1 (by omega) (by omega) (by omega)
  rw [show ftab cs (1 - 1) = [0] by simp [ftab, opt_zero hv.mnt]] at this
  exact this
end Go.Proofs.Ytjgmfdgpgdaclaa
/-
  Coins: the reference's table of the fewest coins.
-/
set_option linter.unusedVariables false
set_option linter.unusedSimpArgs false
namespace Go.Proofs.Ytjgmfdgpgdaclaa
open Go.Vi

def ltab (M : Nat) (F : Nat → Int) : List Int := (List.range (M + 1)).map F
theorem ltab_length (M : Nat) (F : Nat → Int) : (ltab M F).length = M + 1 := by simp [ltab]
theorem ltab_get (M : Nat) (F : Nat → Int) {i : Nat} (h : i < (ltab M F).length) : (ltab M F)[i] = F i := by simp [ltab]
theorem ltab_congr {M : Nat} {F G : Nat → Int} (h : ∀ i, i ≤ M → F i = G i) : ltab M F = ltab M G := by
  unfold ltab
  exact List.map_congr_left fun i hi => h i (by simp at hi; omega)
theorem ltab_set (M : Nat) (F : Nat → Int) (t : Nat) (v : Int) : (ltab M F).set t v = ltab M (fun x => if x = t then v else F x) := by
  apply List.ext_getElem
  · simp [ltab]
  · intro i h1 h2
    rw [List.getElem_set, ltab_get M (fun x => if x = t then v else F x)]
    by_cases e : t = i
    · subst e; rw [if_pos rfl, if_pos rfl]
    · rw [if_neg e, if_neg (fun h => e h.symm)]
      exact ltab_get M F _

/-- Reached in this round: from smaller sums, or from this one by the first coins. -/
def Qd (cs : List Int) (k s i : Nat) (x : Nat) : Prop := (∃ s' : Nat, s' < s ∧ opt cs s' = k ∧ ∃ c ∈ cs, (x : Int) = s' + c) ∨ (opt cs s = k ∧ ∃ c ∈ cs.take i, (x : Int) = s + c)
open Classical in
noncomputable def lay (cs : List Int) (k s i : Nat) (x : Nat) : Int := if opt cs x ≤ k then opt cs x else if Qd cs k s i x then (k : Int) + 1 else -1

theorem Qd.opt {cs : List Int} (hv : Vld cs) {k s i x : Nat} (h : Qd cs k s i x) : opt cs x ≤ (k : Int) + 1 := by
  rcases h with ⟨s', _, h1, c, hc, hx⟩ | ⟨h1, c, hc, hx⟩
  · have := opt_more hv.mnt hc (s := (s' : Int)) (by omega)
    rw [hx]; omega
  · have := opt_more hv.mnt (List.mem_of_mem_take hc) (s := (s : Int)) (by omega)
    rw [hx]; omega
theorem lay_next {cs : List Int} (hv : Vld cs) {k s x : Nat} : lay cs k (s + 1) 0 x = lay cs k s cs.length x := by
  have : Qd cs k (s + 1) 0 x ↔ Qd cs k s cs.length x := by
    unfold Qd
    rw [List.take_length]
    constructor
    · rintro (⟨s', h0, h1, h2⟩ | ⟨_, c, hc, _⟩)
      · by_cases e : s' = s
        · subst e; exact .inr ⟨h1, h2⟩
        · exact .inl ⟨s', by omega, h1, h2⟩
      · simp at hc
    · rintro (⟨s', h0, h1, h2⟩ | ⟨h1, h2⟩)
      · exact .inl ⟨s', by omega, h1, h2⟩
      · exact .inl ⟨s, by omega, h1, h2⟩
  unfold lay
  by_cases h9 : Qd cs k s cs.length x
  · rw [if_pos h9, if_pos (this.2 h9)]
  · rw [if_neg h9, if_neg (fun h => h9 (this.1 h))]
theorem lay_skip {cs : List Int} {k s i x : Nat} (h : opt cs s ≠ k) : lay cs k (s + 1) 0 x = lay cs k s i x := by
  have : Qd cs k (s + 1) 0 x ↔ Qd cs k s i x := by
    unfold Qd
    constructor
    · rintro (⟨s', h0, h1, h2⟩ | ⟨_, c, hc, _⟩)
      · by_cases e : s' = s
        · subst e; exact absurd h1 h
        · exact .inl ⟨s', by omega, h1, h2⟩
      · simp at hc
    · rintro (⟨s', h0, h1, h2⟩ | ⟨h1, h2⟩)
      · exact .inl ⟨s', by omega, h1, h2⟩
      · exact absurd h1 h
  unfold lay
  by_cases h9 : Qd cs k s i x
  · rw [if_pos h9, if_pos (this.2 h9)]
  · rw [if_neg h9, if_neg (fun h => h9 (this.1 h))]
theorem lay_round {cs : List Int} (hv : Vld cs) {k M x : Nat} (hx : x ≤ M) : lay cs (k + 1) 0 0 x = lay cs k (M + 1) 0 x := by
  have hm := hv.mnt
  have no : ¬ Qd cs (k + 1) 0 0 x := by
    rintro (⟨s', h0, _⟩ | ⟨_, c, hc, _⟩)
    · omega
    · simp at hc
  unfold lay
  rw [if_neg no]
  by_cases h1 : opt cs x ≤ (k : Int)
  · rw [if_pos h1, if_pos (by omega)]
  · rw [if_neg h1]
    by_cases h2 : opt cs x = (k : Int) + 1
    · rw [if_pos (by omega)]
      have hx0 : 0 < (x : Int) := by
        have := opt_self hm (s := (x : Int)) (by omega)
        omega
      obtain ⟨c, a1, a2, a3⟩ := opt_step hm hx0
      have hc := hm.pos c a1
      have : Qd cs k (M + 1) 0 x := .inl ⟨((x : Int) - c).toNat, by omega, by rw [Int.toNat_of_nonneg (by omega)]; omega, c, a1, by omega⟩
      rw [if_pos this]
      exact h2
    · rw [if_neg (by omega)]
      have : ¬ Qd cs k (M + 1) 0 x := fun h => by have := h.opt hv; omega
      rw [if_neg this]
theorem lay_add {cs : List Int} (hv : Vld cs) {k s i : Nat} (hi : i < cs.length) (ho : opt cs s = k) (x : Nat) : lay cs k s (i + 1) x = if (x : Int) = s + cs[i] ∧ lay cs k s i x < 0 then (k : Int) + 1 else lay cs k s i x := by
  have hq : Qd cs k s (i + 1) x ↔ Qd cs k s i x ∨ (x : Int) = s + cs[i] := by
    unfold Qd
    rw [List.take_add_one, List.getElem?_eq_getElem hi]
    simp only [Option.toList_some, List.mem_append, List.mem_singleton]
    constructor
    · rintro (h | ⟨h1, c, hc | rfl, h2⟩)
      · exact .inl (.inl h)
      · exact .inl (.inr ⟨h1, c, hc, h2⟩)
      · exact .inr h2
    · rintro ((h | ⟨h1, c, hc, h2⟩) | h)
      · exact .inl h
      · exact .inr ⟨h1, c, .inl hc, h2⟩
      · exact .inr ⟨ho, _, .inr rfl, h⟩
  have h0 := opt_nonneg hv.mnt (s := (x : Int)) (by omega)
  unfold lay
  by_cases h1 : opt cs x ≤ (k : Int)
  · rw [if_pos h1, if_pos h1, if_neg (by omega)]
  · rw [if_neg h1, if_neg h1]
    by_cases h2 : Qd cs k s i x
    · rw [if_pos (hq.2 (.inl h2)), if_pos h2, if_neg (by omega)]
    · rw [if_neg h2]
      by_cases h3 : (x : Int) = s + cs[i]
      · rw [if_pos (hq.2 (.inr h3)), if_pos ⟨h3, by omega⟩]
      · rw [if_neg (fun h => (hq.1 h).elim h2 h3), if_neg (fun h => h3 h.1)]
theorem lay_at {cs : List Int} (hv : Vld cs) {k s i : Nat} : (lay cs k s i s = k ↔ opt cs s = k) := by
  unfold lay
  have h0 := opt_nonneg hv.mnt (s := (s : Int)) (by omega)
  split
  · exact Iff.rfl
  · split <;> omega

theorem rfew_inner (n : Nat × Nat) {cs : List Int} (hv : Vld cs) (f1 : List Int → Int → Int → List Int → Option R59) (f2 : List Int → Int → Int → Int → List Int → Option R59) (M k s : Nat) (hM : M ≤ 900) (hk : k ≤ M) (hs : s ≤ M) : ∀ (m i : Nat), i ≤ cs.length → cs.length - i < m →
    DL59_4 n f1 f2 m cs (M : Int) (k : Int) (s : Int) (i : Int) (ltab M (lay cs k s i)) = f2 cs (M : Int) (k : Int) ((s : Int) + 1) (ltab M (lay cs k (s + 1) 0))
  | 0, i, _, h => by omega
  | m + 1, i, hi, h => by
    have hl := hv.len
    rw [DL59_4_succ]
    unfold DF59_4
    by_cases hlt : i < cs.length
    · obtain ⟨hc1, hc2⟩ := hv.rng cs[i] (List.getElem_mem _)
      have hsl : s < (ltab M (lay cs k s i)).length := by rw [ltab_length]; omega
      rw [decide_eq_true (show (i : Int) < (cs.length : Int) by omega), show (true == true) = true from rfl, cond_true, inB_nat hsl, cond_true, idx_nat hsl, ltab_get]
      simp only [Option.bind_some]
      by_cases ho : opt cs s = k
      · rw [(lay_at hv).2 ho, show (((k : Nat) : Int) == (k : Int)) = true by simp, cond_true, idx_nat hlt]
        simp only [Option.bind_some]
        have ih := rfew_inner n hv f1 f2 M k s hM hk hs m (i + 1) (by omega) (by omega)
        rw [show ((i + 1 : Nat) : Int) = wr .i64 ((i : Int) + 1) by rw [wr_ok (by omega) (by omega)]; omega] at ih
        have hadd := lay_add hv hlt ho
        obtain ⟨t, ht⟩ : ∃ t : Nat, (s : Int) + cs[i] = t := ⟨((s : Int) + cs[i]).toNat, by omega⟩
        rw [ht] at hadd
        rw [ht, wr_ok (x := (t : Int)) (by omega) (by omega)]
        by_cases htM : t ≤ M
        · have htl : t < (ltab M (lay cs k s i)).length := by rw [ltab_length]; omega
          rw [decide_eq_true (show (t : Int) ≤ (M : Int) by omega), show (true == true) = true from rfl, cond_true, inB_nat htl, cond_true, idx_nat htl, ltab_get]
          simp only [Option.bind_some]
          by_cases hneg : lay cs k s i t < 0
          · rw [decide_eq_true hneg, cond_true, cond_true]
            simp only [Option.bind_some, DL59_5]
            rw [Int.toNat_natCast, ltab_set, wr_ok (x := (k : Int) + 1) (by omega) (by omega)]
            rw [ltab_congr (G := lay cs k s (i + 1)) (fun x hx => by
              rw [hadd x]
              by_cases e : x = t
              · subst e; rw [if_pos rfl, if_pos ⟨rfl, hneg⟩]
              · rw [if_neg e, if_neg (fun h => e (by omega))])]
            exact ih
          · rw [decide_eq_false hneg, cond_false]
            simp only [DL59_5]
            rw [ltab_congr (G := lay cs k s (i + 1)) (fun x hx => by
              rw [hadd x, if_neg (fun h => by
                have : x = t := by omega
                subst this
                exact hneg h.2)])]
            exact ih
        · rw [decide_eq_false (show ¬ (t : Int) ≤ (M : Int) by omega), show (false == true) = false from rfl, cond_false]
          simp only [Option.bind_some, cond_false, DL59_5]
          rw [ltab_congr (G := lay cs k s (i + 1)) (fun x hx => by rw [hadd x, if_neg (fun h => by omega)])]
          exact ih
      · rw [show (lay cs k s i s == (k : Int)) = false by simpa using fun e => ho ((lay_at hv).1 e), cond_false, wr_ok (by omega) (by omega)]
        rw [ltab_congr (fun x hx => (lay_skip ho).symm)]
    · obtain rfl : i = cs.length := by omega
      rw [decide_eq_false (show ¬ (cs.length : Int) < (cs.length : Int) by omega), show (false == true) = false from rfl, cond_false]
      simp only [Option.bind_some, cond_false]
      rw [wr_ok (by omega) (by omega), ltab_congr (fun x hx => (lay_next hv).symm)]
theorem rfew_mid (n : Nat × Nat) (hn : 1000 ≤ n.1) {cs : List Int} (hv : Vld cs) (f1 : List Int → Int → Int → List Int → Option R59) (M k : Nat) (hM : M ≤ 900) (hk : k ≤ M) : ∀ (m s : Nat), s ≤ M + 1 → M + 1 - s < m →
    DL59_3 n f1 m cs (M : Int) (k : Int) (s : Int) (ltab M (lay cs k s 0)) = f1 cs (M : Int) ((k : Int) + 1) (ltab M (lay cs (k + 1) 0 0))
  | 0, s, _, h => by omega
  | m + 1, s, hs, h => by
    have hl := hv.len
    rw [DL59_3_succ]
    unfold DF59_3
    by_cases hlt : s ≤ M
    · rw [decide_eq_true (show (s : Int) ≤ (M : Int) by omega), cond_true]
      have hi := rfew_inner n hv f1 (DL59_3 n f1 m) M k s hM hk hlt n.1 0 (by omega) (by omega)
      have ih := rfew_mid n hn hv f1 M k hM hk m (s + 1) (by omega) (by omega)
      rw [show ((s + 1 : Nat) : Int) = (s : Int) + 1 by omega] at ih
      exact hi.trans ih
    · obtain rfl : s = M + 1 := by omega
      rw [decide_eq_false (show ¬ ((M + 1 : Nat) : Int) ≤ (M : Int) by omega), cond_false, wr_ok (by omega) (by omega)]
      rw [ltab_congr (fun x hx => (lay_round hv hx).symm)]
theorem rfew_out (n : Nat × Nat) (hn : 1000 ≤ n.1) {cs : List Int} (hv : Vld cs) (M : Nat) (hM : M ≤ 900) : ∀ (m k : Nat), k ≤ M + 1 → M + 1 - k < m → DL59_2 n m cs (M : Int) (k : Int) (ltab M (lay cs k 0 0)) = some (ftab cs M)
  | 0, k, _, h => by omega
  | m + 1, k, hk, h => by
    rw [DL59_2_succ]
    unfold DF59_2
    by_cases hlt : k ≤ M
    · rw [decide_eq_true (show (k : Int) ≤ (M : Int) by omega), cond_true]
      have hi := rfew_mid n hn hv (DL59_2 n m) M k hM hlt n.1 0 (by omega) (by omega)
      have ih := rfew_out n hn hv M hM m (k + 1) (by omega) (by omega)
      rw [show ((k + 1 : Nat) : Int) = (k : Int) + 1 by omega] at ih
      exact hi.trans ih
    · rw [decide_eq_false (show ¬ (k : Int) ≤ (M : Int) by omega), cond_false]
      have : ltab M (lay cs k 0 0) = ftab cs M := ltab_congr fun x hx => by
        have := opt_self hv.mnt (s := (x : Int)) (by omega)
        unfold lay
        rw [if_pos (by omega)]
      rw [this]
theorem rfew_init (n : Nat × Nat) (hn : 1000 ≤ n.1) {cs : List Int} (hv : Vld cs) (M : Nat) (hM : M ≤ 900) : ∀ (m s : Nat), 1 ≤ s → s ≤ M + 1 → M + 1 - s < m → DL59_1 n m cs (M : Int) (s : Int) (ltab M (fun x => if 1 ≤ x ∧ x < s then -1 else 0)) = some (ftab cs M)
  | 0, s, _, _, h => by omega
  | m + 1, s, hs1, hs, h => by
    rw [DL59_1_succ]
    unfold DF59_1
    by_cases hlt : s ≤ M
    · have hsl : s < (ltab M (fun x => if 1 ≤ x ∧ x < s then -1 else 0)).length := by rw [ltab_length]; omega
      rw [decide_eq_true (show (s : Int) ≤ (M : Int) by omega), cond_true, inB_nat hsl, cond_true, idx_nat hsl]
      simp only [Option.bind_some]
      have ih := rfew_init n hn hv M hM m (s + 1) (by omega) (by omega) (by omega)
      rw [show ((s + 1 : Nat) : Int) = wr .i64 ((s : Int) + 1) by rw [wr_ok (by omega) (by omega)]; omega] at ih
      rw [Int.toNat_natCast, ltab_set, ltab_congr (G := fun x => if 1 ≤ x ∧ x < s + 1 then -1 else 0) (fun x hx => by
        by_cases e : x = s
        · subst e; rw [if_pos rfl, if_pos (by omega)]
        · rw [if_neg e]
          by_cases e2 : 1 ≤ x ∧ x < s
          · rw [if_pos e2, if_pos (by omega)]
          · rw [if_neg e2, if_neg (by omega)])]
      exact ih
    · rw [decide_eq_false (show ¬ (s : Int) ≤ (M : Int) by omega), cond_false]
      have h0 := rfew_out n hn hv M hM n.1 0 (by omega) (by omega)
      rw [ltab_congr (G := lay cs 0 0 0) (fun x hx => by
        have no : ¬ Qd cs 0 0 0 x := by
          rintro (⟨s', h0, _⟩ | ⟨_, c, hc, _⟩)
          · omega
          · simp at hc
        unfold lay
        rw [if_neg no]
        by_cases e : x = 0
        · subst e
          have := opt_zero hv.mnt
          rw [if_neg (by omega), show (((0 : Nat) : Int)) = 0 from rfl, this, if_pos (Int.le_refl 0)]
        · have := opt_pos hv.mnt (s := (x : Int)) (by omega)
          rw [if_pos (by omega), if_neg (by omega)])]
      exact h0
theorem rfew_eq {n : Nat × Nat} (hn : 1000 ≤ n.1) {cs : List Int} (hv : Vld cs) (M : Nat) (hM : M ≤ 900) : D59 n cs (M : Int) = some (ftab cs M) := by
  unfold D59
  have h1 : wr .i64 ((M : Int) + 1) = ((M + 1 : Nat) : Int) := by rw [wr_ok (by omega) (by omega)]; omega
  rw [h1, decide_eq_true (show (0 : Int) ≤ ((M + 1 : Nat) : Int) by omega), decide_eq_true (Int.le_refl _), decide_eq_true (show ((M + 1 : Nat) : Int) ≤ lim by simp [lim]; omega), Bool.and_self, Bool.and_self, cond_true, Int.toNat_natCast]
  have := rfew_init n hn hv M hM n.1 1 (by omega) (by omega) (by omega)
  rw [show ltab M (fun x => if 1 ≤ x ∧ x < 1 then -1 else 0) = List.replicate (M + 1) 0 by
    apply List.ext_getElem
    · simp [ltab]
    · intro i h1 h2; rw [ltab_get]; simp; omega] at this
  exact this
end Go.Proofs.Ytjgmfdgpgdaclaa
set_option linter.unusedVariables false
namespace Go.Proofs.Ytjgmfdgpgdaclaa
open Go.Vi

abbrev N : Nat × Nat := (10000, 1)

noncomputable def repB (x : Int) (m : Nat) : Bool := (List.range m).all fun k => decide (D52 N [x] (k : Nat) = some (List.replicate k x))
theorem repB1 : repB (-1) 251 = true := by kernel_rfl
theorem rep_eq {k : Nat} (h : k < 251) : D52 N [-1] (k : Int) = some (List.replicate k (-1)) := by
  have := List.all_eq_true.1 repB1 k (by simpa using h)
  simpa using this

end Go.Proofs.Ytjgmfdgpgdaclaa
