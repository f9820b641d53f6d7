/- Texts of this claim, joined: G43 to D48. -/
import Derived.KernelRfl
import Derived.Test.YtnlbhjmbaedadaaProg
import Derived.WalkKit
import Derived.Test.YtnlbhjmbaedadaaP6
set_option linter.unusedVariables false
set_option linter.unusedSimpArgs false
set_option maxRecDepth 100000
namespace Go.Proofs.Ytnlbhjmbaedadaa
open Go.Vi
/- (headword/headwordlaw07.Forme).made -/
abbrev R43 := List (Int × Int)
noncomputable def c43 : Code := bodyOf Try.f43
noncomputable def an43 : Ann := (.s .l (.s .l (.s .l (.s (.s .l (.j [5] (.j [5, 6, 21, 22, 23] (.s .l (.s (.j [5, 6, 21, 22, 23] .l .l) (.s (.j [5, 6, 21, 22, 23] .l .l) .l))) .l) .l)) .l))))
def pk43 : List PK := [.c (.pair (.int .u8) (.pair (.int .u8) (.pair (.pair (.int .u8) (.int .u8)) (.pair (.pair (.int .u8) (.int .u8)) (.pair (.pair (.int .u8) (.int .u8)) (.pair (.pair (.int .u8) (.int .u8)) (.pair (.pair (.int .u8) (.int .u8)) (.pair (.pair (.int .u8) (.int .u8)) (.pair (.int .u8) (.int .u8)))))))))), .c (.int .i64)]
def rk43 : List RK := [.sl (.pair (.int .i64) (.int .i64)) 4]
noncomputable def rt43 (st : St) : Option R43 := rtG rk43 st
noncomputable def E43 (n : Nat × Nat) : Env := { T := tab, phi := noPhi, eff := fun _ => false, fuel := n.1, hold := n.2 }
noncomputable def kq43_1 (n : Nat × Nat) : St → Option R43 := run (E43 n) (cB (cB (cB (cB c43)))) (Ann.snd (Ann.snd (Ann.snd (Ann.snd an43)))) rt43 (fun _ _ => none) rt43
noncomputable def xb43_3 (n : Nat × Nat) : Nat → St → Option R43 := fun j s => bif Nat.beq j 0 then normC [5] s (kq43_1 n) else (fun _ _ => none) j s
noncomputable def F43_4 (n : Nat × Nat) : (St → Option R43) → St → Option R43 := fun K s => run (E43 n) (cA (cA (cB (cA (cB (cB (cB c43))))))) (Ann.fst (Ann.fst (Ann.snd (Ann.fst (Ann.snd (Ann.snd (Ann.snd an43))))))) (fun s => normC [5, 6, 21, 22, 23] s K) (xb43_3 n) rt43 s
noncomputable def L43_1 (n : Nat × Nat) (m : Nat) (top6 : Int) (v21 : List (Int × Int)) (v22 : Int) (v23 : Int) (out5 : List (Int × Int)) : Option R43 := loopN (F43_4 n) m { tm := [uu, uu, uu, uu, uu, .own 5 none false, .c (.int .i64 top6), uu, uu, uu, uu, uu, uu, uu, uu, uu, uu, uu, uu, uu, uu, .c (.sl (.pair (.int .u8) (.int .u8)) v21 false), .c (.int .i64 v22), .c (.int .i64 v23), uu, uu, uu, uu, uu, uu, uu, uu, uu, uu, uu, uu, uu, uu, uu, uu, uu, uu, uu, uu, uu], hp := (upd emp 5 (.arr (.pair (.int .i64) (.int .i64)) out5 true)) }
theorem L43_1_eq (n : Nat × Nat) (m1 : Nat) (top6 : Int) (v21 : List (Int × Int)) (v22 : Int) (v23 : Int) (out5 : List (Int × Int)) : L43_1 n (m1 + 1) top6 v21 v22 v23 out5 =
 (bif decide (v23 < v22) then (idx v21 v23).bind fun x1' =>
 (bif inB 0 2 then (idx [x1'.1, x1'.2] 0).bind fun x2' =>
 (bif (wr .i64 (top6 + 1)) == 0 then none
 else (bif inB 1 2 then (idx [x1'.1, x1'.2] 1).bind fun x3' =>
 (bif (wr .i64 (top6 + 1)) == 0 then none
 else (bif decide (out5.length + [(Int.tmod (wr .i64 x2') (wr .i64 (top6 + 1)), Int.tmod (wr .i64 x3') (wr .i64 (top6 + 1)))].length ≤ lim) then L43_1 n m1 top6 v21 v22 (wr .i64 (v23 + 1)) (out5 ++ [(Int.tmod (wr .i64 x2') (wr .i64 (top6 + 1)), Int.tmod (wr .i64 x3') (wr .i64 (top6 + 1)))])
 else none))
 else none))
 else none)
 else some out5) := by kernel_rfl
noncomputable def S43 (n : Nat × Nat) (f0 : Int × Int × (Int × Int) × (Int × Int) × (Int × Int) × (Int × Int) × (Int × Int) × (Int × Int) × Int × Int) (most1 : Int) : Option R43 := run (E43 n) c43 an43 rt43 (fun _ _ => none) rt43 { tm := [.agg [.int .u8 f0.1, .int .u8 f0.2.1, .int .u8 f0.2.2.1.1, .int .u8 f0.2.2.1.2, .int .u8 f0.2.2.2.1.1, .int .u8 f0.2.2.2.1.2, .int .u8 f0.2.2.2.2.1.1, .int .u8 f0.2.2.2.2.1.2, .int .u8 f0.2.2.2.2.2.1.1, .int .u8 f0.2.2.2.2.2.1.2, .int .u8 f0.2.2.2.2.2.2.1.1, .int .u8 f0.2.2.2.2.2.2.1.2, .int .u8 f0.2.2.2.2.2.2.2.1.1, .int .u8 f0.2.2.2.2.2.2.2.1.2, .int .u8 f0.2.2.2.2.2.2.2.2.1, .int .u8 f0.2.2.2.2.2.2.2.2.2], .c (.int .i64 most1), uu, uu, uu, uu, uu, uu, uu, uu, uu, uu, uu, uu, uu, uu, uu, uu, uu, uu, uu, uu, uu, uu, uu, uu, uu, uu, uu, uu, uu, uu, uu, uu, uu, uu, uu, uu, uu, uu, uu, uu, uu, uu, uu], hp := emp }
theorem S43_eq (n : Nat × Nat) (f0 : Int × Int × (Int × Int) × (Int × Int) × (Int × Int) × (Int × Int) × (Int × Int) × (Int × Int) × Int × Int) (most1 : Int) : S43 n f0 most1 =
 (bif 50 == 0 then none
 else (bif most1 == 0 then none
 else (bif bounds none (some (wr .i64 (1 + (Int.tmod (wr .i64 f0.1) most1)))) none 7 then L43_1 n n.1 (wr .i64 ((Int.tmod (wr .i64 f0.2.1) 50) + 1)) ([f0.2.2.1, f0.2.2.2.1, f0.2.2.2.2.1, f0.2.2.2.2.2.1, f0.2.2.2.2.2.2.1, f0.2.2.2.2.2.2.2.1, f0.2.2.2.2.2.2.2.2].take (Int.toNat (wr .i64 (1 + (Int.tmod (wr .i64 f0.1) most1))))) (([f0.2.2.1, f0.2.2.2.1, f0.2.2.2.2.1, f0.2.2.2.2.2.1, f0.2.2.2.2.2.2.1, f0.2.2.2.2.2.2.2.1, f0.2.2.2.2.2.2.2.2].take (Int.toNat (wr .i64 (1 + (Int.tmod (wr .i64 f0.1) most1))))).length : Int) 0 []
 else none))) := by kernel_rfl
theorem S43_run (n : Nat × Nat) (xs : pksDen pk43) : S43 n xs.1 xs.2.1 = runG (E43 n) noScope c43 an43 (rtG rk43) (fun _ _ => none) (rtG rk43) (st0 pk43 xs Try.f43.ntmps) := by kernel_rfl
noncomputable def P43 (n : Nat × Nat) := phiOf pk43 rk43 (fun xs => S43 n xs.1 xs.2.1)
theorem call43 : CallOK Try.prog 43 := callOK_of Try.func43 (by kernel_rfl) (by kernel_rfl)
theorem env43 (n : Nat × Nat) : EnvOK Try.prog (E43 n) := envOK0 noPhi_ok rfl rfl
theorem par43 (n : Nat × Nat) : EnvPar (E43 n) := envPar0 noPhi_par rfl
theorem FC43 (n : Nat × Nat) : FCs Try.prog 43 (P43 n) := phiOf_FCs fun xs r h vs hv => FC.of_runG tabOK eqsOK (env43 n) (par43 n) mixed (fun _ => noScope_ok) Try.func43 (c := c43) (an := an43) (pks := pk43) (rks := rk43) (by kernel_rfl) (by kernel_rfl) hv ((S43_run n xs).symm.trans h)
abbrev R49 := List Int
noncomputable def c49 : Code := bodyOf Try.f49
noncomputable def an49 : Ann := (.s .l (.s .l (.s (.s .l (.j [5] (.j [0, 1, 5, 15, 16] (.s .l (.s (.j [0, 1, 5, 15, 16] .l .l) (.s (.j [0, 1, 5, 15, 16] (.s .l (.s .l (.s (.s .l (.j [0, 1, 5, 7, 15, 16] (.j [0, 1, 5, 6, 7, 15, 16, 20, 21] (.s .l (.s (.j [0, 1, 5, 6, 7, 15, 16, 20, 21] .l .l) (.s (.j [0, 1, 5, 6, 7, 15, 16, 20, 21] (.s .l (.s .l (.s (.s .l (.j [0, 1, 5, 6, 7, 8, 9, 15, 16, 20, 21] (.j [0, 1, 5, 6, 7, 8, 9, 15, 16, 20, 21, 27, 28, 29] (.s .l (.s (.j [0, 1, 5, 6, 7, 8, 9, 15, 16, 20, 21, 27, 28, 29] .l .l) (.s (.j [0, 1, 5, 6, 7, 8, 9, 15, 16, 20, 21, 27, 28, 29] .l .l) .l))) .l) .l)) (.s (.s .l (.j [0, 1, 5, 6, 7, 9, 15, 16, 20, 21] (.j [0, 1, 5, 6, 7, 9, 15, 16, 20, 21, 45, 46, 47] (.s .l (.s (.j [0, 1, 5, 6, 7, 9, 15, 16, 20, 21, 45, 46, 47] .l .l) (.s (.j [0, 1, 5, 6, 7, 9, 15, 16, 20, 21, 45, 46, 47] .l .l) .l))) .l) .l)) .l)))) .l) .l))) .l) .l)) .l))) .l) .l))) .l) .l)) .l)))
def pk49 : List PK := [.c (.sl (.pair (.int .i64) (.int .i64))), .c (.sl (.int .i64))]
def rk49 : List RK := [.own (.int .i64) 4]
noncomputable def rt49 (st : St) : Option R49 := rtG rk49 st
noncomputable def E49 (n : Nat × Nat) : Env := { T := tab, phi := noPhi, eff := fun _ => false, fuel := n.1, hold := n.2 }
noncomputable def kq49_1 (n : Nat × Nat) : St → Option R49 := run (E49 n) (cB (cB (cB c49))) (Ann.snd (Ann.snd (Ann.snd an49))) rt49 (fun _ _ => none) rt49
noncomputable def xb49_3 (n : Nat × Nat) : Nat → St → Option R49 := fun j s => bif Nat.beq j 0 then normC [5] s (kq49_1 n) else (fun _ _ => none) j s
noncomputable def F49_4 (n : Nat × Nat) : (St → Option R49) → St → Option R49 := fun K s => run (E49 n) (cA (cA (cB (cA (cB (cB c49)))))) (Ann.fst (Ann.fst (Ann.snd (Ann.fst (Ann.snd (Ann.snd an49)))))) (fun s => normC [0, 1, 5, 15, 16] s K) (xb49_3 n) rt49 s
noncomputable def kq49_7 (n : Nat × Nat) (m1 : Nat) : St → Option R49 := run (E49 n) (cB (cB (cB (cA (cA (cB (cA (cB (cB c49))))))))) (Ann.snd (Ann.snd (Ann.snd (Ann.fst (Ann.fst (Ann.snd (Ann.fst (Ann.snd (Ann.snd an49))))))))) (fun s => normC [0, 1, 5, 15, 16] s (loopN (F49_4 n) m1)) (xb49_3 n) rt49
noncomputable def kc49_8 (n : Nat × Nat) (m1 : Nat) : St → Option R49 := fun s => normC [0, 1, 5, 15, 16] s (kq49_7 n m1)
noncomputable def xb49_9 (n : Nat × Nat) (m1 : Nat) : Nat → St → Option R49 := fun j s => bif Nat.beq j 1 then normC [0, 1, 5, 15, 16] s (kq49_7 n m1) else (xb49_3 n) j s
noncomputable def kq49_10 (n : Nat × Nat) (m1 : Nat) : St → Option R49 := run (E49 n) (cB (cB (cB (cA (cA (cB (cB (cA (cA (cB (cA (cB (cB c49))))))))))))) (Ann.snd (Ann.snd (Ann.snd (Ann.fst (Ann.fst (Ann.snd (Ann.snd (Ann.fst (Ann.fst (Ann.snd (Ann.fst (Ann.snd (Ann.snd an49))))))))))))) (kc49_8 n m1) (xb49_9 n m1) rt49
noncomputable def xb49_12 (n : Nat × Nat) (m1 : Nat) : Nat → St → Option R49 := fun j s => bif Nat.beq j 2 then normC [0, 1, 5, 7, 15, 16] s (kq49_10 n m1) else (xb49_9 n m1) j s
noncomputable def F49_13 (n : Nat × Nat) (m1 : Nat) : (St → Option R49) → St → Option R49 := fun K s => run (E49 n) (cA (cA (cB (cA (cB (cB (cA (cA (cB (cB (cA (cA (cB (cA (cB (cB c49)))))))))))))))) (Ann.fst (Ann.fst (Ann.snd (Ann.fst (Ann.snd (Ann.snd (Ann.fst (Ann.fst (Ann.snd (Ann.snd (Ann.fst (Ann.fst (Ann.snd (Ann.fst (Ann.snd (Ann.snd an49)))))))))))))))) (fun s => normC [0, 1, 5, 6, 7, 15, 16, 20, 21] s K) (xb49_12 n m1) rt49 s
noncomputable def kq49_16 (n : Nat × Nat) (m1 m2 : Nat) : St → Option R49 := run (E49 n) (cB (cB (cB (cA (cA (cB (cA (cB (cB (cA (cA (cB (cB (cA (cA (cB (cA (cB (cB c49))))))))))))))))))) (Ann.snd (Ann.snd (Ann.snd (Ann.fst (Ann.fst (Ann.snd (Ann.fst (Ann.snd (Ann.snd (Ann.fst (Ann.fst (Ann.snd (Ann.snd (Ann.fst (Ann.fst (Ann.snd (Ann.fst (Ann.snd (Ann.snd an49))))))))))))))))))) (fun s => normC [0, 1, 5, 6, 7, 15, 16, 20, 21] s (loopN (F49_13 n m1) m2)) (xb49_12 n m1) rt49
noncomputable def kc49_17 (n : Nat × Nat) (m1 m2 : Nat) : St → Option R49 := fun s => normC [0, 1, 5, 6, 7, 15, 16, 20, 21] s (kq49_16 n m1 m2)
noncomputable def xb49_18 (n : Nat × Nat) (m1 m2 : Nat) : Nat → St → Option R49 := fun j s => bif Nat.beq j 3 then normC [0, 1, 5, 6, 7, 15, 16, 20, 21] s (kq49_16 n m1 m2) else (xb49_12 n m1) j s
noncomputable def kq49_19 (n : Nat × Nat) (m1 m2 : Nat) : St → Option R49 := run (E49 n) (cB (cB (cB (cA (cA (cB (cB (cA (cA (cB (cA (cB (cB (cA (cA (cB (cB (cA (cA (cB (cA (cB (cB c49))))))))))))))))))))))) (Ann.snd (Ann.snd (Ann.snd (Ann.fst (Ann.fst (Ann.snd (Ann.snd (Ann.fst (Ann.fst (Ann.snd (Ann.fst (Ann.snd (Ann.snd (Ann.fst (Ann.fst (Ann.snd (Ann.snd (Ann.fst (Ann.fst (Ann.snd (Ann.fst (Ann.snd (Ann.snd an49))))))))))))))))))))))) (kc49_17 n m1 m2) (xb49_18 n m1 m2) rt49
noncomputable def xb49_21 (n : Nat × Nat) (m1 m2 : Nat) : Nat → St → Option R49 := fun j s => bif Nat.beq j 4 then normC [0, 1, 5, 6, 7, 8, 9, 15, 16, 20, 21] s (kq49_19 n m1 m2) else (xb49_18 n m1 m2) j s
noncomputable def F49_22 (n : Nat × Nat) (m1 m2 : Nat) : (St → Option R49) → St → Option R49 := fun K s => run (E49 n) (cA (cA (cB (cA (cB (cB (cA (cA (cB (cB (cA (cA (cB (cA (cB (cB (cA (cA (cB (cB (cA (cA (cB (cA (cB (cB c49)))))))))))))))))))))))))) (Ann.fst (Ann.fst (Ann.snd (Ann.fst (Ann.snd (Ann.snd (Ann.fst (Ann.fst (Ann.snd (Ann.snd (Ann.fst (Ann.fst (Ann.snd (Ann.fst (Ann.snd (Ann.snd (Ann.fst (Ann.fst (Ann.snd (Ann.snd (Ann.fst (Ann.fst (Ann.snd (Ann.fst (Ann.snd (Ann.snd an49)))))))))))))))))))))))))) (fun s => normC [0, 1, 5, 6, 7, 8, 9, 15, 16, 20, 21, 27, 28, 29] s K) (xb49_21 n m1 m2) rt49 s
noncomputable def kq49_28 (n : Nat × Nat) (m1 m2 : Nat) : St → Option R49 := run (E49 n) (cB (cB (cB (cB (cA (cA (cB (cB (cA (cA (cB (cA (cB (cB (cA (cA (cB (cB (cA (cA (cB (cA (cB (cB c49)))))))))))))))))))))))) (Ann.snd (Ann.snd (Ann.snd (Ann.snd (Ann.fst (Ann.fst (Ann.snd (Ann.snd (Ann.fst (Ann.fst (Ann.snd (Ann.fst (Ann.snd (Ann.snd (Ann.fst (Ann.fst (Ann.snd (Ann.snd (Ann.fst (Ann.fst (Ann.snd (Ann.fst (Ann.snd (Ann.snd an49)))))))))))))))))))))))) (kc49_17 n m1 m2) (xb49_18 n m1 m2) rt49
noncomputable def xb49_30 (n : Nat × Nat) (m1 m2 : Nat) : Nat → St → Option R49 := fun j s => bif Nat.beq j 6 then normC [0, 1, 5, 6, 7, 9, 15, 16, 20, 21] s (kq49_28 n m1 m2) else (xb49_18 n m1 m2) j s
noncomputable def F49_31 (n : Nat × Nat) (m1 m2 : Nat) : (St → Option R49) → St → Option R49 := fun K s => run (E49 n) (cA (cA (cB (cA (cB (cB (cB (cA (cA (cB (cB (cA (cA (cB (cA (cB (cB (cA (cA (cB (cB (cA (cA (cB (cA (cB (cB c49))))))))))))))))))))))))))) (Ann.fst (Ann.fst (Ann.snd (Ann.fst (Ann.snd (Ann.snd (Ann.snd (Ann.fst (Ann.fst (Ann.snd (Ann.snd (Ann.fst (Ann.fst (Ann.snd (Ann.fst (Ann.snd (Ann.snd (Ann.fst (Ann.fst (Ann.snd (Ann.snd (Ann.fst (Ann.fst (Ann.snd (Ann.fst (Ann.snd (Ann.snd an49))))))))))))))))))))))))))) (fun s => normC [0, 1, 5, 6, 7, 9, 15, 16, 20, 21, 45, 46, 47] s K) (xb49_30 n m1 m2) rt49 s
noncomputable def L49_1 (n : Nat × Nat) (m : Nat) (l0 : List (Int × Int)) (order1 : List Int) (v15 : Int) (v16 : Int) (out5 : List Int) : Option R49 := loopN (F49_4 n) m { tm := [.c (.sl (.pair (.int .i64) (.int .i64)) l0 false), .c (.sl (.int .i64) order1 false), uu, uu, uu, .own 5 none false, uu, uu, uu, uu, uu, uu, uu, uu, uu, .c (.int .i64 v15), .c (.int .i64 v16), uu, uu, uu, uu, uu, uu, uu, uu, uu, uu, uu, uu, uu, uu, uu, uu, uu, uu, uu, uu, uu, uu, uu, uu, uu, uu, uu, uu, uu, uu, uu, uu, uu, uu, uu, uu, uu, uu, uu, uu, uu, uu, uu, uu, uu, uu, uu, uu, uu, uu, uu, uu], hp := (upd emp 5 (.arr (.int .i64) out5 true)) }
noncomputable def L49_2 (n : Nat × Nat) (m1 : Nat) (m : Nat) (l0 : List (Int × Int)) (order1 : List Int) (p6 : Int) (most7 : Int) (v15 : Int) (v16 : Int) (v20 : Int) (v21 : Int) (out5 : List Int) : Option R49 := loopN (F49_13 n m1) m { tm := [.c (.sl (.pair (.int .i64) (.int .i64)) l0 false), .c (.sl (.int .i64) order1 false), uu, uu, uu, .own 5 none false, .c (.int .i64 p6), .c (.int .i64 most7), uu, uu, uu, uu, uu, uu, uu, .c (.int .i64 v15), .c (.int .i64 v16), uu, uu, uu, .c (.int .i64 v20), .c (.int .i64 v21), uu, uu, uu, uu, uu, uu, uu, uu, uu, uu, uu, uu, uu, uu, uu, uu, uu, uu, uu, uu, uu, uu, uu, uu, uu, uu, uu, uu, uu, uu, uu, uu, uu, uu, uu, uu, uu, uu, uu, uu, uu, uu, uu, uu, uu, uu, uu], hp := (upd emp 5 (.arr (.int .i64) out5 true)) }
noncomputable def L49_3 (n : Nat × Nat) (m1 m2 : Nat) (m : Nat) (l0 : List (Int × Int)) (order1 : List Int) (p6 : Int) (most7 : Int) (q8 : Int) (v9 : Int) (v15 : Int) (v16 : Int) (v20 : Int) (v21 : Int) (v27 : List Int) (v28 : Int) (v29 : Int) (out5 : List Int) : Option R49 := loopN (F49_22 n m1 m2) m { tm := [.c (.sl (.pair (.int .i64) (.int .i64)) l0 false), .c (.sl (.int .i64) order1 false), uu, uu, uu, .own 5 none false, .c (.int .i64 p6), .c (.int .i64 most7), .c (.int .i64 q8), .c (.int .i64 v9), uu, uu, uu, uu, uu, .c (.int .i64 v15), .c (.int .i64 v16), uu, uu, uu, .c (.int .i64 v20), .c (.int .i64 v21), uu, uu, uu, uu, uu, .c (.sl (.int .i64) v27 false), .c (.int .i64 v28), .c (.int .i64 v29), uu, uu, uu, uu, uu, uu, uu, uu, uu, uu, uu, uu, uu, uu, uu, uu, uu, uu, uu, uu, uu, uu, uu, uu, uu, uu, uu, uu, uu, uu, uu, uu, uu, uu, uu, uu, uu, uu, uu], hp := (upd emp 5 (.arr (.int .i64) out5 true)) }
noncomputable def L49_4 (n : Nat × Nat) (m1 m2 : Nat) (m : Nat) (l0 : List (Int × Int)) (order1 : List Int) (p6 : Int) (most7 : Int) (v9 : Int) (v15 : Int) (v16 : Int) (v20 : Int) (v21 : Int) (v45 : List Int) (v46 : Int) (v47 : Int) (out5 : List Int) : Option R49 := loopN (F49_31 n m1 m2) m { tm := [.c (.sl (.pair (.int .i64) (.int .i64)) l0 false), .c (.sl (.int .i64) order1 false), uu, uu, uu, .own 5 none false, .c (.int .i64 p6), .c (.int .i64 most7), uu, .c (.int .i64 v9), uu, uu, uu, uu, uu, .c (.int .i64 v15), .c (.int .i64 v16), uu, uu, uu, .c (.int .i64 v20), .c (.int .i64 v21), uu, uu, uu, uu, uu, uu, uu, uu, uu, uu, uu, uu, uu, uu, uu, uu, uu, uu, uu, uu, uu, uu, uu, .c (.sl (.int .i64) v45 false), .c (.int .i64 v46), .c (.int .i64 v47), uu, uu, uu, uu, uu, uu, uu, uu, uu, uu, uu, uu, uu, uu, uu, uu, uu, uu, uu, uu, uu], hp := (upd emp 5 (.arr (.int .i64) out5 true)) }
theorem L49_1_eq (n : Nat × Nat) (m1 : Nat) (l0 : List (Int × Int)) (order1 : List Int) (v15 : Int) (v16 : Int) (out5 : List Int) : L49_1 n (m1 + 1) l0 order1 v15 v16 out5 =
 (bif decide (v16 < v15) then L49_2 n m1 n.1 l0 order1 v16 0 v15 v16 (wr .i64 (v16 + 1)) 0 out5
 else some out5) := by kernel_rfl
theorem L49_2_eq (n : Nat × Nat) (m1 m2 : Nat) (l0 : List (Int × Int)) (order1 : List Int) (p6 : Int) (most7 : Int) (v15 : Int) (v16 : Int) (v20 : Int) (v21 : Int) (out5 : List Int) : L49_2 n m1 (m2 + 1) l0 order1 p6 most7 v15 v16 v20 v21 out5 =
 (bif decide (v21 < v20) then (bif bounds none (some (wr .i64 (v21 + 1))) none order1.length then L49_3 n m1 m2 n.1 l0 order1 p6 most7 v21 0 v15 v16 v20 v21 (order1.take (Int.toNat (wr .i64 (v21 + 1)))) ((order1.take (Int.toNat (wr .i64 (v21 + 1)))).length : Int) 0 out5
 else none)
 else (bif decide (out5.length + [most7].length ≤ lim) then L49_1 n m1 l0 order1 v15 (wr .i64 (v16 + 1)) (out5 ++ [most7])
 else none)) := by kernel_rfl
theorem L49_3_eq (n : Nat × Nat) (m1 m2 m3 : Nat) (l0 : List (Int × Int)) (order1 : List Int) (p6 : Int) (most7 : Int) (q8 : Int) (v9 : Int) (v15 : Int) (v16 : Int) (v20 : Int) (v21 : Int) (v27 : List Int) (v28 : Int) (v29 : Int) (out5 : List Int) : L49_3 n m1 m2 (m3 + 1) l0 order1 p6 most7 q8 v9 v15 v16 v20 v21 v27 v28 v29 out5 =
 (bif decide (v29 < v28) then (idx v27 v29).bind fun x1' =>
 (idx l0 x1').bind fun x2' =>
      L49_3 n m1 m2 m3 l0 order1 p6 most7 q8 (wr .i64 (v9 + x2'.1)) v15 v16 v20 v21 v27 v28 (wr .i64 (v29 + 1)) out5
 else (bif bounds (some q8) (some (wr .i64 (p6 + 1))) none order1.length then L49_4 n m1 m2 n.1 l0 order1 p6 most7 v9 v15 v16 v20 v21 ((order1.take (Int.toNat (wr .i64 (p6 + 1)))).drop (Int.toNat q8)) (((order1.take (Int.toNat (wr .i64 (p6 + 1)))).drop (Int.toNat q8)).length : Int) 0 out5
 else none)) := by kernel_rfl
theorem L49_4_eq (n : Nat × Nat) (m1 m2 m3 : Nat) (l0 : List (Int × Int)) (order1 : List Int) (p6 : Int) (most7 : Int) (v9 : Int) (v15 : Int) (v16 : Int) (v20 : Int) (v21 : Int) (v45 : List Int) (v46 : Int) (v47 : Int) (out5 : List Int) : L49_4 n m1 m2 (m3 + 1) l0 order1 p6 most7 v9 v15 v16 v20 v21 v45 v46 v47 out5 =
 (bif decide (v47 < v46) then (idx v45 v47).bind fun x3' =>
 (idx l0 x3').bind fun x4' =>
      L49_4 n m1 m2 m3 l0 order1 p6 most7 (wr .i64 (v9 + x4'.2)) v15 v16 v20 v21 v45 v46 (wr .i64 (v47 + 1)) out5
 else L49_2 n m1 m2 l0 order1 p6 (if v9 > most7 then v9 else most7) v15 v16 v20 (wr .i64 (v21 + 1)) out5) := by kernel_rfl
noncomputable def S49 (n : Nat × Nat) (l0 : List (Int × Int)) (order1 : List Int) : Option R49 := run (E49 n) c49 an49 rt49 (fun _ _ => none) rt49 { tm := [.c (.sl (.pair (.int .i64) (.int .i64)) l0 false), .c (.sl (.int .i64) order1 false), uu, uu, uu, uu, uu, uu, uu, uu, uu, uu, uu, uu, uu, uu, uu, uu, uu, uu, uu, uu, uu, uu, uu, uu, uu, uu, uu, uu, uu, uu, uu, uu, uu, uu, uu, uu, uu, uu, uu, uu, uu, uu, uu, uu, uu, uu, uu, uu, uu, uu, uu, uu, uu, uu, uu, uu, uu, uu, uu, uu, uu, uu, uu, uu, uu, uu, uu], hp := emp }
theorem S49_eq (n : Nat × Nat) (l0 : List (Int × Int)) (order1 : List Int) : S49 n l0 order1 =
    L49_1 n n.1 l0 order1 (order1.length : Int) 0 [] := by kernel_rfl
theorem S49_run (n : Nat × Nat) (xs : pksDen pk49) : S49 n xs.1 xs.2.1 = runG (E49 n) noScope c49 an49 (rtG rk49) (fun _ _ => none) (rtG rk49) (st0 pk49 xs Try.f49.ntmps) := by kernel_rfl
noncomputable def P49 (n : Nat × Nat) := phiOf pk49 rk49 (fun xs => S49 n xs.1 xs.2.1)
theorem call49 : CallOK Try.prog 49 := callOK_of Try.func49 (by kernel_rfl) (by kernel_rfl)
theorem env49 (n : Nat × Nat) : EnvOK Try.prog (E49 n) := envOK0 noPhi_ok rfl rfl
theorem par49 (n : Nat × Nat) : EnvPar (E49 n) := envPar0 noPhi_par rfl
theorem FC49 (n : Nat × Nat) : FCs Try.prog 49 (P49 n) := phiOf_FCs fun xs r h vs hv => FC.of_runG tabOK eqsOK (env49 n) (par49 n) mixed (fun _ => noScope_ok) Try.func49 (c := c49) (an := an49) (pks := pk49) (rks := rk49) (by kernel_rfl) (by kernel_rfl) hv ((S49_run n xs).symm.trans h)
abbrev R46 := Int
noncomputable def c46 : Code := bodyOf Try.f46
noncomputable def an46 : Ann := .l
def pk46 : List PK := [.c (.sl (.pair (.int .i64) (.int .i64))), .c (.sl (.int .i64))]
def rk46 : List RK := [.c (.int .i64) 4]
noncomputable def rt46 (st : St) : Option R46 := rtG rk46 st
noncomputable def E46 (n : Nat × Nat) : Env := { T := tab, phi := (consPhi 49 (fun _ => true) (P49 n) noPhi), eff := fun _ => false, fuel := n.1, hold := n.2 }
noncomputable def S46 (n : Nat × Nat) (l0 : List (Int × Int)) (order1 : List Int) : Option R46 := run (E46 n) c46 an46 rt46 (fun _ _ => none) rt46 { tm := [.c (.sl (.pair (.int .i64) (.int .i64)) l0 false), .c (.sl (.int .i64) order1 false), uu, uu, uu, uu, uu, uu, uu, uu, uu, uu, uu], hp := emp }
theorem S46_eq (n : Nat × Nat) (l0 : List (Int × Int)) (order1 : List Int) : S46 n l0 order1 =
 (S49 n l0 order1).bind fun r1' =>
 (bif inB (wr .i64 ((order1.length : Int) - 1)) r1'.length then (idx r1' (wr .i64 ((order1.length : Int) - 1))).bind fun x2' =>
 some x2'
 else none) := by kernel_rfl
theorem S46_run (n : Nat × Nat) (xs : pksDen pk46) : S46 n xs.1 xs.2.1 = runG (E46 n) noScope c46 an46 (rtG rk46) (fun _ _ => none) (rtG rk46) (st0 pk46 xs Try.f46.ntmps) := by kernel_rfl
noncomputable def P46 (n : Nat × Nat) := phiOf pk46 rk46 (fun xs => S46 n xs.1 xs.2.1)
theorem call46 : CallOK Try.prog 46 := callOK_of Try.func46 (by kernel_rfl) (by kernel_rfl)
theorem env46 (n : Nat × Nat) : EnvOK Try.prog (E46 n) := envOK0 (consPhi_ok (FC49 n) call49 noPhi_ok) rfl rfl
theorem par46 (n : Nat × Nat) : EnvPar (E46 n) := envPar0 (consPhi_par phiOf_Par1 noPhi_par) rfl
theorem FC46 (n : Nat × Nat) : FCs Try.prog 46 (P46 n) := phiOf_FCs fun xs r h vs hv => FC.of_runG tabOK eqsOK (env46 n) (par46 n) mixed (fun _ => noScope_ok) Try.func46 (c := c46) (an := an46) (pks := pk46) (rks := rk46) (by kernel_rfl) (by kernel_rfl) hv ((S46_run n xs).symm.trans h)
abbrev R79io01111 := (Unit) × (List (Int × Int)) × Int × Int × (List Int) × Unit
noncomputable def c79io01111 : Code := bodyOf Try.f79
noncomputable def an79io01111 : Ann := (.s .l (.j [1000000000, 1000000001, 1000000002, 1000000003] (.s .l (.j [1000000000, 1000000001, 1000000002, 1000000003] .l (.s .l (.j [1000000000, 1000000001, 1000000002, 1000000003] .l .l)))) .l))
def pk79io01111 : List QK := [.pl (.c (.sl (.int .i64))), .ob (.sl (.pair (.int .i64) (.int .i64))), .ob (.int .i64), .ob (.int .i64), .ob (.sl (.int .i64))]
def rk79io01111 : List RK := []
noncomputable def rt79io01111 (st : St) : Option R79io01111 := rtIO rk79io01111 (pk79io01111.flatMap QK.ods) st
noncomputable def E79io01111 (n : Nat × Nat) : Env := { T := tab, phi := (consPhi 46 (fun _ => true) (P46 n) noPhi), eff := fun _ => false, fuel := n.1, hold := n.2 }
noncomputable def S79io01111 (n : Nat × Nat) (o0 : List Int) (v1 : List (Int × Int)) (v2 : Int) (v3 : Int) (v4 : List Int) : Option R79io01111 := run (E79io01111 n) c79io01111 an79io01111 rt79io01111 (fun _ _ => none) rt79io01111 { tm := [.c (.sl (.int .i64) o0 false), .ptr 1000000000 0, .ptr 1000000001 0, .ptr 1000000002 0, .ptr 1000000003 0, uu, uu, uu, uu, uu, uu, uu, uu, uu, uu, uu, uu, uu, uu, uu, uu, uu, uu, uu, uu, uu], hp := (upd (upd (upd (upd emp 1000000003 (.box [.sl (.int .i64) v4 false])) 1000000002 (.box [.int .i64 v3])) 1000000001 (.box [.int .i64 v2])) 1000000000 (.box [.sl (.pair (.int .i64) (.int .i64)) v1 false])) }
theorem S79io01111_eq (n : Nat × Nat) (o0 : List Int) (v1 : List (Int × Int)) (v2 : Int) (v3 : Int) (v4 : List Int) : S79io01111 n o0 v1 v2 v3 v4 =
 (S46 n v1 o0).bind fun r1' =>
 ((bif ((v2 == 0) == false) then some (decide (r1' < v3))
 else some true)).bind fun b2' =>
 (bif b2' then some ((), v1, 1, r1', o0, ())
 else (bif (r1' == v3) then some ((), v1, wr .i64 (v2 + 1), v3, v4, ())
 else some ((), v1, v2, v3, v4, ()))) := by kernel_rfl
theorem S79io01111_run (n : Nat × Nat) (xs : qksDen pk79io01111) : S79io01111 n xs.1 xs.2.1 xs.2.2.1 xs.2.2.2.1 xs.2.2.2.2.1 = runG (E79io01111 n) noScope c79io01111 an79io01111 (rtIO rk79io01111 (pk79io01111.flatMap QK.ods)) (fun _ _ => none) (rtIO rk79io01111 (pk79io01111.flatMap QK.ods)) (st1 pk79io01111 xs Try.f79.ntmps) := by kernel_rfl
noncomputable def P79io01111 (n : Nat × Nat) := phioOf pk79io01111 rk79io01111 (pk79io01111.flatMap QK.ods) (fun xs => S79io01111 n xs.1 xs.2.1 xs.2.2.1 xs.2.2.2.1 xs.2.2.2.2.1)
theorem call79 : CallOK Try.prog 79 := callOK_of Try.func79 (by kernel_rfl) (by kernel_rfl)
theorem env79io01111 (n : Nat × Nat) : EnvOK Try.prog (E79io01111 n) := envOK0 (consPhi_ok (FC46 n) call46 noPhi_ok) rfl rfl
theorem par79io01111 (n : Nat × Nat) : EnvPar (E79io01111 n) := envPar0 (consPhi_par phiOf_Par1 noPhi_par) rfl
theorem FC79io01111 (n : Nat × Nat) : FCios Try.prog 79 (pk79io01111.map QK.flag) (P79io01111 n) := phioOf_FCios fun xs r h vs hv => FCio.of_runG tabOK eqsOK (env79io01111 n) (par79io01111 n) mixed (fun _ => noScope_ok) Try.func79 (c := c79io01111) (an := an79io01111) (qks := pk79io01111) (rks := rk79io01111) (by kernel_rfl) (by kernel_rfl) hv ((S79io01111_run n xs).symm.trans h)
abbrev R93f79io0110 := (Unit) × Int × (List (Int × Int)) × Int × Int × (List Int) × Unit
noncomputable def c93f79io0110 : Code := bodyOf Try.f93
noncomputable def an93f79io0110 : Ann := (.s (.s .l (.j [0, 1, 3, 1000000000, 1000000001, 1000000002, 1000000003, 1000000004] .l .l)) (.s .l (.j [1000000000, 1000000001, 1000000002, 1000000003, 1000000004] (.j [0, 3, 13, 14, 1000000000, 1000000001, 1000000002, 1000000003, 1000000004] (.s .l (.s (.j [0, 3, 13, 14, 1000000000, 1000000001, 1000000002, 1000000003, 1000000004] .l .l) (.j [] (.j [0, 3, 13, 14, 1000000000, 1000000001, 1000000002, 1000000003, 1000000004] (.s .l (.s .l (.j [0, 3, 13, 14, 1000000000, 1000000001, 1000000002, 1000000003, 1000000004] .l .l))) .l) .l))) .l) .l)))
def pk93f79io0110 : List QK := [.pl (.c (.sl (.int .i64))), .ob (.int .i64), .fp 79 [(.sl (.pair (.int .i64) (.int .i64))), (.int .i64), (.int .i64), (.sl (.int .i64))], .sf 93 [.b 1000000000, .v 79 [1000000001, 1000000002, 1000000003, 1000000004], .s]]
def rk93f79io0110 : List RK := []
noncomputable def rt93f79io0110 (st : St) : Option R93f79io0110 := rtIO rk93f79io0110 (pk93f79io0110.flatMap QK.ods) st
noncomputable def io93f79io0110 (n : Nat × Nat) (SS : List Int → Int → (List (Int × Int)) → Int → Int → List Int → Option R93f79io0110) : List IoE := [⟨79, (fun _ => true), pk79io01111.map QK.flag, P79io01111 n⟩, ⟨93, (fun _ => true), pk93f79io0110.map QK.flag, (phioOf pk93f79io0110 rk93f79io0110 (pk93f79io0110.flatMap QK.ods) (fun xs => SS xs.1 xs.2.1 xs.2.2.1.1 xs.2.2.1.2.1 xs.2.2.1.2.2.1 xs.2.2.1.2.2.2.1))⟩]
noncomputable def E93f79io0110 (n : Nat × Nat) (SS : List Int → Int → (List (Int × Int)) → Int → Int → List Int → Option R93f79io0110) : Env := { T := tab, phi := (consPhi 80 (fun _ => true) (P80 n) noPhi), eff := fun _ => false, fuel := n.1, hold := n.2, phio := phioL (io93f79io0110 n SS), iop := iopL (io93f79io0110 n SS) }
noncomputable def xb93f79io0110_4 (n : Nat × Nat) (SS : List Int → Int → (List (Int × Int)) → Int → Int → List Int → Option R93f79io0110) : Nat → St → Option R93f79io0110 := fun j s => bif Nat.beq j 0 then normC [1000000000, 1000000001, 1000000002, 1000000003, 1000000004] s rt93f79io0110 else (fun _ _ => none) j s
noncomputable def F93f79io0110_5 (n : Nat × Nat) (SS : List Int → Int → (List (Int × Int)) → Int → Int → List Int → Option R93f79io0110) : (St → Option R93f79io0110) → St → Option R93f79io0110 := fun K s => run (E93f79io0110 n SS) (cA (cA (cB (cB c93f79io0110)))) (Ann.fst (Ann.fst (Ann.snd (Ann.snd an93f79io0110)))) (fun s => normC [0, 3, 13, 14, 1000000000, 1000000001, 1000000002, 1000000003, 1000000004] s K) (xb93f79io0110_4 n SS) rt93f79io0110 s
noncomputable def kq93f79io0110_8 (n : Nat × Nat) (SS : List Int → Int → (List (Int × Int)) → Int → Int → List Int → Option R93f79io0110) (m1 : Nat) : St → Option R93f79io0110 := run (E93f79io0110 n SS) (cB (cB (cB (cA (cA (cB (cB c93f79io0110))))))) (Ann.snd (Ann.snd (Ann.snd (Ann.fst (Ann.fst (Ann.snd (Ann.snd an93f79io0110))))))) (fun s => normC [0, 3, 13, 14, 1000000000, 1000000001, 1000000002, 1000000003, 1000000004] s (loopN (F93f79io0110_5 n SS) m1)) (xb93f79io0110_4 n SS) rt93f79io0110
noncomputable def L93f79io0110_1 (n : Nat × Nat) (SS : List Int → Int → (List (Int × Int)) → Int → Int → List Int → Option R93f79io0110) (m : Nat) (l0 : List Int) (v13 : Int) (v14 : Int) (u0 : Int) (u1 : List (Int × Int)) (u2 : Int) (u3 : Int) (u4 : List Int) : Option R93f79io0110 := loopN (F93f79io0110_5 n SS) m { tm := [.c (.sl (.int .i64) l0 false), uu, uu, .fptr 93 [.b 1000000000, .v 79 [1000000001, 1000000002, 1000000003, 1000000004], .s], uu, uu, uu, uu, uu, uu, uu, uu, uu, .c (.int .i64 v13), .c (.int .i64 v14), uu, uu, uu, uu, uu, uu, uu, uu, uu, uu, uu, uu, uu, uu, uu, uu, uu, uu], hp := (upd (upd (upd (upd (upd emp 1000000004 (.box [.sl (.int .i64) u4 false])) 1000000003 (.box [.int .i64 u3])) 1000000002 (.box [.int .i64 u2])) 1000000001 (.box [.sl (.pair (.int .i64) (.int .i64)) u1 false])) 1000000000 (.box [.int .i64 u0])) }
noncomputable def L93f79io0110_2 (n : Nat × Nat) (SS : List Int → Int → (List (Int × Int)) → Int → Int → List Int → Option R93f79io0110) (m1 : Nat) (l0 : List Int) (v13 : Int) (v14 : Int) (u0 : Int) (u1 : List (Int × Int)) (u2 : Int) (u3 : Int) (u4 : List Int) : Option R93f79io0110 := loopN (fun _ => (kq93f79io0110_8 n SS m1)) n.2 { tm := [.c (.sl (.int .i64) l0 false), uu, uu, .fptr 93 [.b 1000000000, .v 79 [1000000001, 1000000002, 1000000003, 1000000004], .s], uu, uu, uu, uu, uu, uu, uu, uu, uu, .c (.int .i64 v13), .c (.int .i64 v14), uu, uu, uu, uu, uu, uu, uu, uu, uu, uu, uu, uu, uu, uu, uu, uu, uu, uu], hp := (upd (upd (upd (upd (upd emp 1000000004 (.box [.sl (.int .i64) u4 false])) 1000000003 (.box [.int .i64 u3])) 1000000002 (.box [.int .i64 u2])) 1000000001 (.box [.sl (.pair (.int .i64) (.int .i64)) u1 false])) 1000000000 (.box [.int .i64 u0])) }
theorem L93f79io0110_1_eq (n : Nat × Nat) (SS : List Int → Int → (List (Int × Int)) → Int → Int → List Int → Option R93f79io0110) (m1 : Nat) (l0 : List Int) (v13 : Int) (v14 : Int) (u0 : Int) (u1 : List (Int × Int)) (u2 : Int) (u3 : Int) (u4 : List Int) : L93f79io0110_1 n SS (m1 + 1) l0 v13 v14 u0 u1 u2 u3 u4 =
 (bif decide (v14 < v13) then (S80 n l0 v14).bind fun r2' =>
 (bif (!r2') then (bif ((l0.length : Int) == (l0.length : Int)) && bounds none (some (l0.length : Int)) (some (l0.length : Int)) l0.length then (bif decide ((l0.take (Int.toNat (l0.length : Int))).length + [v14].length ≤ lim) && ((l0.take (Int.toNat (l0.length : Int))).isEmpty || ![v14].isEmpty) then (SS ((l0.take (Int.toNat (l0.length : Int))) ++ [v14]) u0 u1 u2 u3 u4).bind fun r3' =>
            L93f79io0110_2 n SS m1 l0 v13 v14 r3'.2.1 r3'.2.2.1 r3'.2.2.2.1 r3'.2.2.2.2.1 r3'.2.2.2.2.2.1
 else none)
 else none)
 else L93f79io0110_2 n SS m1 l0 v13 v14 u0 u1 u2 u3 u4)
 else some ((), u0, u1, u2, u3, u4, ())) := by kernel_rfl
theorem L93f79io0110_2_raw (n : Nat × Nat) (SS : List Int → Int → (List (Int × Int)) → Int → Int → List Int → Option R93f79io0110) (m1 : Nat) (l0 : List Int) (v13 : Int) (v14 : Int) (u0 : Int) (u1 : List (Int × Int)) (u2 : Int) (u3 : Int) (u4 : List Int) : (kq93f79io0110_8 n SS m1) { tm := [.c (.sl (.int .i64) l0 false), uu, uu, .fptr 93 [.b 1000000000, .v 79 [1000000001, 1000000002, 1000000003, 1000000004], .s], uu, uu, uu, uu, uu, uu, uu, uu, uu, .c (.int .i64 v13), .c (.int .i64 v14), uu, uu, uu, uu, uu, uu, uu, uu, uu, uu, uu, uu, uu, uu, uu, uu, uu, uu], hp := (upd (upd (upd (upd (upd emp 1000000004 (.box [.sl (.int .i64) u4 false])) 1000000003 (.box [.int .i64 u3])) 1000000002 (.box [.int .i64 u2])) 1000000001 (.box [.sl (.pair (.int .i64) (.int .i64)) u1 false])) 1000000000 (.box [.int .i64 u0])) } =
    L93f79io0110_1 n SS m1 l0 v13 (wr .i64 (v14 + 1)) u0 u1 u2 u3 u4 := by kernel_rfl
noncomputable def B93f79io0110 (n : Nat × Nat) (SS : List Int → Int → (List (Int × Int)) → Int → Int → List Int → Option R93f79io0110) (l0 : List Int) (v1 : Int) (cp_2_0 : List (Int × Int)) (cp_2_1 : Int) (cp_2_2 : Int) (cp_2_3 : List Int) : Option R93f79io0110 := run (E93f79io0110 n SS) c93f79io0110 an93f79io0110 rt93f79io0110 (fun _ _ => none) rt93f79io0110 { tm := [.c (.sl (.int .i64) l0 false), .ptr 1000000000 0, .fptr 79 [.b 1000000001, .b 1000000002, .b 1000000003, .b 1000000004], .fptr 93 [.b 1000000000, .v 79 [1000000001, 1000000002, 1000000003, 1000000004], .s], uu, uu, uu, uu, uu, uu, uu, uu, uu, uu, uu, uu, uu, uu, uu, uu, uu, uu, uu, uu, uu, uu, uu, uu, uu, uu, uu, uu, uu], hp := (upd (upd (upd (upd (upd emp 1000000004 (.box [.sl (.int .i64) cp_2_3 false])) 1000000003 (.box [.int .i64 cp_2_2])) 1000000002 (.box [.int .i64 cp_2_1])) 1000000001 (.box [.sl (.pair (.int .i64) (.int .i64)) cp_2_0 false])) 1000000000 (.box [.int .i64 v1])) }
theorem B93f79io0110_eq (n : Nat × Nat) (SS : List Int → Int → (List (Int × Int)) → Int → Int → List Int → Option R93f79io0110) (l0 : List Int) (v1 : Int) (cp_2_0 : List (Int × Int)) (cp_2_1 : Int) (cp_2_2 : Int) (cp_2_3 : List Int) : B93f79io0110 n SS l0 v1 cp_2_0 cp_2_1 cp_2_2 cp_2_3 =
 (bif ((l0.length : Int) == v1) then (S79io01111 n l0 cp_2_0 cp_2_1 cp_2_2 cp_2_3).bind fun r1' =>
 some ((), v1, r1'.2.1, r1'.2.2.1, r1'.2.2.2.1, r1'.2.2.2.2.1, ())
 else L93f79io0110_1 n SS n.1 l0 v1 0 v1 cp_2_0 cp_2_1 cp_2_2 cp_2_3) := by kernel_rfl
noncomputable def T93f79io0110 (n : Nat × Nat) : Nat → List Int → Int → (List (Int × Int)) → Int → Int → List Int → Option R93f79io0110
  | 0 => fun _ _ _ _ _ _ => none
  | d + 1 => B93f79io0110 n (T93f79io0110 n d)
theorem T93f79io0110_eq (n : Nat × Nat) (d : Nat) (l0 : List Int) (v1 : Int) (cp_2_0 : List (Int × Int)) (cp_2_1 : Int) (cp_2_2 : Int) (cp_2_3 : List Int) : T93f79io0110 n (d + 1) l0 v1 cp_2_0 cp_2_1 cp_2_2 cp_2_3 = B93f79io0110 n (T93f79io0110 n d) l0 v1 cp_2_0 cp_2_1 cp_2_2 cp_2_3 := rfl
noncomputable def S93f79io0110 (n : Nat × Nat) (l0 : List Int) (v1 : Int) (cp_2_0 : List (Int × Int)) (cp_2_1 : Int) (cp_2_2 : Int) (cp_2_3 : List Int) : Option R93f79io0110 := T93f79io0110 n n.1 l0 v1 cp_2_0 cp_2_1 cp_2_2 cp_2_3
theorem B93f79io0110_run (n : Nat × Nat) (SS : List Int → Int → (List (Int × Int)) → Int → Int → List Int → Option R93f79io0110) (xs : qksDen pk93f79io0110) : B93f79io0110 n SS xs.1 xs.2.1 xs.2.2.1.1 xs.2.2.1.2.1 xs.2.2.1.2.2.1 xs.2.2.1.2.2.2.1 = runG (E93f79io0110 n SS) noScope c93f79io0110 an93f79io0110 (rtIO rk93f79io0110 (pk93f79io0110.flatMap QK.ods)) (fun _ _ => none) (rtIO rk93f79io0110 (pk93f79io0110.flatMap QK.ods)) (st1 pk93f79io0110 xs Try.f93.ntmps) := by kernel_rfl
noncomputable def P93f79io0110 (n : Nat × Nat) := phioOf pk93f79io0110 rk93f79io0110 (pk93f79io0110.flatMap QK.ods) (fun xs => S93f79io0110 n xs.1 xs.2.1 xs.2.2.1.1 xs.2.2.1.2.1 xs.2.2.1.2.2.1 xs.2.2.1.2.2.2.1)
theorem call93 : CallOK Try.prog 93 := callOK_of Try.func93 (by kernel_rfl) (by kernel_rfl)
theorem env93f79io0110 (n : Nat × Nat) (SS : List Int → Int → (List (Int × Int)) → Int → Int → List Int → Option R93f79io0110) (hSS : FCios Try.prog 93 (pk93f79io0110.map QK.flag) (phioOf pk93f79io0110 rk93f79io0110 (pk93f79io0110.flatMap QK.ods) (fun xs => SS xs.1 xs.2.1 xs.2.2.1.1 xs.2.2.1.2.1 xs.2.2.1.2.2.1 xs.2.2.1.2.2.2.1))) : EnvOK Try.prog (E93f79io0110 n SS) := envOK (l := io93f79io0110 n SS) (consPhi_ok (FC80 n) call80 noPhi_ok) rfl rfl (by kernel_rfl) ⟨FC79io01111 n, call79, hSS, call93, trivial⟩
theorem par93f79io0110 (n : Nat × Nat) (SS : List Int → Int → (List (Int × Int)) → Int → Int → List Int → Option R93f79io0110) : EnvPar (E93f79io0110 n SS) := envPar (l := io93f79io0110 n SS) (consPhi_par phiOf_Par1 noPhi_par) rfl ⟨phioOf_Pario1, phioOf_Pario1, trivial⟩
theorem FCT93f79io0110 (n : Nat × Nat) : ∀ d : Nat, FCios Try.prog 93 (pk93f79io0110.map QK.flag) (phioOf pk93f79io0110 rk93f79io0110 (pk93f79io0110.flatMap QK.ods) (fun xs => T93f79io0110 n d xs.1 xs.2.1 xs.2.2.1.1 xs.2.2.1.2.1 xs.2.2.1.2.2.1 xs.2.2.1.2.2.2.1))
  | 0 => phioOf_FCios fun xs r h => by cases h
  | d + 1 => phioOf_FCios fun xs r h vs hv => FCio.of_runG tabOK eqsOK (env93f79io0110 n (T93f79io0110 n d) (FCT93f79io0110 n d)) (par93f79io0110 n (T93f79io0110 n d)) mixed (fun _ => noScope_ok) Try.func93 (c := c93f79io0110) (an := an93f79io0110) (qks := pk93f79io0110) (rks := rk93f79io0110) (by kernel_rfl) (by kernel_rfl) hv ((B93f79io0110_run n (T93f79io0110 n d) xs).symm.trans h)
theorem FC93f79io0110 (n : Nat × Nat) : FCios Try.prog 93 (pk93f79io0110.map QK.flag) (P93f79io0110 n) := FCT93f79io0110 n n.1
abbrev R78c79io01 := (Unit) × (List (Int × Int)) × Int × Int × (List Int) × Unit
noncomputable def c78c79io01 : Code := bodyOf Try.f78
noncomputable def an78c79io01 : Ann := .l
def pk78c79io01 : List QK := [.pl (.c (.int .i64)), .of 79 [(.sl (.pair (.int .i64) (.int .i64))), (.int .i64), (.int .i64), (.sl (.int .i64))]]
def rk78c79io01 : List RK := []
noncomputable def rt78c79io01 (st : St) : Option R78c79io01 := rtIO rk78c79io01 (pk78c79io01.flatMap QK.ods) st
noncomputable def io78c79io01 (n : Nat × Nat) : List IoE := [⟨93, (fun _ => true), pk93f79io0110.map QK.flag, P93f79io0110 n⟩]
noncomputable def E78c79io01 (n : Nat × Nat) : Env := { T := tab, phi := noPhi, eff := fun _ => false, fuel := n.1, hold := n.2, phio := phioL (io78c79io01 n), iop := iopL (io78c79io01 n) }
noncomputable def S78c79io01 (n : Nat × Nat) (v0 : Int) (cp_1_0 : List (Int × Int)) (cp_1_1 : Int) (cp_1_2 : Int) (cp_1_3 : List Int) : Option R78c79io01 := run (E78c79io01 n) c78c79io01 an78c79io01 rt78c79io01 (fun _ _ => none) rt78c79io01 { tm := [.c (.int .i64 v0), .fn 79 [.ptr 1000000000 0, .ptr 1000000001 0, .ptr 1000000002 0, .ptr 1000000003 0], uu, uu, uu, uu, uu, uu], hp := (upd (upd (upd (upd emp 1000000003 (.box [.sl (.int .i64) cp_1_3 false])) 1000000002 (.box [.int .i64 cp_1_2])) 1000000001 (.box [.int .i64 cp_1_1])) 1000000000 (.box [.sl (.pair (.int .i64) (.int .i64)) cp_1_0 false])) }
theorem S78c79io01_eq (n : Nat × Nat) (v0 : Int) (cp_1_0 : List (Int × Int)) (cp_1_1 : Int) (cp_1_2 : Int) (cp_1_3 : List Int) : S78c79io01 n v0 cp_1_0 cp_1_1 cp_1_2 cp_1_3 =
 (S93f79io0110 n [] v0 cp_1_0 cp_1_1 cp_1_2 cp_1_3).bind fun r1' =>
 some ((), r1'.2.2.1, r1'.2.2.2.1, r1'.2.2.2.2.1, r1'.2.2.2.2.2.1, ()) := by kernel_rfl
theorem S78c79io01_run (n : Nat × Nat) (xs : qksDen pk78c79io01) : S78c79io01 n xs.1 xs.2.1.1 xs.2.1.2.1 xs.2.1.2.2.1 xs.2.1.2.2.2.1 = runG (E78c79io01 n) noScope c78c79io01 an78c79io01 (rtIO rk78c79io01 (pk78c79io01.flatMap QK.ods)) (fun _ _ => none) (rtIO rk78c79io01 (pk78c79io01.flatMap QK.ods)) (st1 pk78c79io01 xs Try.f78.ntmps) := by kernel_rfl
noncomputable def P78c79io01 (n : Nat × Nat) := phioOf pk78c79io01 rk78c79io01 (pk78c79io01.flatMap QK.ods) (fun xs => S78c79io01 n xs.1 xs.2.1.1 xs.2.1.2.1 xs.2.1.2.2.1 xs.2.1.2.2.2.1)
theorem call78 : CallOK Try.prog 78 := callOK_of Try.func78 (by kernel_rfl) (by kernel_rfl)
theorem env78c79io01 (n : Nat × Nat) : EnvOK Try.prog (E78c79io01 n) := envOK (l := io78c79io01 n) noPhi_ok rfl rfl (by kernel_rfl) ⟨FC93f79io0110 n, call93, trivial⟩
theorem par78c79io01 (n : Nat × Nat) : EnvPar (E78c79io01 n) := envPar (l := io78c79io01 n) noPhi_par rfl ⟨phioOf_Pario1, trivial⟩
theorem FC78c79io01 (n : Nat × Nat) : FCios Try.prog 78 (pk78c79io01.map QK.flag) (P78c79io01 n) := phioOf_FCios fun xs r h vs hv => FCio.of_runG tabOK eqsOK (env78c79io01 n) (par78c79io01 n) mixed (fun _ => noScope_ok) Try.func78 (c := c78c79io01) (an := an78c79io01) (qks := pk78c79io01) (rks := rk78c79io01) (by kernel_rfl) (by kernel_rfl) hv ((S78c79io01_run n xs).symm.trans h)
abbrev R44 := List Int × Int × Int
noncomputable def c44 : Code := bodyOf Try.f44
noncomputable def an44 : Ann := .l
def pk44 : List PK := [.c (.sl (.pair (.int .i64) (.int .i64)))]
def rk44 : List RK := [.box (.sl (.int .i64)) 2, .box (.int .i64) 3, .box (.int .i64) 4]
noncomputable def rt44 (st : St) : Option R44 := rtG rk44 st
noncomputable def io44 (n : Nat × Nat) : List IoE := [⟨78, (isFns [none, some 79]), pk78c79io01.map QK.flag, P78c79io01 n⟩]
noncomputable def E44 (n : Nat × Nat) : Env := { T := tab, phi := noPhi, eff := fun _ => false, fuel := n.1, hold := n.2, phio := phioL (io44 n), iop := iopL (io44 n) }
noncomputable def S44 (n : Nat × Nat) (l0 : List (Int × Int)) : Option R44 := run (E44 n) c44 an44 rt44 (fun _ _ => none) rt44 { tm := [.c (.sl (.pair (.int .i64) (.int .i64)) l0 false), uu, uu, uu, uu, uu, uu, uu, uu, uu, uu, uu], hp := emp }
theorem S44_eq (n : Nat × Nat) (l0 : List (Int × Int)) : S44 n l0 =
 (S78c79io01 n (l0.length : Int) l0 0 0 []).bind fun r1' =>
 some (r1'.2.2.2.2.1, r1'.2.2.2.1, r1'.2.2.1) := by kernel_rfl
theorem S44_run (n : Nat × Nat) (xs : pksDen pk44) : S44 n xs.1 = runG (E44 n) noScope c44 an44 (rtG rk44) (fun _ _ => none) (rtG rk44) (st0 pk44 xs Try.f44.ntmps) := by kernel_rfl
noncomputable def P44 (n : Nat × Nat) := phiOf pk44 rk44 (fun xs => S44 n xs.1)
theorem call44 : CallOK Try.prog 44 := callOK_of Try.func44 (by kernel_rfl) (by kernel_rfl)
theorem env44 (n : Nat × Nat) : EnvOK Try.prog (E44 n) := envOK (l := io44 n) noPhi_ok rfl rfl (by kernel_rfl) ⟨FC78c79io01 n, call78, trivial⟩
theorem par44 (n : Nat × Nat) : EnvPar (E44 n) := envPar (l := io44 n) noPhi_par rfl ⟨phioOf_Pario1, trivial⟩
theorem FC44 (n : Nat × Nat) : FCs Try.prog 44 (P44 n) := phiOf_FCs fun xs r h vs hv => FC.of_runG tabOK eqsOK (env44 n) (par44 n) mixed (fun _ => noScope_ok) Try.func44 (c := c44) (an := an44) (pks := pk44) (rks := rk44) (by kernel_rfl) (by kernel_rfl) hv ((S44_run n xs).symm.trans h)
abbrev R45 := Bool
noncomputable def c45 : Code := bodyOf Try.f45
noncomputable def an45 : Ann := (.s .l (.s (.s .l (.j [0, 1, 21, 22, 23, 26, 27, 28, 29, 30] .l .l)) (.s (.s .l (.j [] (.j [0, 1, 11, 12, 13, 21, 22, 23, 26, 27, 28, 29, 30] (.s .l (.s (.j [0, 1, 11, 12, 13, 21, 22, 23, 26, 27, 28, 29, 30] .l .l) (.s (.j [0, 1, 11, 12, 13, 21, 22, 23, 26, 27, 28, 29, 30] (.s .l (.s .l (.j [0, 1, 11, 12, 13, 21, 22, 23, 26, 27, 28, 29, 30] .l .l))) .l) .l))) .l) .l)) .l)))
def pk45 : List PK := [.c (.sl (.int .i64)), .c (.int .i64)]
def rk45 : List RK := [.c .bool 4]
noncomputable def rt45 (st : St) : Option R45 := rtG rk45 st
noncomputable def E45 (n : Nat × Nat) : Env := { T := tab, phi := (consPhi 80 (fun _ => true) (P80 n) noPhi), eff := fun _ => false, fuel := n.1, hold := n.2 }
noncomputable def kq45_3 (n : Nat × Nat) : St → Option R45 := run (E45 n) (cB (cB (cB c45))) (Ann.snd (Ann.snd (Ann.snd an45))) rt45 (fun _ _ => none) rt45
noncomputable def xb45_5 (n : Nat × Nat) : Nat → St → Option R45 := fun j s => bif Nat.beq j 0 then normC [] s (kq45_3 n) else (fun _ _ => none) j s
noncomputable def F45_6 (n : Nat × Nat) : (St → Option R45) → St → Option R45 := fun K s => run (E45 n) (cA (cA (cB (cA (cB (cB c45)))))) (Ann.fst (Ann.fst (Ann.snd (Ann.fst (Ann.snd (Ann.snd an45)))))) (fun s => normC [0, 1, 11, 12, 13, 21, 22, 23, 26, 27, 28, 29, 30] s K) (xb45_5 n) rt45 s
noncomputable def L45_1 (n : Nat × Nat) (m : Nat) (l0 : List Int) (v1 : Int) (v11 : List Int) (v12 : Int) (v13 : Int) : Option R45 := loopN (F45_6 n) m { tm := [.c (.sl (.int .i64) l0 false), .c (.int .i64 v1), uu, uu, uu, uu, uu, uu, uu, uu, uu, .c (.sl (.int .i64) v11 false), .c (.int .i64 v12), .c (.int .i64 v13), uu, uu, uu, uu, uu, uu, uu, uu, uu, uu, uu, uu, uu, uu, uu, uu, uu, uu, uu], hp := emp }
theorem L45_1_eq (n : Nat × Nat) (m1 : Nat) (l0 : List Int) (v1 : Int) (v11 : List Int) (v12 : Int) (v13 : Int) : L45_1 n (m1 + 1) l0 v1 v11 v12 v13 =
 (bif decide (v13 < v12) then (idx v11 v13).bind fun x1' =>
 ((bif (decide (x1' < 0) == false) then some (decide (x1' ≥ v1))
 else some true)).bind fun b2' =>
 ((bif (b2' == false) then (bif bounds none (some v13) none l0.length then (S80 n (l0.take (Int.toNat v13)) x1').bind fun r3' =>
 some r3'
 else none)
 else some true)).bind fun b4' =>
 (bif b4' then some false
 else L45_1 n m1 l0 v1 v11 v12 (wr .i64 (v13 + 1)))
 else some true) := by kernel_rfl
noncomputable def S45 (n : Nat × Nat) (l0 : List Int) (v1 : Int) : Option R45 := run (E45 n) c45 an45 rt45 (fun _ _ => none) rt45 { tm := [.c (.sl (.int .i64) l0 false), .c (.int .i64 v1), uu, uu, uu, uu, uu, uu, uu, uu, uu, uu, uu, uu, uu, uu, uu, uu, uu, uu, uu, uu, uu, uu, uu, uu, uu, uu, uu, uu, uu, uu, uu], hp := emp }
theorem S45_eq (n : Nat × Nat) (l0 : List Int) (v1 : Int) : S45 n l0 v1 =
 (bif ((l0.length : Int) != v1) then some false
 else L45_1 n n.1 l0 v1 l0 (l0.length : Int) 0) := by kernel_rfl
theorem S45_run (n : Nat × Nat) (xs : pksDen pk45) : S45 n xs.1 xs.2.1 = runG (E45 n) noScope c45 an45 (rtG rk45) (fun _ _ => none) (rtG rk45) (st0 pk45 xs Try.f45.ntmps) := by kernel_rfl
noncomputable def P45 (n : Nat × Nat) := phiOf pk45 rk45 (fun xs => S45 n xs.1 xs.2.1)
theorem call45 : CallOK Try.prog 45 := callOK_of Try.func45 (by kernel_rfl) (by kernel_rfl)
theorem env45 (n : Nat × Nat) : EnvOK Try.prog (E45 n) := envOK0 (consPhi_ok (FC80 n) call80 noPhi_ok) rfl rfl
theorem par45 (n : Nat × Nat) : EnvPar (E45 n) := envPar0 (consPhi_par phiOf_Par1 noPhi_par) rfl
theorem FC45 (n : Nat × Nat) : FCs Try.prog 45 (P45 n) := phiOf_FCs fun xs r h vs hv => FC.of_runG tabOK eqsOK (env45 n) (par45 n) mixed (fun _ => noScope_ok) Try.func45 (c := c45) (an := an45) (pks := pk45) (rks := rk45) (by kernel_rfl) (by kernel_rfl) hv ((S45_run n xs).symm.trans h)
abbrev R81 := Int × Int
noncomputable def c81 : Code := bodyOf Try.f81
noncomputable def an81 : Ann := .l
def pk81 : List PK := [.c (.pair (.int .i64) (.int .i64))]
def rk81 : List RK := [.box (.pair (.int .i64) (.int .i64)) 2]
noncomputable def rt81 (st : St) : Option R81 := rtG rk81 st
noncomputable def E81 (n : Nat × Nat) : Env := { T := tab, phi := noPhi, eff := fun _ => false, fuel := n.1, hold := n.2 }
noncomputable def S81 (n : Nat × Nat) (s0 : Int × Int) : Option R81 := run (E81 n) c81 an81 rt81 (fun _ _ => none) rt81 { tm := [.agg [.int .i64 s0.1, .int .i64 s0.2], uu, uu, uu, uu, uu, uu, uu], hp := emp }
theorem S81_eq (n : Nat × Nat) (s0 : Int × Int) : S81 n s0 =
 some s0 := by kernel_rfl
theorem S81_run (n : Nat × Nat) (xs : pksDen pk81) : S81 n xs.1 = runG (E81 n) noScope c81 an81 (rtG rk81) (fun _ _ => none) (rtG rk81) (st0 pk81 xs Try.f81.ntmps) := by kernel_rfl
noncomputable def P81 (n : Nat × Nat) := phiOf pk81 rk81 (fun xs => S81 n xs.1)
theorem call81 : CallOK Try.prog 81 := callOK_of Try.func81 (by kernel_rfl) (by kernel_rfl)
theorem env81 (n : Nat × Nat) : EnvOK Try.prog (E81 n) := envOK0 noPhi_ok rfl rfl
theorem par81 (n : Nat × Nat) : EnvPar (E81 n) := envPar0 noPhi_par rfl
theorem FC81 (n : Nat × Nat) : FCs Try.prog 81 (P81 n) := phiOf_FCs fun xs r h vs hv => FC.of_runG tabOK eqsOK (env81 n) (par81 n) mixed (fun _ => noScope_ok) Try.func81 (c := c81) (an := an81) (pks := pk81) (rks := rk81) (by kernel_rfl) (by kernel_rfl) hv ((S81_run n xs).symm.trans h)
abbrev R47 := Int
noncomputable def c47 : Code := bodyOf Try.f47
noncomputable def an47 : Ann := (.s .l (.s .l (.s .l (.s .l (.s (.s .l (.j [9] (.j [1, 7, 8, 9, 23, 24, 25, 42, 43, 44, 45, 46] (.s .l (.s (.j [1, 7, 8, 9, 23, 24, 25, 42, 43, 44, 45, 46] .l .l) (.s (.j [1, 7, 8, 9, 23, 24, 25, 42, 43, 44, 45, 46] (.s .l (.s .l (.s .l (.s (.s .l (.j [1, 7, 8, 9, 13, 23, 24, 25, 42, 43, 44, 45, 46] .l .l)) .l)))) .l) .l))) .l) .l)) .l)))))
def pk47 : List PK := [.c (.sl (.pair (.int .i64) (.int .i64))), .c (.int .i64), .c (.int .i64)]
def rk47 : List RK := [.c (.int .i64) 6]
noncomputable def rt47 (st : St) : Option R47 := rtG rk47 st
noncomputable def E47 (n : Nat × Nat) : Env := { T := tab, phi := (consPhi 81 (fun _ => true) (P81 n) noPhi), eff := fun _ => false, fuel := n.1, hold := n.2, pcl := [14, 29] }
noncomputable def kq47_1 (n : Nat × Nat) : St → Option R47 := run (E47 n) (cB (cB (cB (cB (cB c47))))) (Ann.snd (Ann.snd (Ann.snd (Ann.snd (Ann.snd an47))))) rt47 (fun _ _ => none) rt47
noncomputable def xb47_3 (n : Nat × Nat) : Nat → St → Option R47 := fun j s => bif Nat.beq j 0 then normC [9] s (kq47_1 n) else (fun _ _ => none) j s
noncomputable def F47_4 (n : Nat × Nat) : (St → Option R47) → St → Option R47 := fun K s => run (E47 n) (cA (cA (cB (cA (cB (cB (cB (cB c47)))))))) (Ann.fst (Ann.fst (Ann.snd (Ann.fst (Ann.snd (Ann.snd (Ann.snd (Ann.snd an47)))))))) (fun s => normC [1, 7, 8, 9, 23, 24, 25, 42, 43, 44, 45, 46] s K) (xb47_3 n) rt47 s
noncomputable def L47_1 (n : Nat × Nat) (m : Nat) (machine1 : Int) (h8 : Int) (v9 : Int) (v23 : List (Int × Int)) (v24 : Int) (v25 : Int) : Option R47 := loopN (F47_4 n) m { tm := [uu, .c (.int .i64 machine1), uu, uu, uu, uu, uu, .fn 81 [], .c (.int .i64 h8), .c (.int .i64 v9), uu, uu, uu, uu, uu, uu, uu, uu, uu, uu, uu, uu, uu, .c (.sl (.pair (.int .i64) (.int .i64)) v23 false), .c (.int .i64 v24), .c (.int .i64 v25), uu, uu, uu, uu, uu, uu, uu, uu, uu, uu, uu, uu, uu, uu, uu, uu, uu, uu, uu, uu, uu, uu, uu, uu, uu, uu, uu, uu, uu, uu], hp := emp }
theorem L47_1_eq (n : Nat × Nat) (m1 : Nat) (machine1 : Int) (h8 : Int) (v9 : Int) (v23 : List (Int × Int)) (v24 : Int) (v25 : Int) : L47_1 n (m1 + 1) machine1 h8 v9 v23 v24 v25 =
 (bif decide (v25 < v24) then (idx v23 v25).bind fun x4' =>
 (S81 n x4').bind fun r5' =>
 (bif inB (wr .i64 (1 - machine1)) 2 then (idx [r5'.1, r5'.2] (wr .i64 (1 - machine1))).bind fun x6' =>
 (bif inB machine1 2 then (idx [r5'.1, r5'.2] machine1).bind fun x7' =>
 ((bif (decide (x7' < h8) == true) then (bif inB machine1 2 then (idx [r5'.1, r5'.2] machine1).bind fun x8' =>
 some (decide (x8' < x6'))
 else none)
 else some false)).bind fun b9' =>
 (bif b9' then (bif inB machine1 2 then (idx [r5'.1, r5'.2] machine1).bind fun x10' =>
              L47_1 n m1 machine1 h8 (wr .i64 (v9 + x10')) v23 v24 (wr .i64 (v25 + 1))
 else none)
 else L47_1 n m1 machine1 h8 (wr .i64 (v9 + x6')) v23 v24 (wr .i64 (v25 + 1)))
 else none)
 else none)
 else some v9) := by kernel_rfl
noncomputable def S47 (n : Nat × Nat) (l0 : List (Int × Int)) (machine1 : Int) (k2 : Int) : Option R47 := run (E47 n) c47 an47 rt47 (fun _ _ => none) rt47 { tm := [.c (.sl (.pair (.int .i64) (.int .i64)) l0 false), .c (.int .i64 machine1), .c (.int .i64 k2), uu, uu, uu, uu, uu, uu, uu, uu, uu, uu, uu, uu, uu, uu, uu, uu, uu, uu, uu, uu, uu, uu, uu, uu, uu, uu, uu, uu, uu, uu, uu, uu, uu, uu, uu, uu, uu, uu, uu, uu, uu, uu, uu, uu, uu, uu, uu, uu, uu, uu, uu, uu, uu], hp := emp }
theorem S47_eq (n : Nat × Nat) (l0 : List (Int × Int)) (machine1 : Int) (k2 : Int) : S47 n l0 machine1 k2 =
 (idx l0 k2).bind fun x1' =>
 (S81 n x1').bind fun r2' =>
 (idx [r2'.1, r2'.2] machine1).bind fun x3' =>
    L47_1 n n.1 machine1 x3' x3' l0 (l0.length : Int) 0 := by kernel_rfl
theorem S47_run (n : Nat × Nat) (xs : pksDen pk47) : S47 n xs.1 xs.2.1 xs.2.2.1 = runG (E47 n) noScope c47 an47 (rtG rk47) (fun _ _ => none) (rtG rk47) (st0 pk47 xs Try.f47.ntmps) := by kernel_rfl
noncomputable def P47 (n : Nat × Nat) := phiOf pk47 rk47 (fun xs => S47 n xs.1 xs.2.1 xs.2.2.1)
theorem call47 : CallOK Try.prog 47 := callOK_of Try.func47 (by kernel_rfl) (by kernel_rfl)
theorem env47 (n : Nat × Nat) : EnvOK Try.prog (E47 n) := envOK0 (consPhi_ok (FC81 n) call81 noPhi_ok) rfl rfl
theorem par47 (n : Nat × Nat) : EnvPar (E47 n) := envPar0 (consPhi_par phiOf_Par1 noPhi_par) rfl
theorem FC47 (n : Nat × Nat) : FCs Try.prog 47 (P47 n) := phiOf_FCs fun xs r h vs hv => FC.of_runG tabOK eqsOK (env47 n) (par47 n) mixed (fun _ => noScope_ok) Try.func47 (c := c47) (an := an47) (pks := pk47) (rks := rk47) (by kernel_rfl) (by kernel_rfl) hv ((S47_run n xs).symm.trans h)
abbrev R6 := Bool
noncomputable def c6 : Code := bodyOf Try.f6
noncomputable def an6 : Ann := (.s .l (.s .l (.s .l (.s .l (.s (.s .l (.j [3, 4, 5, 6, 7, 89, 94, 97, 98, 99, 100, 101, 102, 103, 104, 105, 106, 107, 108, 109, 110, 111, 112, 113, 114, 115, 116, 117, 118, 119, 120, 126, 127, 130, 131, 132, 133, 134, 135, 136, 137, 138, 139, 140, 141, 142, 143, 144, 145, 146, 147, 148, 149, 150, 151, 152, 153, 168, 169, 172, 173, 174, 175, 178, 179, 180, 200, 201, 202, 203, 204, 205, 208, 209, 210, 216, 217, 232, 233, 236, 237, 238, 241, 242, 243, 246, 247, 248, 249, 250, 251, 254] .l .l)) (.s (.s .l (.j [3, 4, 5, 6, 7, 168, 169, 172, 173, 174, 175, 178, 179, 180, 200, 201, 202, 203, 204, 205, 208, 209, 210, 216, 217, 232, 233, 236, 237, 238, 241, 242, 243, 246, 247, 248, 249, 250, 251, 254] (.j [3, 4, 5, 6, 7, 9, 89, 94, 97, 98, 99, 100, 101, 102, 103, 104, 105, 106, 107, 108, 109, 110, 111, 112, 113, 114, 115, 116, 117, 118, 119, 120, 126, 127, 130, 131, 132, 133, 134, 135, 136, 137, 138, 139, 140, 141, 142, 143, 144, 145, 146, 147, 148, 149, 150, 151, 152, 153, 168, 169, 172, 173, 174, 175, 178, 179, 180, 200, 201, 202, 203, 204, 205, 208, 209, 210, 216, 217, 232, 233, 236, 237, 238, 241, 242, 243, 246, 247, 248, 249, 250, 251, 254] (.s (.s .l (.j [3, 4, 5, 6, 7, 9, 89, 94, 97, 98, 99, 100, 101, 102, 103, 104, 105, 106, 107, 108, 109, 110, 111, 112, 113, 114, 115, 116, 117, 118, 119, 120, 126, 127, 130, 131, 132, 133, 134, 135, 136, 137, 138, 139, 140, 141, 142, 143, 144, 145, 146, 147, 148, 149, 150, 151, 152, 153, 168, 169, 172, 173, 174, 175, 178, 179, 180, 200, 201, 202, 203, 204, 205, 208, 209, 210, 216, 217, 232, 233, 236, 237, 238, 241, 242, 243, 246, 247, 248, 249, 250, 251, 254] .l .l)) (.s (.j [3, 4, 5, 6, 7, 9, 89, 94, 97, 98, 99, 100, 101, 102, 103, 104, 105, 106, 107, 108, 109, 110, 111, 112, 113, 114, 115, 116, 117, 118, 119, 120, 126, 127, 130, 131, 132, 133, 134, 135, 136, 137, 138, 139, 140, 141, 142, 143, 144, 145, 146, 147, 148, 149, 150, 151, 152, 153, 168, 169, 172, 173, 174, 175, 178, 179, 180, 200, 201, 202, 203, 204, 205, 208, 209, 210, 216, 217, 232, 233, 236, 237, 238, 241, 242, 243, 246, 247, 248, 249, 250, 251, 254] (.s .l (.s .l (.j [3, 4, 5, 6, 7, 9, 89, 94, 97, 98, 99, 100, 101, 102, 103, 104, 105, 106, 107, 108, 109, 110, 111, 112, 113, 114, 115, 116, 117, 118, 119, 120, 126, 127, 130, 131, 132, 133, 134, 135, 136, 137, 138, 139, 140, 141, 142, 143, 144, 145, 146, 147, 148, 149, 150, 151, 152, 153, 168, 169, 172, 173, 174, 175, 178, 179, 180, 200, 201, 202, 203, 204, 205, 208, 209, 210, 216, 217, 232, 233, 236, 237, 238, 241, 242, 243, 246, 247, 248, 249, 250, 251, 254] (.s .l (.j [3, 4, 5, 6, 7, 9, 89, 94, 97, 98, 99, 100, 101, 102, 103, 104, 105, 106, 107, 108, 109, 110, 111, 112, 113, 114, 115, 116, 117, 118, 119, 120, 126, 127, 130, 131, 132, 133, 134, 135, 136, 137, 138, 139, 140, 141, 142, 143, 144, 145, 146, 147, 148, 149, 150, 151, 152, 153, 168, 169, 172, 173, 174, 175, 178, 179, 180, 200, 201, 202, 203, 204, 205, 208, 209, 210, 216, 217, 232, 233, 236, 237, 238, 241, 242, 243, 246, 247, 248, 249, 250, 251, 254] .l (.s .l (.j [3, 4, 5, 6, 7, 9, 89, 94, 97, 98, 99, 100, 101, 102, 103, 104, 105, 106, 107, 108, 109, 110, 111, 112, 113, 114, 115, 116, 117, 118, 119, 120, 126, 127, 130, 131, 132, 133, 134, 135, 136, 137, 138, 139, 140, 141, 142, 143, 144, 145, 146, 147, 148, 149, 150, 151, 152, 153, 168, 169, 172, 173, 174, 175, 178, 179, 180, 200, 201, 202, 203, 204, 205, 208, 209, 210, 216, 217, 232, 233, 236, 237, 238, 241, 242, 243, 246, 247, 248, 249, 250, 251, 254] .l (.s .l (.j [3, 4, 5, 6, 7, 9, 89, 94, 97, 98, 99, 100, 101, 102, 103, 104, 105, 106, 107, 108, 109, 110, 111, 112, 113, 114, 115, 116, 117, 118, 119, 120, 126, 127, 130, 131, 132, 133, 134, 135, 136, 137, 138, 139, 140, 141, 142, 143, 144, 145, 146, 147, 148, 149, 150, 151, 152, 153, 168, 169, 172, 173, 174, 175, 178, 179, 180, 200, 201, 202, 203, 204, 205, 208, 209, 210, 216, 217, 232, 233, 236, 237, 238, 241, 242, 243, 246, 247, 248, 249, 250, 251, 254] .l .l)))))) .l))) .l) .l)) .l) .l)) (.s .l (.s .l (.s (.s .l (.j [3, 5, 7, 200, 201, 202, 203, 204, 205, 208, 209, 210, 216, 217, 232, 233, 236, 237, 238, 241, 242, 243, 246, 247, 248, 249, 250, 251, 254] .l .l)) (.s .l (.s (.s .l (.j [3, 7, 17, 18, 232, 233, 236, 237, 238, 241, 242, 243, 246, 247, 248, 249, 250, 251, 254] (.j [3, 5, 7, 17, 18, 182, 200, 201, 202, 203, 204, 205, 208, 209, 210, 216, 217, 232, 233, 236, 237, 238, 241, 242, 243, 246, 247, 248, 249, 250, 251, 254] (.s .l (.s (.j [3, 5, 7, 17, 18, 182, 200, 201, 202, 203, 204, 205, 208, 209, 210, 216, 217, 232, 233, 236, 237, 238, 241, 242, 243, 246, 247, 248, 249, 250, 251, 254] .l .l) (.s (.j [3, 5, 7, 17, 18, 182, 200, 201, 202, 203, 204, 205, 208, 209, 210, 216, 217, 232, 233, 236, 237, 238, 241, 242, 243, 246, 247, 248, 249, 250, 251, 254] (.s .l (.s .l (.j [3, 5, 7, 17, 18, 182, 200, 201, 202, 203, 204, 205, 208, 209, 210, 216, 217, 232, 233, 236, 237, 238, 241, 242, 243, 246, 247, 248, 249, 250, 251, 254] (.j [3, 5, 7, 17, 18, 19, 182, 186, 187, 200, 201, 202, 203, 204, 205, 208, 209, 210, 216, 217, 232, 233, 236, 237, 238, 241, 242, 243, 246, 247, 248, 249, 250, 251, 254] (.s .l (.s (.j [3, 5, 7, 17, 18, 19, 182, 186, 187, 200, 201, 202, 203, 204, 205, 208, 209, 210, 216, 217, 232, 233, 236, 237, 238, 241, 242, 243, 246, 247, 248, 249, 250, 251, 254] .l .l) (.j [] (.j [3, 5, 7, 17, 18, 19, 182, 186, 187, 200, 201, 202, 203, 204, 205, 208, 209, 210, 216, 217, 232, 233, 236, 237, 238, 241, 242, 243, 246, 247, 248, 249, 250, 251, 254] (.s .l (.s .l (.s (.s .l (.j [3, 5, 7, 17, 18, 19, 20, 21, 182, 186, 187, 200, 201, 202, 203, 204, 205, 208, 209, 210, 216, 217, 232, 233, 236, 237, 238, 241, 242, 243, 246, 247, 248, 249, 250, 251, 254] .l .l)) (.s .l (.j [3, 5, 7, 17, 18, 19, 182, 186, 187, 200, 201, 202, 203, 204, 205, 208, 209, 210, 216, 217, 232, 233, 236, 237, 238, 241, 242, 243, 246, 247, 248, 249, 250, 251, 254] .l .l))))) .l) .l))) .l) .l))) .l) .l))) .l) .l)) .l)))))))))))
def pk6 : List PK := [.c (.pair (.int .u8) (.pair (.int .u8) (.pair (.pair (.int .u8) (.int .u8)) (.pair (.pair (.int .u8) (.int .u8)) (.pair (.pair (.int .u8) (.int .u8)) (.pair (.pair (.int .u8) (.int .u8)) (.pair (.pair (.int .u8) (.int .u8)) (.pair (.pair (.int .u8) (.int .u8)) (.pair (.int .u8) (.int .u8))))))))))]
def rk6 : List RK := [.c .bool 2]
noncomputable def rt6 (st : St) : Option R6 := rtG rk6 st
noncomputable def E6 (n : Nat × Nat) : Env := { T := tab, phi := (consPhi 14 (fun _ => true) (P14 n) (consPhi 18 (fun _ => true) (P18 n) (consPhi 27 (fun _ => true) (P27 n) (consPhi 29 (fun _ => true) (P29 n) (consPhi 31 (fun _ => true) (P31 n) (consPhi 35 (fun _ => true) (P35 n) (consPhi 37 (fun _ => true) (P37 n) (consPhi 41 (fun _ => true) (P41 n) (consPhi 43 (fun _ => true) (P43 n) (consPhi 44 (fun _ => true) (P44 n) (consPhi 45 (fun _ => true) (P45 n) (consPhi 46 (fun _ => true) (P46 n) (consPhi 47 (fun _ => true) (P47 n) noPhi))))))))))))), eff := fun g => Nat.beq g 27 || Nat.beq g 29 || Nat.beq g 43 || Nat.beq g 44, fuel := n.1, hold := n.2 }
noncomputable def kq6_3 (n : Nat × Nat) : St → Option R6 := run (E6 n) (cB (cB (cB (cB (cB (cB c6)))))) (Ann.snd (Ann.snd (Ann.snd (Ann.snd (Ann.snd (Ann.snd an6)))))) rt6 (fun _ _ => none) rt6
noncomputable def xb6_5 (n : Nat × Nat) : Nat → St → Option R6 := fun j s => bif Nat.beq j 0 then normC [3, 4, 5, 6, 7, 168, 169, 172, 173, 174, 175, 178, 179, 180, 200, 201, 202, 203, 204, 205, 208, 209, 210, 216, 217, 232, 233, 236, 237, 238, 241, 242, 243, 246, 247, 248, 249, 250, 251, 254] s (kq6_3 n) else (fun _ _ => none) j s
noncomputable def F6_6 (n : Nat × Nat) : (St → Option R6) → St → Option R6 := fun K s => run (E6 n) (cA (cA (cB (cA (cB (cB (cB (cB (cB c6))))))))) (Ann.fst (Ann.fst (Ann.snd (Ann.fst (Ann.snd (Ann.snd (Ann.snd (Ann.snd (Ann.snd an6))))))))) (fun s => normC [3, 4, 5, 6, 7, 9, 89, 94, 97, 98, 99, 100, 101, 102, 103, 104, 105, 106, 107, 108, 109, 110, 111, 112, 113, 114, 115, 116, 117, 118, 119, 120, 126, 127, 130, 131, 132, 133, 134, 135, 136, 137, 138, 139, 140, 141, 142, 143, 144, 145, 146, 147, 148, 149, 150, 151, 152, 153, 168, 169, 172, 173, 174, 175, 178, 179, 180, 200, 201, 202, 203, 204, 205, 208, 209, 210, 216, 217, 232, 233, 236, 237, 238, 241, 242, 243, 246, 247, 248, 249, 250, 251, 254] s K) (xb6_5 n) rt6 s
noncomputable def kq6_19 (n : Nat × Nat) : St → Option R6 := run (E6 n) (cB (cB (cB (cB (cB (cB (cB (cB (cB (cB (cB c6))))))))))) (Ann.snd (Ann.snd (Ann.snd (Ann.snd (Ann.snd (Ann.snd (Ann.snd (Ann.snd (Ann.snd (Ann.snd (Ann.snd an6))))))))))) rt6 (fun _ _ => none) rt6
noncomputable def xb6_21 (n : Nat × Nat) : Nat → St → Option R6 := fun j s => bif Nat.beq j 3 then normC [3, 7, 17, 18, 232, 233, 236, 237, 238, 241, 242, 243, 246, 247, 248, 249, 250, 251, 254] s (kq6_19 n) else (fun _ _ => none) j s
noncomputable def F6_22 (n : Nat × Nat) : (St → Option R6) → St → Option R6 := fun K s => run (E6 n) (cA (cA (cB (cA (cB (cB (cB (cB (cB (cB (cB (cB (cB (cB c6)))))))))))))) (Ann.fst (Ann.fst (Ann.snd (Ann.fst (Ann.snd (Ann.snd (Ann.snd (Ann.snd (Ann.snd (Ann.snd (Ann.snd (Ann.snd (Ann.snd (Ann.snd an6)))))))))))))) (fun s => normC [3, 5, 7, 17, 18, 182, 200, 201, 202, 203, 204, 205, 208, 209, 210, 216, 217, 232, 233, 236, 237, 238, 241, 242, 243, 246, 247, 248, 249, 250, 251, 254] s K) (xb6_21 n) rt6 s
noncomputable def kq6_25 (n : Nat × Nat) (m1 : Nat) : St → Option R6 := run (E6 n) (cB (cB (cB (cA (cA (cB (cA (cB (cB (cB (cB (cB (cB (cB (cB (cB (cB c6))))))))))))))))) (Ann.snd (Ann.snd (Ann.snd (Ann.fst (Ann.fst (Ann.snd (Ann.fst (Ann.snd (Ann.snd (Ann.snd (Ann.snd (Ann.snd (Ann.snd (Ann.snd (Ann.snd (Ann.snd (Ann.snd an6))))))))))))))))) (fun s => normC [3, 5, 7, 17, 18, 182, 200, 201, 202, 203, 204, 205, 208, 209, 210, 216, 217, 232, 233, 236, 237, 238, 241, 242, 243, 246, 247, 248, 249, 250, 251, 254] s (loopN (F6_22 n) m1)) (xb6_21 n) rt6
noncomputable def kc6_26 (n : Nat × Nat) (m1 : Nat) : St → Option R6 := fun s => normC [3, 5, 7, 17, 18, 182, 200, 201, 202, 203, 204, 205, 208, 209, 210, 216, 217, 232, 233, 236, 237, 238, 241, 242, 243, 246, 247, 248, 249, 250, 251, 254] s (kq6_25 n m1)
noncomputable def xb6_27 (n : Nat × Nat) (m1 : Nat) : Nat → St → Option R6 := fun j s => bif Nat.beq j 4 then normC [3, 5, 7, 17, 18, 182, 200, 201, 202, 203, 204, 205, 208, 209, 210, 216, 217, 232, 233, 236, 237, 238, 241, 242, 243, 246, 247, 248, 249, 250, 251, 254] s (kq6_25 n m1) else (xb6_21 n) j s
noncomputable def xb6_29 (n : Nat × Nat) (m1 : Nat) : Nat → St → Option R6 := fun j s => bif Nat.beq j 5 then normC [3, 5, 7, 17, 18, 182, 200, 201, 202, 203, 204, 205, 208, 209, 210, 216, 217, 232, 233, 236, 237, 238, 241, 242, 243, 246, 247, 248, 249, 250, 251, 254] s (kc6_26 n m1) else (xb6_27 n m1) j s
noncomputable def F6_30 (n : Nat × Nat) (m1 : Nat) : (St → Option R6) → St → Option R6 := fun K s => run (E6 n) (cA (cA (cB (cB (cA (cA (cB (cB (cA (cA (cB (cA (cB (cB (cB (cB (cB (cB (cB (cB (cB (cB c6)))))))))))))))))))))) (Ann.fst (Ann.fst (Ann.snd (Ann.snd (Ann.fst (Ann.fst (Ann.snd (Ann.snd (Ann.fst (Ann.fst (Ann.snd (Ann.fst (Ann.snd (Ann.snd (Ann.snd (Ann.snd (Ann.snd (Ann.snd (Ann.snd (Ann.snd (Ann.snd (Ann.snd an6)))))))))))))))))))))) (fun s => normC [3, 5, 7, 17, 18, 19, 182, 186, 187, 200, 201, 202, 203, 204, 205, 208, 209, 210, 216, 217, 232, 233, 236, 237, 238, 241, 242, 243, 246, 247, 248, 249, 250, 251, 254] s K) (xb6_29 n m1) rt6 s
noncomputable def kq6_33 (n : Nat × Nat) (m1 m2 : Nat) : St → Option R6 := run (E6 n) (cB (cB (cB (cA (cA (cB (cB (cA (cA (cB (cB (cA (cA (cB (cA (cB (cB (cB (cB (cB (cB (cB (cB (cB (cB c6))))))))))))))))))))))))) (Ann.snd (Ann.snd (Ann.snd (Ann.fst (Ann.fst (Ann.snd (Ann.snd (Ann.fst (Ann.fst (Ann.snd (Ann.snd (Ann.fst (Ann.fst (Ann.snd (Ann.fst (Ann.snd (Ann.snd (Ann.snd (Ann.snd (Ann.snd (Ann.snd (Ann.snd (Ann.snd (Ann.snd (Ann.snd an6))))))))))))))))))))))))) (fun s => normC [3, 5, 7, 17, 18, 19, 182, 186, 187, 200, 201, 202, 203, 204, 205, 208, 209, 210, 216, 217, 232, 233, 236, 237, 238, 241, 242, 243, 246, 247, 248, 249, 250, 251, 254] s (loopN (F6_30 n m1) m2)) (xb6_29 n m1) rt6
noncomputable def L6_1 (n : Nat × Nat) (m : Nat) (l3 : List (Int × Int)) (first4 : List Int) (least5 : Int) (many6 : Int) (r7 : List Int) (p9 : Int) : Option R6 := loopN (F6_6 n) m { tm := [uu, uu, uu, .c (.sl (.pair (.int .i64) (.int .i64)) l3 false), .c (.sl (.int .i64) first4 false), .c (.int .i64 least5), .c (.int .i64 many6), .c (.sl (.int .i64) r7 false), uu, .c (.int .i64 p9), uu, uu, uu, uu, uu, uu, uu, uu, uu, uu, uu, uu, uu, uu, uu, uu, uu, uu, uu, uu, uu, uu, uu, uu, uu, uu, uu, uu, uu, uu, uu, uu, uu, uu, uu, uu, uu, uu, uu, uu, uu, uu, uu, uu, uu, uu, uu, uu, uu, uu, uu, uu, uu, uu, uu, uu, uu, uu, uu, uu, uu, uu, uu, uu, uu, uu, uu, uu, uu, uu, uu, uu, uu, uu, uu, uu, uu, uu, uu, uu, uu, uu, uu, uu, uu, uu, uu, uu, uu, uu, uu, uu, uu, uu, uu, uu, uu, uu, uu, uu, uu, uu, uu, uu, uu, uu, uu, uu, uu, uu, uu, uu, uu, uu, uu, uu, uu, uu, uu, uu, uu, uu, uu, uu, uu, uu, uu, uu, uu, uu, uu, uu, uu, uu, uu, uu, uu, uu, uu, uu, uu, uu, uu, uu, uu, uu, uu, uu, uu, uu, uu, uu, uu, uu, uu, uu, uu, uu, uu, uu, uu, uu, uu, uu, uu, uu, uu, uu, uu, uu, uu, uu, uu, uu, uu, uu, uu, uu, uu, uu, uu, uu, uu, uu, uu, uu, uu, uu, uu, uu, uu, uu, uu, uu, uu, uu, uu, uu, uu, uu, uu, uu, uu, uu, uu, uu, uu, uu, uu, uu, uu, uu, uu, uu, uu, uu, uu, uu, uu, uu, uu, uu, uu, uu, uu, uu, uu, uu, uu, uu, uu, uu, uu, uu, uu, uu, uu, uu, uu, uu, uu, uu, uu, uu, uu, uu], hp := emp }
noncomputable def L6_2 (n : Nat × Nat) (m : Nat) (l3 : List (Int × Int)) (least5 : Int) (r7 : List Int) (machine17 : Int) (sheet18 : Int) (v182 : Int) : Option R6 := loopN (F6_22 n) m { tm := [uu, uu, uu, .c (.sl (.pair (.int .i64) (.int .i64)) l3 false), uu, .c (.int .i64 least5), uu, .c (.sl (.int .i64) r7 false), uu, uu, uu, uu, uu, uu, uu, uu, uu, .c (.int .i64 machine17), .c (.int .i64 sheet18), uu, uu, uu, uu, uu, uu, uu, uu, uu, uu, uu, uu, uu, uu, uu, uu, uu, uu, uu, uu, uu, uu, uu, uu, uu, uu, uu, uu, uu, uu, uu, uu, uu, uu, uu, uu, uu, uu, uu, uu, uu, uu, uu, uu, uu, uu, uu, uu, uu, uu, uu, uu, uu, uu, uu, uu, uu, uu, uu, uu, uu, uu, uu, uu, uu, uu, uu, uu, uu, uu, uu, uu, uu, uu, uu, uu, uu, uu, uu, uu, uu, uu, uu, uu, uu, uu, uu, uu, uu, uu, uu, uu, uu, uu, uu, uu, uu, uu, uu, uu, uu, uu, uu, uu, uu, uu, uu, uu, uu, uu, uu, uu, uu, uu, uu, uu, uu, uu, uu, uu, uu, uu, uu, uu, uu, uu, uu, uu, uu, uu, uu, uu, uu, uu, uu, uu, uu, uu, uu, uu, uu, uu, uu, uu, uu, uu, uu, uu, uu, uu, uu, uu, uu, uu, uu, uu, uu, uu, uu, uu, uu, uu, uu, .c (.int .i64 v182), uu, uu, uu, uu, uu, uu, uu, uu, uu, uu, uu, uu, uu, uu, uu, uu, uu, uu, uu, uu, uu, uu, uu, uu, uu, uu, uu, uu, uu, uu, uu, uu, uu, uu, uu, uu, uu, uu, uu, uu, uu, uu, uu, uu, uu, uu, uu, uu, uu, uu, uu, uu, uu, uu, uu, uu, uu, uu, uu, uu, uu, uu, uu, uu, uu, uu, uu, uu, uu, uu, uu, uu, uu], hp := emp }
noncomputable def L6_3 (n : Nat × Nat) (m1 : Nat) (m : Nat) (l3 : List (Int × Int)) (least5 : Int) (r7 : List Int) (machine17 : Int) (sheet18 : Int) (m19 : Int) (v182 : Int) (v186 : Int) (v187 : Int) : Option R6 := loopN (F6_30 n m1) m { tm := [uu, uu, uu, .c (.sl (.pair (.int .i64) (.int .i64)) l3 false), uu, .c (.int .i64 least5), uu, .c (.sl (.int .i64) r7 false), uu, uu, uu, uu, uu, uu, uu, uu, uu, .c (.int .i64 machine17), .c (.int .i64 sheet18), .c (.int .i64 m19), uu, uu, uu, uu, uu, uu, uu, uu, uu, uu, uu, uu, uu, uu, uu, uu, uu, uu, uu, uu, uu, uu, uu, uu, uu, uu, uu, uu, uu, uu, uu, uu, uu, uu, uu, uu, uu, uu, uu, uu, uu, uu, uu, uu, uu, uu, uu, uu, uu, uu, uu, uu, uu, uu, uu, uu, uu, uu, uu, uu, uu, uu, uu, uu, uu, uu, uu, uu, uu, uu, uu, uu, uu, uu, uu, uu, uu, uu, uu, uu, uu, uu, uu, uu, uu, uu, uu, uu, uu, uu, uu, uu, uu, uu, uu, uu, uu, uu, uu, uu, uu, uu, uu, uu, uu, uu, uu, uu, uu, uu, uu, uu, uu, uu, uu, uu, uu, uu, uu, uu, uu, uu, uu, uu, uu, uu, uu, uu, uu, uu, uu, uu, uu, uu, uu, uu, uu, uu, uu, uu, uu, uu, uu, uu, uu, uu, uu, uu, uu, uu, uu, uu, uu, uu, uu, uu, uu, uu, uu, uu, uu, uu, .c (.int .i64 v182), uu, uu, uu, .c (.int .i64 v186), .c (.int .i64 v187), uu, uu, uu, uu, uu, uu, uu, uu, uu, uu, uu, uu, uu, uu, uu, uu, uu, uu, uu, uu, uu, uu, uu, uu, uu, uu, uu, uu, uu, uu, uu, uu, uu, uu, uu, uu, uu, uu, uu, uu, uu, uu, uu, uu, uu, uu, uu, uu, uu, uu, uu, uu, uu, uu, uu, uu, uu, uu, uu, uu, uu, uu, uu, uu, uu, uu, uu, uu], hp := emp }
noncomputable def L6_4 (n : Nat × Nat) (m1 m2 : Nat) (l3 : List (Int × Int)) (least5 : Int) (r7 : List Int) (machine17 : Int) (sheet18 : Int) (m19 : Int) (v182 : Int) (v186 : Int) (v187 : Int) : Option R6 := loopN (fun _ => (kq6_33 n m1 m2)) n.2 { tm := [uu, uu, uu, .c (.sl (.pair (.int .i64) (.int .i64)) l3 false), uu, .c (.int .i64 least5), uu, .c (.sl (.int .i64) r7 false), uu, uu, uu, uu, uu, uu, uu, uu, uu, .c (.int .i64 machine17), .c (.int .i64 sheet18), .c (.int .i64 m19), uu, uu, uu, uu, uu, uu, uu, uu, uu, uu, uu, uu, uu, uu, uu, uu, uu, uu, uu, uu, uu, uu, uu, uu, uu, uu, uu, uu, uu, uu, uu, uu, uu, uu, uu, uu, uu, uu, uu, uu, uu, uu, uu, uu, uu, uu, uu, uu, uu, uu, uu, uu, uu, uu, uu, uu, uu, uu, uu, uu, uu, uu, uu, uu, uu, uu, uu, uu, uu, uu, uu, uu, uu, uu, uu, uu, uu, uu, uu, uu, uu, uu, uu, uu, uu, uu, uu, uu, uu, uu, uu, uu, uu, uu, uu, uu, uu, uu, uu, uu, uu, uu, uu, uu, uu, uu, uu, uu, uu, uu, uu, uu, uu, uu, uu, uu, uu, uu, uu, uu, uu, uu, uu, uu, uu, uu, uu, uu, uu, uu, uu, uu, uu, uu, uu, uu, uu, uu, uu, uu, uu, uu, uu, uu, uu, uu, uu, uu, uu, uu, uu, uu, uu, uu, uu, uu, uu, uu, uu, uu, uu, uu, .c (.int .i64 v182), uu, uu, uu, .c (.int .i64 v186), .c (.int .i64 v187), uu, uu, uu, uu, uu, uu, uu, uu, uu, uu, uu, uu, uu, uu, uu, uu, uu, uu, uu, uu, uu, uu, uu, uu, uu, uu, uu, uu, uu, uu, uu, uu, uu, uu, uu, uu, uu, uu, uu, uu, uu, uu, uu, uu, uu, uu, uu, uu, uu, uu, uu, uu, uu, uu, uu, uu, uu, uu, uu, uu, uu, uu, uu, uu, uu, uu, uu, uu], hp := emp }
theorem L6_1_eq (n : Nat × Nat) (m1 : Nat) (l3 : List (Int × Int)) (first4 : List Int) (least5 : Int) (many6 : Int) (r7 : List Int) (p9 : Int) : L6_1 n (m1 + 1) l3 first4 least5 many6 r7 p9 =
 (bif decide (p9 < (r7.length : Int)) then (idx r7 (wr .i64 (p9 - 1))).bind fun x8' =>
 (idx l3 x8').bind fun x9' =>
 (idx r7 p9).bind fun x10' =>
 (idx l3 x10').bind fun x11' =>
 ((bif ((!(decide (x9'.1 < x9'.2))) == true) then some (decide (x11'.1 < x11'.2))
 else some false)).bind fun b12' =>
 (bif b12' then some false
 else ((bif (decide (x9'.1 < x9'.2) == true) then some (decide (x11'.1 < x11'.2))
 else some false)).bind fun b13' =>
 ((bif (b13' == true) then ((bif (decide (x9'.1 > x11'.1) == false) then ((bif ((x9'.1 == x11'.1) == true) then (idx r7 (wr .i64 (p9 - 1))).bind fun x14' =>
 (idx r7 p9).bind fun x15' =>
 some (decide (x14' > x15'))
 else some false)).bind fun b16' =>
 some b16'
 else some true)).bind fun b17' =>
 some b17'
 else some false)).bind fun b18' =>
 (bif b18' then some false
 else ((bif ((!(decide (x9'.1 < x9'.2))) == true) then some (!(decide (x11'.1 < x11'.2)))
 else some false)).bind fun b19' =>
 ((bif (b19' == true) then ((bif (decide (x9'.2 < x11'.2) == false) then ((bif ((x9'.2 == x11'.2) == true) then (idx r7 (wr .i64 (p9 - 1))).bind fun x20' =>
 (idx r7 p9).bind fun x21' =>
 some (decide (x20' > x21'))
 else some false)).bind fun b22' =>
 some b22'
 else some true)).bind fun b23' =>
 some b23'
 else some false)).bind fun b24' =>
 (bif b24' then some false
 else L6_1 n m1 l3 first4 least5 many6 r7 (wr .i64 (p9 + 1)))))
 else (S29 n l3).bind fun r25' =>
 (S31 n l3).bind fun r26' =>
 ((bif ((r25'.2 != 0) == false) then some (r26'.2 != 0)
 else some true)).bind fun b27' =>
 ((bif (b27' == false) then (S18 n r25'.1 first4).bind fun r28' =>
 some (!r28')
 else some true)).bind fun b29' =>
 ((bif (b29' == false) then some (r26'.1 != many6)
 else some true)).bind fun b30' =>
 (bif b30' then some false
 else L6_2 n n.1 l3 least5 r7 (-1) (-1) 0)) := by kernel_rfl
theorem L6_2_eq (n : Nat × Nat) (m1 : Nat) (l3 : List (Int × Int)) (least5 : Int) (r7 : List Int) (machine17 : Int) (sheet18 : Int) (v182 : Int) : L6_2 n (m1 + 1) l3 least5 r7 machine17 sheet18 v182 =
 (bif decide (v182 < 2) then L6_3 n m1 n.1 l3 least5 r7 machine17 sheet18 v182 v182 (l3.length : Int) 0
 else (S37 n l3).bind fun r31' =>
 ((bif (decide (machine17 ≥ 0) == true) then some (r31'.2.2 == 0)
 else some false)).bind fun b32' =>
 ((bif (b32' == true) then some (r31'.1 == machine17)
 else some false)).bind fun b33' =>
 ((bif (b33' == true) then some (r31'.2.1 == sheet18)
 else some false)).bind fun b34' =>
 ((bif (b34' == true) then (S41 n l3 r7 r31'.1 r31'.2.1).bind fun r35' =>
 some (r35' == 0)
 else some false)).bind fun b36' =>
 ((bif (b36' == true) then (S14 n).bind fun r37' =>
 some r37'
 else some false)).bind fun b38' =>
 some b38') := by kernel_rfl
theorem L6_3_eq (n : Nat × Nat) (m1 m2 : Nat) (l3 : List (Int × Int)) (least5 : Int) (r7 : List Int) (machine17 : Int) (sheet18 : Int) (m19 : Int) (v182 : Int) (v186 : Int) (v187 : Int) : L6_3 n m1 (m2 + 1) l3 least5 r7 machine17 sheet18 m19 v182 v186 v187 =
 (bif decide (v187 < v186) then (S35 n l3 m19 v187).bind fun r39' =>
 ((bif ((r39'.2 != 0) == false) then (S47 n l3 m19 v187).bind fun r40' =>
 some (r39'.1 != r40')
 else some true)).bind fun b41' =>
 ((bif (b41' == false) then some (decide (r39'.1 > least5))
 else some true)).bind fun b42' =>
 (bif b42' then some false
 else ((bif ((r39'.1 == least5) == true) then some (decide (machine17 < 0))
 else some false)).bind fun b43' =>
 (bif b43' then L6_4 n m1 m2 l3 least5 r7 m19 v187 m19 v182 v186 v187
 else L6_4 n m1 m2 l3 least5 r7 machine17 sheet18 m19 v182 v186 v187))
 else L6_2 n m1 l3 least5 r7 machine17 sheet18 (wr .i64 (v182 + 1))) := by kernel_rfl
theorem L6_4_raw (n : Nat × Nat) (m1 m2 : Nat) (l3 : List (Int × Int)) (least5 : Int) (r7 : List Int) (machine17 : Int) (sheet18 : Int) (m19 : Int) (v182 : Int) (v186 : Int) (v187 : Int) : (kq6_33 n m1 m2) { tm := [uu, uu, uu, .c (.sl (.pair (.int .i64) (.int .i64)) l3 false), uu, .c (.int .i64 least5), uu, .c (.sl (.int .i64) r7 false), uu, uu, uu, uu, uu, uu, uu, uu, uu, .c (.int .i64 machine17), .c (.int .i64 sheet18), .c (.int .i64 m19), uu, uu, uu, uu, uu, uu, uu, uu, uu, uu, uu, uu, uu, uu, uu, uu, uu, uu, uu, uu, uu, uu, uu, uu, uu, uu, uu, uu, uu, uu, uu, uu, uu, uu, uu, uu, uu, uu, uu, uu, uu, uu, uu, uu, uu, uu, uu, uu, uu, uu, uu, uu, uu, uu, uu, uu, uu, uu, uu, uu, uu, uu, uu, uu, uu, uu, uu, uu, uu, uu, uu, uu, uu, uu, uu, uu, uu, uu, uu, uu, uu, uu, uu, uu, uu, uu, uu, uu, uu, uu, uu, uu, uu, uu, uu, uu, uu, uu, uu, uu, uu, uu, uu, uu, uu, uu, uu, uu, uu, uu, uu, uu, uu, uu, uu, uu, uu, uu, uu, uu, uu, uu, uu, uu, uu, uu, uu, uu, uu, uu, uu, uu, uu, uu, uu, uu, uu, uu, uu, uu, uu, uu, uu, uu, uu, uu, uu, uu, uu, uu, uu, uu, uu, uu, uu, uu, uu, uu, uu, uu, uu, uu, .c (.int .i64 v182), uu, uu, uu, .c (.int .i64 v186), .c (.int .i64 v187), uu, uu, uu, uu, uu, uu, uu, uu, uu, uu, uu, uu, uu, uu, uu, uu, uu, uu, uu, uu, uu, uu, uu, uu, uu, uu, uu, uu, uu, uu, uu, uu, uu, uu, uu, uu, uu, uu, uu, uu, uu, uu, uu, uu, uu, uu, uu, uu, uu, uu, uu, uu, uu, uu, uu, uu, uu, uu, uu, uu, uu, uu, uu, uu, uu, uu, uu, uu], hp := emp } =
    L6_3 n m1 m2 l3 least5 r7 machine17 sheet18 m19 v182 v186 (wr .i64 (v187 + 1)) := by kernel_rfl
noncomputable def S6 (n : Nat × Nat) (f0 : Int × Int × (Int × Int) × (Int × Int) × (Int × Int) × (Int × Int) × (Int × Int) × (Int × Int) × Int × Int) : Option R6 := run (E6 n) c6 an6 rt6 (fun _ _ => none) rt6 { tm := [.agg [.int .u8 f0.1, .int .u8 f0.2.1, .int .u8 f0.2.2.1.1, .int .u8 f0.2.2.1.2, .int .u8 f0.2.2.2.1.1, .int .u8 f0.2.2.2.1.2, .int .u8 f0.2.2.2.2.1.1, .int .u8 f0.2.2.2.2.1.2, .int .u8 f0.2.2.2.2.2.1.1, .int .u8 f0.2.2.2.2.2.1.2, .int .u8 f0.2.2.2.2.2.2.1.1, .int .u8 f0.2.2.2.2.2.2.1.2, .int .u8 f0.2.2.2.2.2.2.2.1.1, .int .u8 f0.2.2.2.2.2.2.2.1.2, .int .u8 f0.2.2.2.2.2.2.2.2.1, .int .u8 f0.2.2.2.2.2.2.2.2.2], uu, uu, uu, uu, uu, uu, uu, uu, uu, uu, uu, uu, uu, uu, uu, uu, uu, uu, uu, uu, uu, uu, uu, uu, uu, uu, uu, uu, uu, uu, uu, uu, uu, uu, uu, uu, uu, uu, uu, uu, uu, uu, uu, uu, uu, uu, uu, uu, uu, uu, uu, uu, uu, uu, uu, uu, uu, uu, uu, uu, uu, uu, uu, uu, uu, uu, uu, uu, uu, uu, uu, uu, uu, uu, uu, uu, uu, uu, uu, uu, uu, uu, uu, uu, uu, uu, uu, uu, uu, uu, uu, uu, uu, uu, uu, uu, uu, uu, uu, uu, uu, uu, uu, uu, uu, uu, uu, uu, uu, uu, uu, uu, uu, uu, uu, uu, uu, uu, uu, uu, uu, uu, uu, uu, uu, uu, uu, uu, uu, uu, uu, uu, uu, uu, uu, uu, uu, uu, uu, uu, uu, uu, uu, uu, uu, uu, uu, uu, uu, uu, uu, uu, uu, uu, uu, uu, uu, uu, uu, uu, uu, uu, uu, uu, uu, uu, uu, uu, uu, uu, uu, uu, uu, uu, uu, uu, uu, uu, uu, uu, uu, uu, uu, uu, uu, uu, uu, uu, uu, uu, uu, uu, uu, uu, uu, uu, uu, uu, uu, uu, uu, uu, uu, uu, uu, uu, uu, uu, uu, uu, uu, uu, uu, uu, uu, uu, uu, uu, uu, uu, uu, uu, uu, uu, uu, uu, uu, uu, uu, uu, uu, uu, uu, uu, uu, uu, uu, uu, uu, uu, uu, uu, uu, uu, uu, uu, uu, uu, uu, uu, uu, uu, uu, uu, uu], hp := emp }
theorem S6_eq (n : Nat × Nat) (f0 : Int × Int × (Int × Int) × (Int × Int) × (Int × Int) × (Int × Int) × (Int × Int) × (Int × Int) × Int × Int) : S6 n f0 =
 (S43 n f0 6).bind fun r1' =>
 (S44 n r1').bind fun r2' =>
 (S27 n r1').bind fun r3' =>
 ((bif ((r3'.2 != 0) == false) then (S45 n r3'.1 (r1'.length : Int)).bind fun r4' =>
 some (!r4')
 else some true)).bind fun b5' =>
 ((bif (b5' == false) then (S46 n r1' r3'.1).bind fun r6' =>
 some (r6' != r2'.2.1)
 else some true)).bind fun b7' =>
 (bif b7' then some false
 else L6_1 n n.1 r1' r2'.1 r2'.2.1 r2'.2.2 r3'.1 1) := by kernel_rfl
theorem S6_run (n : Nat × Nat) (xs : pksDen pk6) : S6 n xs.1 = runG (E6 n) noScope c6 an6 (rtG rk6) (fun _ _ => none) (rtG rk6) (st0 pk6 xs Try.f6.ntmps) := by kernel_rfl
noncomputable def P6 (n : Nat × Nat) := phiOf pk6 rk6 (fun xs => S6 n xs.1)
theorem env6 (n : Nat × Nat) : EnvOK Try.prog (E6 n) := envOK0 (consPhi_ok (FC14 n) call14 (consPhi_ok (FC18 n) call18 (consPhi_ok (FC27 n) call27 (consPhi_ok (FC29 n) call29 (consPhi_ok (FC31 n) call31 (consPhi_ok (FC35 n) call35 (consPhi_ok (FC37 n) call37 (consPhi_ok (FC41 n) call41 (consPhi_ok (FC43 n) call43 (consPhi_ok (FC44 n) call44 (consPhi_ok (FC45 n) call45 (consPhi_ok (FC46 n) call46 (consPhi_ok (FC47 n) call47 noPhi_ok))))))))))))) rfl rfl
theorem par6 (n : Nat × Nat) : EnvPar (E6 n) := envPar0 (consPhi_par phiOf_Par1 (consPhi_par phiOf_Par1 (consPhi_par phiOf_Par1 (consPhi_par phiOf_Par1 (consPhi_par phiOf_Par1 (consPhi_par phiOf_Par1 (consPhi_par phiOf_Par1 (consPhi_par phiOf_Par1 (consPhi_par phiOf_Par1 (consPhi_par phiOf_Par1 (consPhi_par phiOf_Par1 (consPhi_par phiOf_Par1 (consPhi_par phiOf_Par1 noPhi_par))))))))))))) rfl
theorem FC6 (n : Nat × Nat) : FCs Try.prog 6 (P6 n) := phiOf_FCs fun xs r h vs hv => FC.of_runG tabOK eqsOK (env6 n) (par6 n) mixed (fun _ => noScope_ok) Try.func6 (c := c6) (an := an6) (pks := pk6) (rks := rk6) (by kernel_rfl) (by kernel_rfl) hv ((S6_run n xs).symm.trans h)
/-D 43 -/
noncomputable def DF43_1 (n : Nat × Nat) (f1 : Int → (List (Int × Int)) → Int → Int → (List (Int × Int)) → Option R43) (top6 : Int) (v21 : List (Int × Int)) (v22 : Int) (v23 : Int) (out5 : List (Int × Int)) : Option R43 :=
 (bif decide (v23 < v22) then (idx v21 v23).bind fun x1' =>
 (bif inB 0 2 then (idx [x1'.1, x1'.2] 0).bind fun x2' =>
 (bif (wr .i64 (top6 + 1)) == 0 then none
 else (bif inB 1 2 then (idx [x1'.1, x1'.2] 1).bind fun x3' =>
 (bif (wr .i64 (top6 + 1)) == 0 then none
 else (bif decide (out5.length + [(Int.tmod (wr .i64 x2') (wr .i64 (top6 + 1)), Int.tmod (wr .i64 x3') (wr .i64 (top6 + 1)))].length ≤ lim) then f1 top6 v21 v22 (wr .i64 (v23 + 1)) (out5 ++ [(Int.tmod (wr .i64 x2') (wr .i64 (top6 + 1)), Int.tmod (wr .i64 x3') (wr .i64 (top6 + 1)))])
 else none))
 else none))
 else none)
 else some out5)
noncomputable def DL43_1 (n : Nat × Nat) (m : Nat) : Int → (List (Int × Int)) → Int → Int → (List (Int × Int)) → Option R43 := Nat.rec (motive := fun _ => Int → (List (Int × Int)) → Int → Int → (List (Int × Int)) → Option R43) (fun _ _ _ _ _ => none) (fun _ ih => DF43_1 n ih) m
theorem DL43_1_succ (n : Nat × Nat) (m : Nat) : DL43_1 n (m + 1) = DF43_1 n (DL43_1 n m) := rfl
theorem DL43_1_eq (n : Nat × Nat) (hn : n.2 = 1) : ∀ m, L43_1 n m = DL43_1 n m
  | 0 => by funext top6 v21 v22 v23 out5; kernel_rfl
  | m + 1 => by
    have ih := DL43_1_eq n hn m
    funext top6 v21 v22 v23 out5; refine (L43_1_eq n m top6 v21 v22 v23 out5).trans ?_
    rw [DL43_1_succ]
    unfold DF43_1
    (try simp only [ih]) <;> first | with_reducible rfl | rfl
noncomputable def D43 (n : Nat × Nat) (f0 : Int × Int × (Int × Int) × (Int × Int) × (Int × Int) × (Int × Int) × (Int × Int) × (Int × Int) × Int × Int) (most1 : Int) : Option R43 :=
 (bif 50 == 0 then none
 else (bif most1 == 0 then none
 else (bif bounds none (some (wr .i64 (1 + (Int.tmod (wr .i64 f0.1) most1)))) none 7 then DL43_1 n n.1 (wr .i64 ((Int.tmod (wr .i64 f0.2.1) 50) + 1)) ([f0.2.2.1, f0.2.2.2.1, f0.2.2.2.2.1, f0.2.2.2.2.2.1, f0.2.2.2.2.2.2.1, f0.2.2.2.2.2.2.2.1, f0.2.2.2.2.2.2.2.2].take (Int.toNat (wr .i64 (1 + (Int.tmod (wr .i64 f0.1) most1))))) (([f0.2.2.1, f0.2.2.2.1, f0.2.2.2.2.1, f0.2.2.2.2.2.1, f0.2.2.2.2.2.2.1, f0.2.2.2.2.2.2.2.1, f0.2.2.2.2.2.2.2.2].take (Int.toNat (wr .i64 (1 + (Int.tmod (wr .i64 f0.1) most1))))).length : Int) 0 []
 else none)))
theorem S43_D (n : Nat × Nat) (hn : n.2 = 1) : S43 n = D43 n := by
  funext f0 most1; refine (S43_eq n f0 most1).trans ?_
  unfold D43
  (try simp only [DL43_1_eq n hn]) <;> first | with_reducible rfl | rfl
/-D 49 -/
noncomputable def DF49_4 (n : Nat × Nat) (f1 : (List (Int × Int)) → List Int → Int → Int → List Int → Option R49) (f2 : (List (Int × Int)) → List Int → Int → Int → Int → Int → Int → Int → List Int → Option R49) (f3 : (List (Int × Int)) → List Int → Int → Int → Int → Int → Int → Int → Int → List Int → Int → Int → List Int → Option R49) (l0 : List (Int × Int)) (order1 : List Int) (p6 : Int) (most7 : Int) (v9 : Int) (v15 : Int) (v16 : Int) (v20 : Int) (v21 : Int) (v45 : List Int) (v46 : Int) (v47 : Int) (out5 : List Int) : Option R49 :=
 (bif decide (v47 < v46) then (idx v45 v47).bind fun x3' =>
 (idx l0 x3').bind fun x4' =>
      f3 l0 order1 p6 most7 (wr .i64 (v9 + x4'.2)) v15 v16 v20 v21 v45 v46 (wr .i64 (v47 + 1)) out5
 else f2 l0 order1 p6 (if v9 > most7 then v9 else most7) v15 v16 v20 (wr .i64 (v21 + 1)) out5)
noncomputable def DL49_4 (n : Nat × Nat) (f1 : (List (Int × Int)) → List Int → Int → Int → List Int → Option R49) (f2 : (List (Int × Int)) → List Int → Int → Int → Int → Int → Int → Int → List Int → Option R49) (m : Nat) : (List (Int × Int)) → List Int → Int → Int → Int → Int → Int → Int → Int → List Int → Int → Int → List Int → Option R49 := Nat.rec (motive := fun _ => (List (Int × Int)) → List Int → Int → Int → Int → Int → Int → Int → Int → List Int → Int → Int → List Int → Option R49) (fun _ _ _ _ _ _ _ _ _ _ _ _ _ => none) (fun _ ih => DF49_4 n f1 f2 ih) m
theorem DL49_4_succ (n : Nat × Nat) (f1 : (List (Int × Int)) → List Int → Int → Int → List Int → Option R49) (f2 : (List (Int × Int)) → List Int → Int → Int → Int → Int → Int → Int → List Int → Option R49) (m : Nat) : DL49_4 n f1 f2 (m + 1) = DF49_4 n f1 f2 (DL49_4 n f1 f2 m) := rfl
theorem DL49_4_eq (n : Nat × Nat) (hn : n.2 = 1) (m1 m2 : Nat) : ∀ m, L49_4 n m1 m2 m = DL49_4 n (L49_1 n m1) (L49_2 n m1 m2) m
  | 0 => by funext l0 order1 p6 most7 v9 v15 v16 v20 v21 v45 v46 v47 out5; kernel_rfl
  | m + 1 => by
    have ih := DL49_4_eq n hn m1 m2 m
    funext l0 order1 p6 most7 v9 v15 v16 v20 v21 v45 v46 v47 out5; refine (L49_4_eq n m1 m2 m l0 order1 p6 most7 v9 v15 v16 v20 v21 v45 v46 v47 out5).trans ?_
    rw [DL49_4_succ]
    unfold DF49_4
    (try simp only [ih]) <;> first | with_reducible rfl | rfl
noncomputable def DF49_3 (n : Nat × Nat) (f1 : (List (Int × Int)) → List Int → Int → Int → List Int → Option R49) (f2 : (List (Int × Int)) → List Int → Int → Int → Int → Int → Int → Int → List Int → Option R49) (f3 : (List (Int × Int)) → List Int → Int → Int → Int → Int → Int → Int → Int → Int → List Int → Int → Int → List Int → Option R49) (l0 : List (Int × Int)) (order1 : List Int) (p6 : Int) (most7 : Int) (q8 : Int) (v9 : Int) (v15 : Int) (v16 : Int) (v20 : Int) (v21 : Int) (v27 : List Int) (v28 : Int) (v29 : Int) (out5 : List Int) : Option R49 :=
 (bif decide (v29 < v28) then (idx v27 v29).bind fun x1' =>
 (idx l0 x1').bind fun x2' =>
      f3 l0 order1 p6 most7 q8 (wr .i64 (v9 + x2'.1)) v15 v16 v20 v21 v27 v28 (wr .i64 (v29 + 1)) out5
 else (bif bounds (some q8) (some (wr .i64 (p6 + 1))) none order1.length then DL49_4 n f1 f2 n.1 l0 order1 p6 most7 v9 v15 v16 v20 v21 ((order1.take (Int.toNat (wr .i64 (p6 + 1)))).drop (Int.toNat q8)) (((order1.take (Int.toNat (wr .i64 (p6 + 1)))).drop (Int.toNat q8)).length : Int) 0 out5
 else none))
noncomputable def DL49_3 (n : Nat × Nat) (f1 : (List (Int × Int)) → List Int → Int → Int → List Int → Option R49) (f2 : (List (Int × Int)) → List Int → Int → Int → Int → Int → Int → Int → List Int → Option R49) (m : Nat) : (List (Int × Int)) → List Int → Int → Int → Int → Int → Int → Int → Int → Int → List Int → Int → Int → List Int → Option R49 := Nat.rec (motive := fun _ => (List (Int × Int)) → List Int → Int → Int → Int → Int → Int → Int → Int → Int → List Int → Int → Int → List Int → Option R49) (fun _ _ _ _ _ _ _ _ _ _ _ _ _ _ => none) (fun _ ih => DF49_3 n f1 f2 ih) m
theorem DL49_3_succ (n : Nat × Nat) (f1 : (List (Int × Int)) → List Int → Int → Int → List Int → Option R49) (f2 : (List (Int × Int)) → List Int → Int → Int → Int → Int → Int → Int → List Int → Option R49) (m : Nat) : DL49_3 n f1 f2 (m + 1) = DF49_3 n f1 f2 (DL49_3 n f1 f2 m) := rfl
theorem DL49_3_eq (n : Nat × Nat) (hn : n.2 = 1) (m1 m2 : Nat) : ∀ m, L49_3 n m1 m2 m = DL49_3 n (L49_1 n m1) (L49_2 n m1 m2) m
  | 0 => by funext l0 order1 p6 most7 q8 v9 v15 v16 v20 v21 v27 v28 v29 out5; kernel_rfl
  | m + 1 => by
    have ih := DL49_3_eq n hn m1 m2 m
    funext l0 order1 p6 most7 q8 v9 v15 v16 v20 v21 v27 v28 v29 out5; refine (L49_3_eq n m1 m2 m l0 order1 p6 most7 q8 v9 v15 v16 v20 v21 v27 v28 v29 out5).trans ?_
    rw [DL49_3_succ]
    unfold DF49_3
    (try simp only [ih, DL49_4_eq n hn]) <;> first | with_reducible rfl | rfl
noncomputable def DF49_2 (n : Nat × Nat) (f1 : (List (Int × Int)) → List Int → Int → Int → List Int → Option R49) (f2 : (List (Int × Int)) → List Int → Int → Int → Int → Int → Int → Int → List Int → Option R49) (l0 : List (Int × Int)) (order1 : List Int) (p6 : Int) (most7 : Int) (v15 : Int) (v16 : Int) (v20 : Int) (v21 : Int) (out5 : List Int) : Option R49 :=
 (bif decide (v21 < v20) then (bif bounds none (some (wr .i64 (v21 + 1))) none order1.length then DL49_3 n f1 f2 n.1 l0 order1 p6 most7 v21 0 v15 v16 v20 v21 (order1.take (Int.toNat (wr .i64 (v21 + 1)))) ((order1.take (Int.toNat (wr .i64 (v21 + 1)))).length : Int) 0 out5
 else none)
 else (bif decide (out5.length + [most7].length ≤ lim) then f1 l0 order1 v15 (wr .i64 (v16 + 1)) (out5 ++ [most7])
 else none))
noncomputable def DL49_2 (n : Nat × Nat) (f1 : (List (Int × Int)) → List Int → Int → Int → List Int → Option R49) (m : Nat) : (List (Int × Int)) → List Int → Int → Int → Int → Int → Int → Int → List Int → Option R49 := Nat.rec (motive := fun _ => (List (Int × Int)) → List Int → Int → Int → Int → Int → Int → Int → List Int → Option R49) (fun _ _ _ _ _ _ _ _ _ => none) (fun _ ih => DF49_2 n f1 ih) m
theorem DL49_2_succ (n : Nat × Nat) (f1 : (List (Int × Int)) → List Int → Int → Int → List Int → Option R49) (m : Nat) : DL49_2 n f1 (m + 1) = DF49_2 n f1 (DL49_2 n f1 m) := rfl
theorem DL49_2_eq (n : Nat × Nat) (hn : n.2 = 1) (m1 : Nat) : ∀ m, L49_2 n m1 m = DL49_2 n (L49_1 n m1) m
  | 0 => by funext l0 order1 p6 most7 v15 v16 v20 v21 out5; kernel_rfl
  | m + 1 => by
    have ih := DL49_2_eq n hn m1 m
    funext l0 order1 p6 most7 v15 v16 v20 v21 out5; refine (L49_2_eq n m1 m l0 order1 p6 most7 v15 v16 v20 v21 out5).trans ?_
    rw [DL49_2_succ]
    unfold DF49_2
    (try simp only [ih, DL49_4_eq n hn, DL49_3_eq n hn]) <;> first | with_reducible rfl | rfl
noncomputable def DF49_1 (n : Nat × Nat) (f1 : (List (Int × Int)) → List Int → Int → Int → List Int → Option R49) (l0 : List (Int × Int)) (order1 : List Int) (v15 : Int) (v16 : Int) (out5 : List Int) : Option R49 :=
 (bif decide (v16 < v15) then DL49_2 n f1 n.1 l0 order1 v16 0 v15 v16 (wr .i64 (v16 + 1)) 0 out5
 else some out5)
noncomputable def DL49_1 (n : Nat × Nat) (m : Nat) : (List (Int × Int)) → List Int → Int → Int → List Int → Option R49 := Nat.rec (motive := fun _ => (List (Int × Int)) → List Int → Int → Int → List Int → Option R49) (fun _ _ _ _ _ => none) (fun _ ih => DF49_1 n ih) m
theorem DL49_1_succ (n : Nat × Nat) (m : Nat) : DL49_1 n (m + 1) = DF49_1 n (DL49_1 n m) := rfl
theorem DL49_1_eq (n : Nat × Nat) (hn : n.2 = 1) : ∀ m, L49_1 n m = DL49_1 n m
  | 0 => by funext l0 order1 v15 v16 out5; kernel_rfl
  | m + 1 => by
    have ih := DL49_1_eq n hn m
    funext l0 order1 v15 v16 out5; refine (L49_1_eq n m l0 order1 v15 v16 out5).trans ?_
    rw [DL49_1_succ]
    unfold DF49_1
    (try simp only [ih, DL49_4_eq n hn, DL49_3_eq n hn, DL49_2_eq n hn]) <;> first | with_reducible rfl | rfl
noncomputable def D49 (n : Nat × Nat) (l0 : List (Int × Int)) (order1 : List Int) : Option R49 :=
    DL49_1 n n.1 l0 order1 (order1.length : Int) 0 []
theorem S49_D (n : Nat × Nat) (hn : n.2 = 1) : S49 n = D49 n := by
  funext l0 order1; refine (S49_eq n l0 order1).trans ?_
  unfold D49
  (try simp only [DL49_4_eq n hn, DL49_3_eq n hn, DL49_2_eq n hn, DL49_1_eq n hn]) <;> first | with_reducible rfl | rfl
/-D 46 -/
noncomputable def D46 (n : Nat × Nat) (l0 : List (Int × Int)) (order1 : List Int) : Option R46 :=
 (D49 n l0 order1).bind fun r1' =>
 (bif inB (wr .i64 ((order1.length : Int) - 1)) r1'.length then (idx r1' (wr .i64 ((order1.length : Int) - 1))).bind fun x2' =>
 some x2'
 else none)
theorem S46_D (n : Nat × Nat) (hn : n.2 = 1) : S46 n = D46 n := by
  funext l0 order1; refine (S46_eq n l0 order1).trans ?_
  unfold D46
  (try simp only [S49_D n hn]) <;> first | with_reducible rfl | rfl
/-D 79io01111 -/
noncomputable def D79io01111 (n : Nat × Nat) (o0 : List Int) (v1 : List (Int × Int)) (v2 : Int) (v3 : Int) (v4 : List Int) : Option R79io01111 :=
 (D46 n v1 o0).bind fun r1' =>
 ((bif ((v2 == 0) == false) then some (decide (r1' < v3))
 else some true)).bind fun b2' =>
 (bif b2' then some ((), v1, 1, r1', o0, ())
 else (bif (r1' == v3) then some ((), v1, wr .i64 (v2 + 1), v3, v4, ())
 else some ((), v1, v2, v3, v4, ())))
theorem S79io01111_D (n : Nat × Nat) (hn : n.2 = 1) : S79io01111 n = D79io01111 n := by
  funext o0 v1 v2 v3 v4; refine (S79io01111_eq n o0 v1 v2 v3 v4).trans ?_
  unfold D79io01111
  (try simp only [S46_D n hn]) <;> first | with_reducible rfl | rfl
/-D 93f79io0110 -/
noncomputable def DL93f79io0110_2 (n : Nat × Nat) (SS : List Int → Int → (List (Int × Int)) → Int → Int → List Int → Option R93f79io0110) (f1 : List Int → Int → Int → Int → (List (Int × Int)) → Int → Int → List Int → Option R93f79io0110) (l0 : List Int) (v13 : Int) (v14 : Int) (u0 : Int) (u1 : List (Int × Int)) (u2 : Int) (u3 : Int) (u4 : List Int) : Option R93f79io0110 :=
    f1 l0 v13 (wr .i64 (v14 + 1)) u0 u1 u2 u3 u4
theorem DL93f79io0110_2_eq (n : Nat × Nat) (hn : n.2 = 1) (SS : List Int → Int → (List (Int × Int)) → Int → Int → List Int → Option R93f79io0110) (m1 : Nat) : L93f79io0110_2 n SS m1 = DL93f79io0110_2 n SS (L93f79io0110_1 n SS m1) := by
  funext l0 v13 v14 u0 u1 u2 u3 u4; refine ((held_eq hn _).trans (L93f79io0110_2_raw n SS m1 l0 v13 v14 u0 u1 u2 u3 u4)).trans ?_
  unfold DL93f79io0110_2
  (try simp only [S80_D n hn, S79io01111_D n hn]) <;> first | with_reducible rfl | rfl
noncomputable def DF93f79io0110_1 (n : Nat × Nat) (SS : List Int → Int → (List (Int × Int)) → Int → Int → List Int → Option R93f79io0110) (f1 : List Int → Int → Int → Int → (List (Int × Int)) → Int → Int → List Int → Option R93f79io0110) (l0 : List Int) (v13 : Int) (v14 : Int) (u0 : Int) (u1 : List (Int × Int)) (u2 : Int) (u3 : Int) (u4 : List Int) : Option R93f79io0110 :=
 (bif decide (v14 < v13) then (D80 n l0 v14).bind fun r2' =>
 (bif (!r2') then (bif ((l0.length : Int) == (l0.length : Int)) && bounds none (some (l0.length : Int)) (some (l0.length : Int)) l0.length then (bif decide ((l0.take (Int.toNat (l0.length : Int))).length + [v14].length ≤ lim) && ((l0.take (Int.toNat (l0.length : Int))).isEmpty || ![v14].isEmpty) then (SS ((l0.take (Int.toNat (l0.length : Int))) ++ [v14]) u0 u1 u2 u3 u4).bind fun r3' =>
            DL93f79io0110_2 n SS f1 l0 v13 v14 r3'.2.1 r3'.2.2.1 r3'.2.2.2.1 r3'.2.2.2.2.1 r3'.2.2.2.2.2.1
 else none)
 else none)
 else DL93f79io0110_2 n SS f1 l0 v13 v14 u0 u1 u2 u3 u4)
 else some ((), u0, u1, u2, u3, u4, ()))
noncomputable def DL93f79io0110_1 (n : Nat × Nat) (SS : List Int → Int → (List (Int × Int)) → Int → Int → List Int → Option R93f79io0110) (m : Nat) : List Int → Int → Int → Int → (List (Int × Int)) → Int → Int → List Int → Option R93f79io0110 := Nat.rec (motive := fun _ => List Int → Int → Int → Int → (List (Int × Int)) → Int → Int → List Int → Option R93f79io0110) (fun _ _ _ _ _ _ _ _ => none) (fun _ ih => DF93f79io0110_1 n SS ih) m
theorem DL93f79io0110_1_succ (n : Nat × Nat) (SS : List Int → Int → (List (Int × Int)) → Int → Int → List Int → Option R93f79io0110) (m : Nat) : DL93f79io0110_1 n SS (m + 1) = DF93f79io0110_1 n SS (DL93f79io0110_1 n SS m) := rfl
theorem DL93f79io0110_1_eq (n : Nat × Nat) (hn : n.2 = 1) (SS : List Int → Int → (List (Int × Int)) → Int → Int → List Int → Option R93f79io0110) : ∀ m, L93f79io0110_1 n SS m = DL93f79io0110_1 n SS m
  | 0 => by funext l0 v13 v14 u0 u1 u2 u3 u4; kernel_rfl
  | m + 1 => by
    have ih := DL93f79io0110_1_eq n hn SS m
    funext l0 v13 v14 u0 u1 u2 u3 u4; refine (L93f79io0110_1_eq n SS m l0 v13 v14 u0 u1 u2 u3 u4).trans ?_
    rw [DL93f79io0110_1_succ]
    unfold DF93f79io0110_1
    (try simp only [ih, DL93f79io0110_2_eq n hn SS, S80_D n hn, S79io01111_D n hn]) <;> first | with_reducible rfl | rfl
noncomputable def DB93f79io0110 (n : Nat × Nat) (SS : List Int → Int → (List (Int × Int)) → Int → Int → List Int → Option R93f79io0110) (l0 : List Int) (v1 : Int) (cp_2_0 : List (Int × Int)) (cp_2_1 : Int) (cp_2_2 : Int) (cp_2_3 : List Int) : Option R93f79io0110 :=
 (bif ((l0.length : Int) == v1) then (D79io01111 n l0 cp_2_0 cp_2_1 cp_2_2 cp_2_3).bind fun r1' =>
 some ((), v1, r1'.2.1, r1'.2.2.1, r1'.2.2.2.1, r1'.2.2.2.2.1, ())
 else DL93f79io0110_1 n SS n.1 l0 v1 0 v1 cp_2_0 cp_2_1 cp_2_2 cp_2_3)
theorem DB93f79io0110_eq (n : Nat × Nat) (hn : n.2 = 1) (SS : List Int → Int → (List (Int × Int)) → Int → Int → List Int → Option R93f79io0110) : B93f79io0110 n SS = DB93f79io0110 n SS := by
  funext l0 v1 cp_2_0 cp_2_1 cp_2_2 cp_2_3; refine (B93f79io0110_eq n SS l0 v1 cp_2_0 cp_2_1 cp_2_2 cp_2_3).trans ?_
  unfold DB93f79io0110
  (try simp only [DL93f79io0110_2_eq n hn SS, DL93f79io0110_1_eq n hn SS, S80_D n hn, S79io01111_D n hn]) <;> first | with_reducible rfl | rfl
noncomputable def DT93f79io0110 (n : Nat × Nat) (d : Nat) : List Int → Int → (List (Int × Int)) → Int → Int → List Int → Option R93f79io0110 := Nat.rec (motive := fun _ => List Int → Int → (List (Int × Int)) → Int → Int → List Int → Option R93f79io0110) (fun _ _ _ _ _ _ => none) (fun _ ih => DB93f79io0110 n ih) d
theorem DT93f79io0110_succ (n : Nat × Nat) (d : Nat) : DT93f79io0110 n (d + 1) = DB93f79io0110 n (DT93f79io0110 n d) := rfl
theorem DT93f79io0110_eq (n : Nat × Nat) (hn : n.2 = 1) : ∀ d, T93f79io0110 n d = DT93f79io0110 n d
  | 0 => rfl
  | d + 1 => by
    funext l0 v1 cp_2_0 cp_2_1 cp_2_2 cp_2_3
    rw [T93f79io0110_eq, DT93f79io0110_eq n hn d, DB93f79io0110_eq n hn, DT93f79io0110_succ]
noncomputable def D93f79io0110 (n : Nat × Nat) (l0 : List Int) (v1 : Int) (cp_2_0 : List (Int × Int)) (cp_2_1 : Int) (cp_2_2 : Int) (cp_2_3 : List Int) : Option R93f79io0110 := DT93f79io0110 n n.1 l0 v1 cp_2_0 cp_2_1 cp_2_2 cp_2_3
theorem S93f79io0110_D (n : Nat × Nat) (hn : n.2 = 1) : S93f79io0110 n = D93f79io0110 n := by
  funext l0 v1 cp_2_0 cp_2_1 cp_2_2 cp_2_3; unfold S93f79io0110 D93f79io0110; rw [DT93f79io0110_eq n hn]
/-D 78c79io01 -/
noncomputable def D78c79io01 (n : Nat × Nat) (v0 : Int) (cp_1_0 : List (Int × Int)) (cp_1_1 : Int) (cp_1_2 : Int) (cp_1_3 : List Int) : Option R78c79io01 :=
 (D93f79io0110 n [] v0 cp_1_0 cp_1_1 cp_1_2 cp_1_3).bind fun r1' =>
 some ((), r1'.2.2.1, r1'.2.2.2.1, r1'.2.2.2.2.1, r1'.2.2.2.2.2.1, ())
theorem S78c79io01_D (n : Nat × Nat) (hn : n.2 = 1) : S78c79io01 n = D78c79io01 n := by
  funext v0 cp_1_0 cp_1_1 cp_1_2 cp_1_3; refine (S78c79io01_eq n v0 cp_1_0 cp_1_1 cp_1_2 cp_1_3).trans ?_
  unfold D78c79io01
  (try simp only [S93f79io0110_D n hn]) <;> first | with_reducible rfl | rfl
/-D 44 -/
noncomputable def D44 (n : Nat × Nat) (l0 : List (Int × Int)) : Option R44 :=
 (D78c79io01 n (l0.length : Int) l0 0 0 []).bind fun r1' =>
 some (r1'.2.2.2.2.1, r1'.2.2.2.1, r1'.2.2.1)
theorem S44_D (n : Nat × Nat) (hn : n.2 = 1) : S44 n = D44 n := by
  funext l0; refine (S44_eq n l0).trans ?_
  unfold D44
  (try simp only [S78c79io01_D n hn]) <;> first | with_reducible rfl | rfl
/-D 45 -/
noncomputable def DF45_1 (n : Nat × Nat) (f1 : List Int → Int → List Int → Int → Int → Option R45) (l0 : List Int) (v1 : Int) (v11 : List Int) (v12 : Int) (v13 : Int) : Option R45 :=
 (bif decide (v13 < v12) then (idx v11 v13).bind fun x1' =>
 ((bif (decide (x1' < 0) == false) then some (decide (x1' ≥ v1))
 else some true)).bind fun b2' =>
 ((bif (b2' == false) then (bif bounds none (some v13) none l0.length then (D80 n (l0.take (Int.toNat v13)) x1').bind fun r3' =>
 some r3'
 else none)
 else some true)).bind fun b4' =>
 (bif b4' then some false
 else f1 l0 v1 v11 v12 (wr .i64 (v13 + 1)))
 else some true)
noncomputable def DL45_1 (n : Nat × Nat) (m : Nat) : List Int → Int → List Int → Int → Int → Option R45 := Nat.rec (motive := fun _ => List Int → Int → List Int → Int → Int → Option R45) (fun _ _ _ _ _ => none) (fun _ ih => DF45_1 n ih) m
theorem DL45_1_succ (n : Nat × Nat) (m : Nat) : DL45_1 n (m + 1) = DF45_1 n (DL45_1 n m) := rfl
theorem DL45_1_eq (n : Nat × Nat) (hn : n.2 = 1) : ∀ m, L45_1 n m = DL45_1 n m
  | 0 => by funext l0 v1 v11 v12 v13; kernel_rfl
  | m + 1 => by
    have ih := DL45_1_eq n hn m
    funext l0 v1 v11 v12 v13; refine (L45_1_eq n m l0 v1 v11 v12 v13).trans ?_
    rw [DL45_1_succ]
    unfold DF45_1
    (try simp only [ih, S80_D n hn]) <;> first | with_reducible rfl | rfl
noncomputable def D45 (n : Nat × Nat) (l0 : List Int) (v1 : Int) : Option R45 :=
 (bif ((l0.length : Int) != v1) then some false
 else DL45_1 n n.1 l0 v1 l0 (l0.length : Int) 0)
theorem S45_D (n : Nat × Nat) (hn : n.2 = 1) : S45 n = D45 n := by
  funext l0 v1; refine (S45_eq n l0 v1).trans ?_
  unfold D45
  (try simp only [DL45_1_eq n hn, S80_D n hn]) <;> first | with_reducible rfl | rfl
/-D 81 -/
noncomputable def D81 (n : Nat × Nat) (s0 : Int × Int) : Option R81 :=
 some s0
theorem S81_D (n : Nat × Nat) (hn : n.2 = 1) : S81 n = D81 n := by
  funext s0; refine (S81_eq n s0).trans ?_
  unfold D81
  first | with_reducible rfl | rfl
/-D 47 -/
noncomputable def DF47_1 (n : Nat × Nat) (f1 : Int → Int → Int → (List (Int × Int)) → Int → Int → Option R47) (machine1 : Int) (h8 : Int) (v9 : Int) (v23 : List (Int × Int)) (v24 : Int) (v25 : Int) : Option R47 :=
 (bif decide (v25 < v24) then (idx v23 v25).bind fun x4' =>
 (D81 n x4').bind fun r5' =>
 (bif inB (wr .i64 (1 - machine1)) 2 then (idx [r5'.1, r5'.2] (wr .i64 (1 - machine1))).bind fun x6' =>
 (bif inB machine1 2 then (idx [r5'.1, r5'.2] machine1).bind fun x7' =>
 ((bif (decide (x7' < h8) == true) then (bif inB machine1 2 then (idx [r5'.1, r5'.2] machine1).bind fun x8' =>
 some (decide (x8' < x6'))
 else none)
 else some false)).bind fun b9' =>
 (bif b9' then (bif inB machine1 2 then (idx [r5'.1, r5'.2] machine1).bind fun x10' =>
              f1 machine1 h8 (wr .i64 (v9 + x10')) v23 v24 (wr .i64 (v25 + 1))
 else none)
 else f1 machine1 h8 (wr .i64 (v9 + x6')) v23 v24 (wr .i64 (v25 + 1)))
 else none)
 else none)
 else some v9)
noncomputable def DL47_1 (n : Nat × Nat) (m : Nat) : Int → Int → Int → (List (Int × Int)) → Int → Int → Option R47 := Nat.rec (motive := fun _ => Int → Int → Int → (List (Int × Int)) → Int → Int → Option R47) (fun _ _ _ _ _ _ => none) (fun _ ih => DF47_1 n ih) m
theorem DL47_1_succ (n : Nat × Nat) (m : Nat) : DL47_1 n (m + 1) = DF47_1 n (DL47_1 n m) := rfl
theorem DL47_1_eq (n : Nat × Nat) (hn : n.2 = 1) : ∀ m, L47_1 n m = DL47_1 n m
  | 0 => by funext machine1 h8 v9 v23 v24 v25; kernel_rfl
  | m + 1 => by
    have ih := DL47_1_eq n hn m
    funext machine1 h8 v9 v23 v24 v25; refine (L47_1_eq n m machine1 h8 v9 v23 v24 v25).trans ?_
    rw [DL47_1_succ]
    unfold DF47_1
    (try simp only [ih, S81_D n hn]) <;> first | with_reducible rfl | rfl
noncomputable def D47 (n : Nat × Nat) (l0 : List (Int × Int)) (machine1 : Int) (k2 : Int) : Option R47 :=
 (idx l0 k2).bind fun x1' =>
 (D81 n x1').bind fun r2' =>
 (idx [r2'.1, r2'.2] machine1).bind fun x3' =>
    DL47_1 n n.1 machine1 x3' x3' l0 (l0.length : Int) 0
theorem S47_D (n : Nat × Nat) (hn : n.2 = 1) : S47 n = D47 n := by
  funext l0 machine1 k2; refine (S47_eq n l0 machine1 k2).trans ?_
  unfold D47
  (try simp only [DL47_1_eq n hn, S81_D n hn]) <;> first | with_reducible rfl | rfl
/-D 6 -/
noncomputable def DL6_4 (n : Nat × Nat) (f1 : (List (Int × Int)) → Int → List Int → Int → Int → Int → Option R6) (f2 : (List (Int × Int)) → Int → List Int → Int → Int → Int → Int → Int → Int → Option R6) (l3 : List (Int × Int)) (least5 : Int) (r7 : List Int) (machine17 : Int) (sheet18 : Int) (m19 : Int) (v182 : Int) (v186 : Int) (v187 : Int) : Option R6 :=
    f2 l3 least5 r7 machine17 sheet18 m19 v182 v186 (wr .i64 (v187 + 1))
theorem DL6_4_eq (n : Nat × Nat) (hn : n.2 = 1) (m1 m2 : Nat) : L6_4 n m1 m2 = DL6_4 n (L6_2 n m1) (L6_3 n m1 m2) := by
  funext l3 least5 r7 machine17 sheet18 m19 v182 v186 v187; refine ((held_eq hn _).trans (L6_4_raw n m1 m2 l3 least5 r7 machine17 sheet18 m19 v182 v186 v187)).trans ?_
  unfold DL6_4
  (try simp only [S14_D n hn, S18_D n hn, S27_D n hn, S29_D n hn, S31_D n hn, S35_D n hn, S37_D n hn, S41_D n hn, S43_D n hn, S44_D n hn, S45_D n hn, S46_D n hn, S47_D n hn]) <;> first | with_reducible rfl | rfl
noncomputable def DF6_3 (n : Nat × Nat) (f1 : (List (Int × Int)) → Int → List Int → Int → Int → Int → Option R6) (f2 : (List (Int × Int)) → Int → List Int → Int → Int → Int → Int → Int → Int → Option R6) (l3 : List (Int × Int)) (least5 : Int) (r7 : List Int) (machine17 : Int) (sheet18 : Int) (m19 : Int) (v182 : Int) (v186 : Int) (v187 : Int) : Option R6 :=
 (bif decide (v187 < v186) then (D35 n l3 m19 v187).bind fun r39' =>
 ((bif ((r39'.2 != 0) == false) then (D47 n l3 m19 v187).bind fun r40' =>
 some (r39'.1 != r40')
 else some true)).bind fun b41' =>
 ((bif (b41' == false) then some (decide (r39'.1 > least5))
 else some true)).bind fun b42' =>
 (bif b42' then some false
 else ((bif ((r39'.1 == least5) == true) then some (decide (machine17 < 0))
 else some false)).bind fun b43' =>
 (bif b43' then DL6_4 n f1 f2 l3 least5 r7 m19 v187 m19 v182 v186 v187
 else DL6_4 n f1 f2 l3 least5 r7 machine17 sheet18 m19 v182 v186 v187))
 else f1 l3 least5 r7 machine17 sheet18 (wr .i64 (v182 + 1)))
noncomputable def DL6_3 (n : Nat × Nat) (f1 : (List (Int × Int)) → Int → List Int → Int → Int → Int → Option R6) (m : Nat) : (List (Int × Int)) → Int → List Int → Int → Int → Int → Int → Int → Int → Option R6 := Nat.rec (motive := fun _ => (List (Int × Int)) → Int → List Int → Int → Int → Int → Int → Int → Int → Option R6) (fun _ _ _ _ _ _ _ _ _ => none) (fun _ ih => DF6_3 n f1 ih) m
theorem DL6_3_succ (n : Nat × Nat) (f1 : (List (Int × Int)) → Int → List Int → Int → Int → Int → Option R6) (m : Nat) : DL6_3 n f1 (m + 1) = DF6_3 n f1 (DL6_3 n f1 m) := rfl
theorem DL6_3_eq (n : Nat × Nat) (hn : n.2 = 1) (m1 : Nat) : ∀ m, L6_3 n m1 m = DL6_3 n (L6_2 n m1) m
  | 0 => by funext l3 least5 r7 machine17 sheet18 m19 v182 v186 v187; kernel_rfl
  | m + 1 => by
    have ih := DL6_3_eq n hn m1 m
    funext l3 least5 r7 machine17 sheet18 m19 v182 v186 v187; refine (L6_3_eq n m1 m l3 least5 r7 machine17 sheet18 m19 v182 v186 v187).trans ?_
    rw [DL6_3_succ]
    unfold DF6_3
    (try simp only [ih, DL6_4_eq n hn, S14_D n hn, S18_D n hn, S27_D n hn, S29_D n hn, S31_D n hn, S35_D n hn, S37_D n hn, S41_D n hn, S43_D n hn, S44_D n hn, S45_D n hn, S46_D n hn, S47_D n hn]) <;> first | with_reducible rfl | rfl
noncomputable def DF6_2 (n : Nat × Nat) (f1 : (List (Int × Int)) → Int → List Int → Int → Int → Int → Option R6) (l3 : List (Int × Int)) (least5 : Int) (r7 : List Int) (machine17 : Int) (sheet18 : Int) (v182 : Int) : Option R6 :=
 (bif decide (v182 < 2) then DL6_3 n f1 n.1 l3 least5 r7 machine17 sheet18 v182 v182 (l3.length : Int) 0
 else (D37 n l3).bind fun r31' =>
 ((bif (decide (machine17 ≥ 0) == true) then some (r31'.2.2 == 0)
 else some false)).bind fun b32' =>
 ((bif (b32' == true) then some (r31'.1 == machine17)
 else some false)).bind fun b33' =>
 ((bif (b33' == true) then some (r31'.2.1 == sheet18)
 else some false)).bind fun b34' =>
 ((bif (b34' == true) then (D41 n l3 r7 r31'.1 r31'.2.1).bind fun r35' =>
 some (r35' == 0)
 else some false)).bind fun b36' =>
 ((bif (b36' == true) then (D14 n).bind fun r37' =>
 some r37'
 else some false)).bind fun b38' =>
 some b38')
noncomputable def DL6_2 (n : Nat × Nat) (m : Nat) : (List (Int × Int)) → Int → List Int → Int → Int → Int → Option R6 := Nat.rec (motive := fun _ => (List (Int × Int)) → Int → List Int → Int → Int → Int → Option R6) (fun _ _ _ _ _ _ => none) (fun _ ih => DF6_2 n ih) m
theorem DL6_2_succ (n : Nat × Nat) (m : Nat) : DL6_2 n (m + 1) = DF6_2 n (DL6_2 n m) := rfl
theorem DL6_2_eq (n : Nat × Nat) (hn : n.2 = 1) : ∀ m, L6_2 n m = DL6_2 n m
  | 0 => by funext l3 least5 r7 machine17 sheet18 v182; kernel_rfl
  | m + 1 => by
    have ih := DL6_2_eq n hn m
    funext l3 least5 r7 machine17 sheet18 v182; refine (L6_2_eq n m l3 least5 r7 machine17 sheet18 v182).trans ?_
    rw [DL6_2_succ]
    unfold DF6_2
    (try simp only [ih, DL6_4_eq n hn, DL6_3_eq n hn, S14_D n hn, S18_D n hn, S27_D n hn, S29_D n hn, S31_D n hn, S35_D n hn, S37_D n hn, S41_D n hn, S43_D n hn, S44_D n hn, S45_D n hn, S46_D n hn, S47_D n hn]) <;> first | with_reducible rfl | rfl
noncomputable def DF6_1 (n : Nat × Nat) (f1 : (List (Int × Int)) → List Int → Int → Int → List Int → Int → Option R6) (l3 : List (Int × Int)) (first4 : List Int) (least5 : Int) (many6 : Int) (r7 : List Int) (p9 : Int) : Option R6 :=
 (bif decide (p9 < (r7.length : Int)) then (idx r7 (wr .i64 (p9 - 1))).bind fun x8' =>
 (idx l3 x8').bind fun x9' =>
 (idx r7 p9).bind fun x10' =>
 (idx l3 x10').bind fun x11' =>
 ((bif ((!(decide (x9'.1 < x9'.2))) == true) then some (decide (x11'.1 < x11'.2))
 else some false)).bind fun b12' =>
 (bif b12' then some false
 else ((bif (decide (x9'.1 < x9'.2) == true) then some (decide (x11'.1 < x11'.2))
 else some false)).bind fun b13' =>
 ((bif (b13' == true) then ((bif (decide (x9'.1 > x11'.1) == false) then ((bif ((x9'.1 == x11'.1) == true) then (idx r7 (wr .i64 (p9 - 1))).bind fun x14' =>
 (idx r7 p9).bind fun x15' =>
 some (decide (x14' > x15'))
 else some false)).bind fun b16' =>
 some b16'
 else some true)).bind fun b17' =>
 some b17'
 else some false)).bind fun b18' =>
 (bif b18' then some false
 else ((bif ((!(decide (x9'.1 < x9'.2))) == true) then some (!(decide (x11'.1 < x11'.2)))
 else some false)).bind fun b19' =>
 ((bif (b19' == true) then ((bif (decide (x9'.2 < x11'.2) == false) then ((bif ((x9'.2 == x11'.2) == true) then (idx r7 (wr .i64 (p9 - 1))).bind fun x20' =>
 (idx r7 p9).bind fun x21' =>
 some (decide (x20' > x21'))
 else some false)).bind fun b22' =>
 some b22'
 else some true)).bind fun b23' =>
 some b23'
 else some false)).bind fun b24' =>
 (bif b24' then some false
 else f1 l3 first4 least5 many6 r7 (wr .i64 (p9 + 1)))))
 else (D29 n l3).bind fun r25' =>
 (D31 n l3).bind fun r26' =>
 ((bif ((r25'.2 != 0) == false) then some (r26'.2 != 0)
 else some true)).bind fun b27' =>
 ((bif (b27' == false) then (D18 n r25'.1 first4).bind fun r28' =>
 some (!r28')
 else some true)).bind fun b29' =>
 ((bif (b29' == false) then some (r26'.1 != many6)
 else some true)).bind fun b30' =>
 (bif b30' then some false
 else DL6_2 n n.1 l3 least5 r7 (-1) (-1) 0))
noncomputable def DL6_1 (n : Nat × Nat) (m : Nat) : (List (Int × Int)) → List Int → Int → Int → List Int → Int → Option R6 := Nat.rec (motive := fun _ => (List (Int × Int)) → List Int → Int → Int → List Int → Int → Option R6) (fun _ _ _ _ _ _ => none) (fun _ ih => DF6_1 n ih) m
theorem DL6_1_succ (n : Nat × Nat) (m : Nat) : DL6_1 n (m + 1) = DF6_1 n (DL6_1 n m) := rfl
theorem DL6_1_eq (n : Nat × Nat) (hn : n.2 = 1) : ∀ m, L6_1 n m = DL6_1 n m
  | 0 => by funext l3 first4 least5 many6 r7 p9; kernel_rfl
  | m + 1 => by
    have ih := DL6_1_eq n hn m
    funext l3 first4 least5 many6 r7 p9; refine (L6_1_eq n m l3 first4 least5 many6 r7 p9).trans ?_
    rw [DL6_1_succ]
    unfold DF6_1
    (try simp only [ih, DL6_4_eq n hn, DL6_3_eq n hn, DL6_2_eq n hn, S14_D n hn, S18_D n hn, S27_D n hn, S29_D n hn, S31_D n hn, S35_D n hn, S37_D n hn, S41_D n hn, S43_D n hn, S44_D n hn, S45_D n hn, S46_D n hn, S47_D n hn]) <;> first | with_reducible rfl | rfl
noncomputable def D6 (n : Nat × Nat) (f0 : Int × Int × (Int × Int) × (Int × Int) × (Int × Int) × (Int × Int) × (Int × Int) × (Int × Int) × Int × Int) : Option R6 :=
 (D43 n f0 6).bind fun r1' =>
 (D44 n r1').bind fun r2' =>
 (D27 n r1').bind fun r3' =>
 ((bif ((r3'.2 != 0) == false) then (D45 n r3'.1 (r1'.length : Int)).bind fun r4' =>
 some (!r4')
 else some true)).bind fun b5' =>
 ((bif (b5' == false) then (D46 n r1' r3'.1).bind fun r6' =>
 some (r6' != r2'.2.1)
 else some true)).bind fun b7' =>
 (bif b7' then some false
 else DL6_1 n n.1 r1' r2'.1 r2'.2.1 r2'.2.2 r3'.1 1)
theorem S6_D (n : Nat × Nat) (hn : n.2 = 1) : S6 n = D6 n := by
  funext f0; refine (S6_eq n f0).trans ?_
  unfold D6
  (try simp only [DL6_4_eq n hn, DL6_3_eq n hn, DL6_2_eq n hn, DL6_1_eq n hn, S14_D n hn, S18_D n hn, S27_D n hn, S29_D n hn, S31_D n hn, S35_D n hn, S37_D n hn, S41_D n hn, S43_D n hn, S44_D n hn, S45_D n hn, S46_D n hn, S47_D n hn]) <;> first | with_reducible rfl | rfl
/-D 15 -/
/-D 68 -/
/-D 26 -/
/-D 83 -/
end Go.Proofs.Ytnlbhjmbaedadaa
set_option linter.unusedVariables false
set_option linter.unusedSimpArgs false
namespace Go.Proofs.Ytnlbhjmbaedadaa
open Go.Vi
theorem hN1 : 1000 ≤ N.1 := by decide
theorem wr_ok {x : Int} (h1 : -9223372036854775808 ≤ x) (h2 : x ≤ 9223372036854775807) : wr .i64 x = x := by
  have : wr .i64 x = (x + 9223372036854775808) % 18446744073709551616 - 9223372036854775808 := by
    simp only [wr, IntKind.wrap, IntKind.signed, IntKind.bits]
    simp
    split <;> omega
  rw [this]
  omega
theorem wr_succ {k : Nat} (h : k < 1000000) : wr .i64 ((k : Int) + 1) = ((k + 1 : Nat) : Int) := by
  rw [wr_ok (by omega) (by omega)]; omega
theorem idx_nat {α : Type} {l : List α} {k : Nat} (h : k < l.length) : idx l (k : Int) = some l[k] := by
  unfold idx
  rw [if_pos (by omega), Int.toNat_natCast, List.getElem?_eq_getElem h]
theorem idx_int {α : Type} {l : List α} {k : Nat} {i : Int} (hi : i = k) (h : k < l.length) : idx l i = some l[k] := by
  subst hi
  exact idx_nat h
theorem drop_cons {α : Type} {l : List α} {k : Nat} (h : k < l.length) : l.drop k = l[k] :: l.drop (k + 1) := List.drop_eq_getElem_cons h
theorem inB_nat {k n : Nat} (h : k < n) : inB (k : Int) n = true := by
  unfold inB
  simp [h]
theorem lim_dec {α : Type} {a : Nat} {x : α} (h : a < 1000000) : decide (a + [x].length ≤ lim) = true := decide_eq_true (by simp [lim]; omega)
theorem dlt_t {a b : Nat} (h : a < b) : decide ((a : Int) < (b : Int)) = true := decide_eq_true (by omega)
theorem dlt_f {a b : Nat} (h : ¬ a < b) : decide ((a : Int) < (b : Int)) = false := decide_eq_false (by omega)
theorem take_snoc {α : Type} {l : List α} {k : Nat} (h : k < l.length) : l.take (k + 1) = l.take k ++ [l[k]] := (List.take_append_getElem h).symm
theorem max_if (a b : Int) : (if b > a then b else a) = max a b := by
  by_cases h : b > a
  · rw [if_pos h, Int.max_eq_right (by omega)]
  · rw [if_neg h, Int.max_eq_left (by omega)]
/-- Two lists are the same. -/
theorem same_loop (n : Nat × Nat) (a b : List Int) (hl : a.length = b.length) (hs : a.length < 1000) : ∀ (m k : Nat), k ≤ a.length → a.length - k < m → DL18_1 n m a b (k : Int) = some (decide (a.drop k = b.drop k))
  | 0, k, _, h => by omega
  | m + 1, k, hk, h => by
    rw [DL18_1_succ]
    unfold DF18_1
    by_cases hlt : k < a.length
    · have ih := same_loop n a b hl hs m (k + 1) (by omega) (by omega)
      rw [dlt_t hlt, cond_true, idx_nat hlt, idx_nat (by omega : k < b.length), wr_succ (by omega), ih, drop_cons hlt, drop_cons (by omega : k < b.length)]
      simp only [Option.bind_some, List.cons.injEq]
      by_cases e : a[k] = b[k]
      · simp [e]
      · rw [show (a[k] != b[k]) = true by simpa using e, cond_true]; simp [e]
    · rw [dlt_f hlt, cond_false, List.drop_of_length_le (by omega), List.drop_of_length_le (by omega)]
      simp
theorem same_eq {n : Nat × Nat} (hn : 1000 ≤ n.1) {a b : List Int} (hs : a.length < 900) : D18 n a b = some (decide (a = b)) := by
  unfold D18
  by_cases hl : a.length = b.length
  · rw [show (((a.length : Int)) != (b.length : Int)) = false by simp [hl], cond_false]
    have := same_loop n a b hl (by omega) n.1 0 (by omega) (by omega)
    simpa using this
  · rw [show (((a.length : Int)) != (b.length : Int)) = true by simpa using (by omega : (a.length : Int) ≠ b.length), cond_true]
    rw [decide_eq_false (fun e => hl (by rw [e]))]
/-- A sheet whose hours are as they may be. -/
def Ok (s : Int × Int) : Prop := 0 ≤ s.1 ∧ s.1 ≤ 50 ∧ 0 ≤ s.2 ∧ s.2 ≤ 50
instance (s : Int × Int) : Decidable (Ok s) := by unfold Ok; exact inferInstance
def chkl : List (Int × Int) → Int
  | [] => 0
  | s :: l => if Ok s then chkl l else 1
def chk (l : List (Int × Int)) : Int := if l.length = 0 then 4 else if 7 < l.length then 3 else chkl l
structure Good (l : List (Int × Int)) : Prop where
  pos : 0 < l.length
  len : l.length ≤ 7
  ok : ∀ s ∈ l, Ok s
theorem chkl_zero : ∀ {l : List (Int × Int)}, chkl l = 0 ↔ ∀ s ∈ l, Ok s
  | [] => by simp [chkl]
  | s :: l => by
    unfold chkl
    by_cases h : Ok s
    · rw [if_pos h, chkl_zero]; simp [h]
    · rw [if_neg h]; simp [h]
theorem chk_good {l : List (Int × Int)} : chk l = 0 ↔ Good l := by
  unfold chk
  by_cases h0 : l.length = 0
  · rw [if_pos h0]; exact ⟨fun h => by simp at h, fun h => by have := h.pos; omega⟩
  rw [if_neg h0]
  by_cases h8 : 7 < l.length
  · rw [if_pos h8]; exact ⟨fun h => by simp at h, fun h => by have := h.len; omega⟩
  rw [if_neg h8, chkl_zero]
  exact ⟨fun h => ⟨by omega, by omega, h⟩, fun h => h.ok⟩
theorem chk_loop (n : Nat × Nat) (l : List (Int × Int)) (hs : l.length < 1000) : ∀ (m k : Nat), k ≤ l.length → l.length - k < m → DL25_1 n m l (l.length : Int) (k : Int) = some (chkl (l.drop k))
  | 0, k, _, h => by omega
  | m + 1, k, hk, h => by
    rw [DL25_1_succ]
    unfold DF25_1
    by_cases hlt : k < l.length
    · have ih := chk_loop n l hs m (k + 1) (by omega) (by omega)
      rw [dlt_t hlt, cond_true, idx_nat hlt, wr_succ (by omega), ih, drop_cons hlt]
      generalize l[k] = s
      simp only [Option.bind_some, chkl]
      by_cases hok : Ok s
      · have ho := hok
        unfold Ok at ho
        rw [if_pos hok, decide_eq_false (show ¬ (if s.2 < s.1 then s.2 else s.1) < 0 by split <;> omega), decide_eq_false (show ¬ (if s.2 > s.1 then s.2 else s.1) > 50 by split <;> omega)]
        rfl
      · have ho := hok
        unfold Ok at ho
        rw [if_neg hok]
        by_cases h0 : (if s.2 < s.1 then s.2 else s.1) < 0
        · rw [decide_eq_true h0]; rfl
        · rw [decide_eq_false h0, decide_eq_true (show (if s.2 > s.1 then s.2 else s.1) > 50 by revert h0; split <;> split <;> omega)]
          rfl
    · rw [dlt_f hlt, cond_false, List.drop_of_length_le (by omega)]; rfl
theorem chk_eq {n : Nat × Nat} (hn : 1000 ≤ n.1) (l : List (Int × Int)) : D25 n l = some (chk l) := by
  unfold D25 chk
  by_cases h0 : l.length = 0
  · simp [h0]
  rw [show (((l.length : Int)) == 0) = false by simpa using h0, cond_false, if_neg h0]
  by_cases h8 : 7 < l.length
  · rw [decide_eq_true (show (l.length : Int) > 7 by omega), cond_true, if_pos h8]
  · rw [decide_eq_false (show ¬ (l.length : Int) > 7 by omega), cond_false, if_neg h8]
    exact chk_loop n l (by omega) n.1 0 (by omega) (by omega)
/-- The first place of a number, or -1. -/
def fdo (v : Int) : Int → List Int → Int
  | _, [] => -1
  | k, x :: l => if v = x then k else fdo v (k + 1) l
theorem index_loop (n : Nat × Nat) (l : List Int) (v : Int) (hs : l.length < 1000) : ∀ (m k : Nat), k ≤ l.length → l.length - k < m → DL65_1 n m l v (l.length : Int) (k : Int) = some (fdo v k (l.drop k))
  | 0, k, _, h => by omega
  | m + 1, k, hk, h => by
    rw [DL65_1_succ]
    unfold DF65_1
    by_cases hlt : k < l.length
    · have ih := index_loop n l v hs m (k + 1) (by omega) (by omega)
      rw [dlt_t hlt, cond_true, idx_nat hlt, wr_succ (by omega), ih, drop_cons hlt]
      simp only [Option.bind_some, fdo]
      by_cases e : v = l[k]
      · rw [show (v == l[k]) = true by simpa using e, cond_true, if_pos e]
      · rw [show (v == l[k]) = false by simpa using e, cond_false, if_neg e]; simp
    · rw [dlt_f hlt, cond_false, List.drop_of_length_le (by omega)]; rfl
theorem index_eq {n : Nat × Nat} (hn : 1000 ≤ n.1) {l : List Int} (hs : l.length < 900) (v : Int) : D65 n l v = some (fdo v 0 l) := by
  unfold D65
  exact index_loop n l v (by omega) n.1 0 (by omega) (by omega)
theorem fdo_nn {v : Int} : ∀ {l : List Int} {k : Int}, 0 ≤ k → (0 ≤ fdo v k l ↔ v ∈ l)
  | [], k, h => by simp [fdo]
  | x :: l, k, h => by
    unfold fdo
    by_cases e : v = x
    · rw [if_pos e]; simp [e, h]
    · rw [if_neg e, fdo_nn (by omega)]; simp [e]
theorem contains_eq {n : Nat × Nat} (hn : 1000 ≤ n.1) {l : List Int} (hs : l.length < 900) (v : Int) : D80 n l v = some (decide (v ∈ l)) := by
  unfold D80
  rw [index_eq hn hs, Option.bind_some]
  congr 1
  exact decide_eq_decide.2 (fdo_nn (by omega))
/-- Sums and greatest numbers. -/
theorem total_loop (n : Nat × Nat) (l : List Int) (hs : l.length < 1000) (hb : ∀ x ∈ l, 0 ≤ x ∧ x ≤ 1000) : ∀ (m k : Nat) (a : Int), k ≤ l.length → l.length - k < m → 0 ≤ a → a ≤ 1000 * k → DL63_1 n m a l (l.length : Int) (k : Int) = some (a + (l.drop k).sum)
  | 0, k, a, _, h, _, _ => by omega
  | m + 1, k, a, hk, h, h0, h1 => by
    rw [DL63_1_succ]
    unfold DF63_1
    by_cases hlt : k < l.length
    · have hx := hb _ (List.getElem_mem hlt)
      have ih := total_loop n l hs hb m (k + 1) (a + l[k]) (by omega) (by omega) (by omega) (by omega)
      rw [dlt_t hlt, cond_true, idx_nat hlt, wr_succ (by omega), Option.bind_some, wr_ok (by omega) (by omega), ih, drop_cons hlt, List.sum_cons, Int.add_assoc]
    · rw [dlt_f hlt, cond_false, List.drop_of_length_le (by omega)]; simp
theorem total_eq {n : Nat × Nat} (hn : 1000 ≤ n.1) {l : List Int} (hs : l.length < 900) (hb : ∀ x ∈ l, 0 ≤ x ∧ x ≤ 1000) : D63 n l = some l.sum := by
  unfold D63
  have := total_loop n l (by omega) hb n.1 0 0 (by omega) (by omega) (by omega) (by omega)
  simpa using this
theorem great_loop (n : Nat × Nat) (l : List Int) (hs : l.length < 1000) : ∀ (m k : Nat) (a : Int), k ≤ l.length → l.length - k < m → DL84_1 n m a l (l.length : Int) (k : Int) = some ((l.drop k).foldl max a)
  | 0, k, a, _, h => by omega
  | m + 1, k, a, hk, h => by
    rw [DL84_1_succ]
    unfold DF84_1
    by_cases hlt : k < l.length
    · have ih := great_loop n l hs m (k + 1) (max a l[k]) (by omega) (by omega)
      rw [dlt_t hlt, cond_true, idx_nat hlt, wr_succ (by omega), Option.bind_some, max_if, ih, drop_cons hlt, List.foldl_cons]
    · rw [dlt_f hlt, cond_false, List.drop_of_length_le (by omega)]; simp
theorem great_eq {n : Nat × Nat} (hn : 1000 ≤ n.1) {l : List Int} (hs : l.length < 900) (a : Int) : D84 n a l = some (l.foldl max a) := by
  unfold D84
  have := great_loop n l (by omega) n.1 0 a (by omega) (by omega)
  simpa using this
/-- What sheets need on a machine. -/
def hr (m : Int) (s : Int × Int) : Int := if m = 0 then s.1 else s.2
theorem all_loop (n : Nat × Nat) (mc : Int) (hm : mc = 0 ∨ mc = 1) (l : List (Int × Int)) (hs : l.length < 1000) : ∀ (m k : Nat), k ≤ l.length → l.length - k < m → DL64_1 n m mc l (l.length : Int) (k : Int) ((l.take k).map (hr mc)) = some (l.map (hr mc))
  | 0, k, _, h => by omega
  | m + 1, k, hk, h => by
    rw [DL64_1_succ]
    unfold DF64_1
    by_cases hlt : k < l.length
    · have ih := all_loop n mc hm l hs m (k + 1) (by omega) (by omega)
      have hi : idx [l[k].1, l[k].2] mc = some (hr mc l[k]) := by
        rcases hm with h | h <;> subst h <;> simp [idx, hr]
      rw [dlt_t hlt, cond_true, idx_nat hlt, Option.bind_some, hi, wr_succ (by omega), Option.bind_some, lim_dec (by simp; omega), cond_true, ← ih, take_snoc hlt, List.map_append]
      rfl
    · rw [dlt_f hlt, cond_false, List.take_of_length_le (by omega)]
theorem all_eq {n : Nat × Nat} (hn : 1000 ≤ n.1) {mc : Int} (hm : mc = 0 ∨ mc = 1) {l : List (Int × Int)} (hs : l.length < 900) : D64 n l mc = some (l.map (hr mc)) := by
  unfold D64
  exact all_loop n mc hm l (by omega) n.1 0 (by omega) (by omega)
/-- Numbers that are no two the same, as many as others among which they are: these. -/
theorem perm_of_sub {α : Type} [BEq α] [LawfulBEq α] : ∀ {l m : List α}, l.Nodup → (∀ x ∈ l, x ∈ m) → m.length ≤ l.length → l.Perm m
  | [], m, _, _, h => by
    rw [List.length_nil] at h
    rw [List.length_eq_zero_iff.1 (by omega : m.length = 0)]
  | a :: l, m, hn, hs, h => by
    have ha := hs a (by simp)
    have hp := List.perm_cons_erase ha
    rw [List.nodup_cons] at hn
    have hl := List.length_erase_of_mem ha
    have hne : ∀ x ∈ l, x ∈ m.erase a := fun x hx => (List.mem_erase_of_ne (fun e => hn.1 (by subst e; exact hx))).2 (hs x (by simp [hx]))
    rw [List.length_cons] at h
    exact (List.Perm.cons a (perm_of_sub hn.2 hne (by omega))).trans hp.symm
theorem sum_perm {l m : List Int} (h : l.Perm m) : l.sum = m.sum := by
  induction h with
  | nil => rfl
  | cons x _ ih => simp only [List.sum_cons, ih]
  | swap x y l => simp only [List.sum_cons]; omega
  | trans _ _ h1 h2 => rw [h1, h2]
end Go.Proofs.Ytnlbhjmbaedadaa
set_option linter.unusedVariables false
set_option linter.unusedSimpArgs false
set_option maxRecDepth 100000
namespace Go.Proofs.Ytnlbhjmbaedadaa
open Go.Vi
/-D 59 -/
/-D 60 -/
/-D 17 -/
/-D 62 -/
/-D 20 -/
/-D 22 -/
/-D 67 -/
/-D 24 -/
end Go.Proofs.Ytnlbhjmbaedadaa
set_option linter.unusedVariables false
set_option linter.unusedSimpArgs false
namespace Go.Proofs.Ytnlbhjmbaedadaa
open Go.Vi
/-- The error of the rest of an order, behind some numbers. -/
def pe (n : Int) : List Int → List Int → Int
  | _, [] => 0
  | pre, i :: r => if i < 0 ∨ n ≤ i then 2 else if i ∈ pre then 6 else pe n (pre ++ [i]) r
/-- The sheets of an order. -/
def pk (l : List (Int × Int)) (o : List Int) : List (Int × Int) := o.map fun i => l.getD i.toNat (0, 0)
def po (e : Int) (x : List (Int × Int)) : List (Int × Int) × Int := if e = 0 then (x, 0) else ([], e)
theorem po_snd (e : Int) (x : List (Int × Int)) : (po e x).2 = e := by
  unfold po
  split
  · rename_i h; exact h.symm
  · rfl
def put (l : List (Int × Int)) (o : List Int) : List (Int × Int) × Int :=
  if chk l ≠ 0 then ([], chk l) else if o.length ≠ l.length then ([], 5) else po (pe l.length [] o) (pk l o)
structure Ord (n : Nat) (o : List Int) : Prop where
  len : o.length = n
  rng : ∀ i ∈ o, 0 ≤ i ∧ i < n
  nodup : o.Nodup
theorem pe_zero {n : Int} : ∀ {r pre : List Int}, pe n pre r = 0 ↔ (∀ i ∈ r, 0 ≤ i ∧ i < n ∧ i ∉ pre) ∧ r.Nodup
  | [], pre => by simp [pe]
  | i :: r, pre => by
    unfold pe
    by_cases h : i < 0 ∨ n ≤ i
    · rw [if_pos h]
      refine ⟨fun h => by simp at h, fun h' => ?_⟩
      have := h'.1 i (by simp)
      omega
    rw [if_neg h]
    by_cases h6 : i ∈ pre
    · rw [if_pos h6]
      refine ⟨fun h => by simp at h, fun h' => ?_⟩
      exact absurd h6 (h'.1 i (by simp)).2.2
    rw [if_neg h6, pe_zero, List.nodup_cons]
    constructor
    · intro ⟨h1, h2⟩
      refine ⟨fun j hj => ?_, fun hi => ?_, h2⟩
      · rcases List.mem_cons.1 hj with e | hj
        · subst e; exact ⟨by omega, by omega, h6⟩
        · have := h1 j hj
          exact ⟨this.1, this.2.1, fun h => this.2.2 (by simp [h])⟩
      · exact (h1 i hi).2.2 (by simp)
    · intro ⟨h1, h2, h3⟩
      refine ⟨fun j hj => ?_, h3⟩
      have := h1 j (by simp [hj])
      refine ⟨this.1, this.2.1, fun h => ?_⟩
      rcases List.mem_append.1 h with h | h
      · exact this.2.2 h
      · rw [List.mem_singleton] at h; subst h; exact h2 hj
theorem put_zero {l : List (Int × Int)} {o : List Int} : (put l o).2 = 0 ↔ Good l ∧ Ord l.length o := by
  unfold put
  by_cases hc : chk l = 0
  · rw [if_neg (by simpa using hc)]
    by_cases hl : o.length = l.length
    · rw [if_neg (by simpa using hl), po_snd, pe_zero]
      exact ⟨fun hp => ⟨chk_good.1 hc, hl, fun i hi => ⟨(hp.1 i hi).1, (hp.1 i hi).2.1⟩, hp.2⟩, fun h => ⟨fun i hi => ⟨(h.2.rng i hi).1, (h.2.rng i hi).2, by simp⟩, h.2.nodup⟩⟩
    · rw [if_pos (by simpa using hl)]
      exact ⟨fun h => by simp at h, fun h => absurd h.2.len hl⟩
  · rw [if_pos (by simpa using hc)]
    exact ⟨fun h => absurd h hc, fun h => absurd (chk_good.2 h.1) hc⟩
theorem put_ord {l : List (Int × Int)} {o : List Int} (h : Good l) (ho : Ord l.length o) : put l o = (pk l o, 0) := by
  unfold put
  rw [if_neg (by simpa using chk_good.2 h), if_neg (by simpa using ho.len), pe_zero.2 ⟨fun i hi => ⟨(ho.rng i hi).1, (ho.rng i hi).2, by simp⟩, ho.nodup⟩]
  rfl
theorem put_loop (n : Nat × Nat) (hn : 1000 ≤ n.1) (l : List (Int × Int)) (o : List Int) (hl : l.length < 800) (hs : o.length < 800) : ∀ (m k : Nat), k ≤ o.length → o.length - k < m →
    DL58_1 n m l o o (o.length : Int) (k : Int) (pk l (o.take k)) = some (po (pe l.length (o.take k) (o.drop k)) (pk l o))
  | 0, k, _, h => by omega
  | m + 1, k, hk, h => by
    rw [DL58_1_succ]
    unfold DF58_1
    by_cases hlt : k < o.length
    · have ih := put_loop n hn l o hl hs m (k + 1) (by omega) (by omega)
      rw [dlt_t hlt, cond_true, idx_nat hlt, wr_succ (by omega), drop_cons hlt]
      simp only [Option.bind_some, pe]
      by_cases h2 : o[k] < 0 ∨ l.length ≤ o[k]
      · rw [if_pos h2]
        by_cases h0 : o[k] < 0
        · simp [h0, po]
        · simp [h0, show (l.length : Int) ≤ o[k] by omega, po]
      rw [if_neg h2, decide_eq_false (show ¬ o[k] < 0 by omega), decide_eq_false (show ¬ o[k] ≥ (l.length : Int) by omega)]
      simp only [beq_self_eq_true, cond_true, Option.bind_some, cond_false]
      rw [show bounds none (some (k : Int)) none o.length = true by simp [bounds]; omega, cond_true, Int.toNat_natCast, contains_eq hn (by simp; omega), Option.bind_some]
      by_cases h6 : o[k] ∈ o.take k
      · simp [h6, po]
      have hj : o[k].toNat < l.length := by omega
      rw [decide_eq_false h6, cond_false, if_neg h6, idx_int (k := o[k].toNat) (by omega) hj, Option.bind_some, lim_dec (by simp [pk]; omega), cond_true]
      rw [take_snoc hlt] at ih
      rw [← ih]
      have e : pk l (o.take k ++ [o[k]]) = pk l (o.take k) ++ [l[o[k].toNat]] := by
        unfold pk
        rw [List.map_append, List.map_cons, List.map_nil, List.getD_eq_getElem?_getD, List.getElem?_eq_getElem hj, Option.getD_some]
      rw [e]
    · rw [dlt_f hlt, cond_false, List.drop_of_length_le (by omega), List.take_of_length_le (by omega)]
      simp [pe, po]
theorem put_eq {n : Nat × Nat} (hn : 1000 ≤ n.1) {o : List Int} (hs : o.length < 800) (l : List (Int × Int)) : D58 n l o = some (put l o) := by
  unfold D58 put
  rw [chk_eq hn, Option.bind_some]
  by_cases h : chk l = 0
  · rw [show (chk l != 0) = false by simp [h], cond_false, if_neg (by simpa using h)]
    have hg := chk_good.1 h
    by_cases hl : o.length = l.length
    · rw [show ((o.length : Int) != l.length) = false by simp [hl], cond_false, if_neg (by simpa using hl)]
      have := put_loop n hn l o (by have := hg.len; omega) hs n.1 0 (by omega) (by omega)
      simpa [pk] using this
    · rw [show ((o.length : Int) != l.length) = true by simpa using (by omega : ((o.length : Int)) ≠ l.length), cond_true, if_pos hl]
  · rw [show (chk l != 0) = true by simpa using h, cond_true, if_pos h]
theorem ord_perm {n : Nat} {o : List Int} (h : Ord n o) : o.Perm ((List.range n).map fun i : Nat => (i : Int)) := by
  refine perm_of_sub h.nodup (fun x hx => ?_) (by simp [h.len])
  have := h.rng x hx
  exact List.mem_map.2 ⟨x.toNat, List.mem_range.2 (by omega), by omega⟩
theorem pk_range (l : List (Int × Int)) : pk l ((List.range l.length).map fun i : Nat => (i : Int)) = l := by
  unfold pk
  rw [List.map_map]
  apply List.ext_getElem
  · simp
  · intro i h1 h2
    simp [h2]
theorem pk_perm {l : List (Int × Int)} {o : List Int} (h : Ord l.length o) : (pk l o).Perm l := by
  have := (ord_perm h).map fun i : Int => l.getD i.toNat (0, 0)
  have e := pk_range l
  unfold pk at e ⊢
  rw [e] at this
  exact this
theorem pk_ok {l : List (Int × Int)} {o : List Int} (hg : Good l) (h : Ord l.length o) : ∀ s ∈ pk l o, Ok s := fun s hs => hg.ok s ((pk_perm h).mem_iff.1 hs)
theorem pk_len (l : List (Int × Int)) (o : List Int) : (pk l o).length = o.length := by simp [pk]
def enp : Int → Int → List (Int × Int) → List Int
  | _, _, [] => []
  | a, b, s :: l => (max (a + s.1) b + s.2) :: enp (a + s.1) (max (a + s.1) b + s.2) l
/-- What sheets need on the first and on the second machine, together. -/
def s1 : List (Int × Int) → Int
  | [] => 0
  | s :: l => s.1 + s1 l
def s2 : List (Int × Int) → Int
  | [] => 0
  | s :: l => s.2 + s2 l
theorem s1_map : ∀ l : List (Int × Int), (l.map (hr 0)).sum = s1 l
  | [] => rfl
  | s :: l => by simp only [List.map_cons, List.sum_cons, s1_map l, s1]; rfl
theorem s2_map : ∀ l : List (Int × Int), (l.map (hr 1)).sum = s2 l
  | [] => rfl
  | s :: l => by simp only [List.map_cons, List.sum_cons, s2_map l, s2]; rfl
theorem s1_append : ∀ l m : List (Int × Int), s1 (l ++ m) = s1 l + s1 m
  | [], m => by simp [s1]
  | s :: l, m => by simp only [List.cons_append, s1, s1_append l m]; omega
theorem s1_bnd : ∀ {l : List (Int × Int)}, (∀ s ∈ l, Ok s) → 0 ≤ s1 l ∧ s1 l ≤ 50 * l.length
  | [], _ => by simp [s1]
  | s :: l, h => by
    have := s1_bnd (l := l) (fun s hs => h s (by simp [hs]))
    have ho := h s (by simp)
    unfold Ok at ho
    simp only [s1, List.length_cons]
    omega
theorem s2_bnd : ∀ {l : List (Int × Int)}, (∀ s ∈ l, Ok s) → 0 ≤ s2 l ∧ s2 l ≤ 50 * l.length
  | [], _ => by simp [s2]
  | s :: l, h => by
    have := s2_bnd (l := l) (fun s hs => h s (by simp [hs]))
    have ho := h s (by simp)
    unfold Ok at ho
    simp only [s2, List.length_cons]
    omega
/-- The sums of the places: up to a place on the first machine, from it on on the second one. -/
def sms : Int → List (Int × Int) → List Int
  | _, [] => []
  | a, s :: l => (a + s.1 + s.2 + s2 l) :: sms (a + s.1) l
/-- The time of sheets in their order. -/
def tm : Int → Int → List (Int × Int) → Int
  | _, b, [] => b
  | a, b, s :: l => tm (a + s.1) (max (a + s.1) b + s.2) l
theorem sms_len : ∀ (l : List (Int × Int)) (a : Int), (sms a l).length = l.length
  | [], _ => rfl
  | s :: l, a => by simp only [sms, List.length_cons, sms_len l]
theorem tm_sms : ∀ (l : List (Int × Int)) (a b : Int), tm a b l = (sms a l).foldl max (b + s2 l)
  | [], a, b => by simp [tm, sms, s2]
  | s :: l, a, b => by
    simp only [tm, sms, s2, List.foldl_cons]
    rw [tm_sms l]
    congr 1
    omega
theorem tm_cons {s : Int × Int} {l : List (Int × Int)} (hs : 0 ≤ s.1) : tm 0 0 (s :: l) = (sms s.1 l).foldl max (s.1 + s.2 + s2 l) := by
  rw [tm_sms]
  simp only [sms, s2, List.foldl_cons, Int.zero_add]
  congr 1
  omega
theorem sms_get : ∀ {l : List (Int × Int)} {a : Int} {k : Nat} (h : k < l.length), (sms a l)[k]'(by rw [sms_len]; exact h) = a + s1 (l.take (k + 1)) + s2 (l.drop k)
  | [], a, k, h => by simp at h
  | s :: l, a, 0, h => by simp [sms, s1, s2]; omega
  | s :: l, a, k + 1, h => by
    simp only [sms, List.getElem_cons_succ, List.take_succ_cons, List.drop_succ_cons, s1]
    rw [sms_get (by simp at h; omega)]
    omega
theorem sums_loop (n : Nat × Nat) (hn : 1000 ≤ n.1) (l : List (Int × Int)) (hs : l.length < 100) (hb : ∀ s ∈ l, Ok s) : ∀ (m k : Nat), k ≤ l.length → l.length - k < m →
    DL66_1 n m l (l.length : Int) (k : Int) ((sms 0 l).take k) = some (sms 0 l)
  | 0, k, _, h => by omega
  | m + 1, k, hk, h => by
    rw [DL66_1_succ]
    unfold DF66_1
    by_cases hlt : k < l.length
    · have ih := sums_loop n hn l hs hb m (k + 1) (by omega) (by omega)
      have b1 : bounds none (some (((k + 1 : Nat) : Int))) none l.length = true := by simp [bounds]; omega
      have b2 : bounds (some (k : Int)) none none l.length = true := by simp [bounds]; omega
      have hok : ∀ (mc : Int) (x : Int × Int), Ok x → 0 ≤ hr mc x ∧ hr mc x ≤ 1000 := by
        intro mc x h
        unfold Ok at h
        unfold hr
        split <;> omega
      have t1 : D63 n ((l.take (k + 1)).map (hr 0)) = some (s1 (l.take (k + 1))) := by
        rw [total_eq hn (by simp; omega) (fun x hx => ?_), s1_map]
        obtain ⟨y, hy, e⟩ := List.mem_map.1 hx
        rw [← e]
        exact hok 0 y (hb y (List.mem_of_mem_take hy))
      have t2 : D63 n ((l.drop k).map (hr 1)) = some (s2 (l.drop k)) := by
        rw [total_eq hn (by simp; omega) (fun x hx => ?_), s2_map]
        obtain ⟨y, hy, e⟩ := List.mem_map.1 hx
        rw [← e]
        exact hok 1 y (hb y (List.mem_of_mem_drop hy))
      have c1 := s1_bnd (l := l.take (k + 1)) (fun s h => hb s (List.mem_of_mem_take h))
      have c2 := s2_bnd (l := l.drop k) (fun s h => hb s (List.mem_of_mem_drop h))
      rw [List.length_take] at c1
      rw [List.length_drop] at c2
      rw [dlt_t hlt, cond_true, wr_succ (by omega), b1, b2, Int.toNat_natCast, Int.toNat_natCast, cond_true, all_eq hn (.inl rfl) (by simp; omega), Option.bind_some, t1, Option.bind_some, cond_true, all_eq hn (.inr rfl) (by simp; omega), Option.bind_some, t2, Option.bind_some,
        lim_dec (by simp [sms_len]; omega), cond_true, wr_ok (by omega) (by omega), ← ih, take_snoc (l := sms 0 l) (by rw [sms_len]; exact hlt), sms_get hlt, Int.zero_add]
    · rw [dlt_f hlt, cond_false, List.take_of_length_le (by rw [sms_len]; omega)]
theorem sums_eq {n : Nat × Nat} (hn : 1000 ≤ n.1) {l : List (Int × Int)} (hs : l.length < 100) (hb : ∀ s ∈ l, Ok s) : D66 n l = some (sms 0 l) := by
  unfold D66
  exact sums_loop n hn l hs hb n.1 0 (by omega) (by omega)
theorem time_eq {n : Nat × Nat} (hn : 1000 ≤ n.1) {l : List (Int × Int)} (h0 : 0 < l.length) (hs : l.length < 100) (hb : ∀ s ∈ l, Ok s) : D61 n l = some (tm 0 0 l) := by
  unfold D61
  rw [sums_eq hn hs hb, Option.bind_some]
  match l, h0 with
  | s :: l, _ =>
    have ho := hb s (by simp)
    unfold Ok at ho
    rw [tm_cons ho.1]
    simp only [sms, Int.zero_add]
    rw [show inB 0 ((s.1 + s.2 + s2 l) :: sms s.1 l).length = true from inB_nat (k := 0) (by simp), cond_true]
    rw [show idx ((s.1 + s.2 + s2 l) :: sms s.1 l) 0 = some (s.1 + s.2 + s2 l) from rfl, Option.bind_some]
    rw [show bounds (some 1) none none ((s.1 + s.2 + s2 l) :: sms s.1 l).length = true by simp [bounds]; omega, cond_true]
    simp only [Int.toNat_one, Nat.zero_add, List.drop_succ_cons, List.drop_zero, List.length_cons, Nat.add_sub_cancel]
    rw [List.take_of_length_le (Nat.le_refl _), great_eq hn (by rw [sms_len]; simp at hs; omega)]
    rfl
theorem ord_pk {l : List (Int × Int)} {o : List Int} (hg : Good l) (ho : Ord l.length o) : 0 < (pk l o).length ∧ (pk l o).length < 100 := by
  rw [pk_len, ho.len]
  have := hg.pos
  have := hg.len
  omega
theorem foldl_max_mem : ∀ (l : List Int) (a : Int), l.foldl max a = a ∨ l.foldl max a ∈ l
  | [], a => .inl rfl
  | x :: l, a => by
    rw [List.foldl_cons]
    rcases foldl_max_mem l (max a x) with h | h
    · by_cases e : a ≤ x
      · rw [h, Int.max_eq_right e]; exact .inr (by simp)
      · rw [h, Int.max_eq_left (by omega)]; exact .inl rfl
    · exact .inr (List.mem_cons_of_mem _ h)
theorem foldl_max_ge : ∀ (l : List Int) (a : Int), a ≤ l.foldl max a ∧ ∀ x ∈ l, x ≤ l.foldl max a
  | [], a => ⟨Int.le_refl _, fun x h => by simp at h⟩
  | y :: l, a => by
    rw [List.foldl_cons]
    obtain ⟨h1, h2⟩ := foldl_max_ge l (max a y)
    refine ⟨by omega, fun x hx => ?_⟩
    rcases List.mem_cons.1 hx with e | hx
    · subst e; omega
    · exact h2 x hx
/-- The time is one of the sums, and none is greater. -/
theorem tm_mem {l : List (Int × Int)} (h0 : 0 < l.length) (hb : ∀ s ∈ l, Ok s) : tm 0 0 l ∈ sms 0 l := by
  match l, h0 with
  | s :: l, _ =>
    have ho := hb s (by simp)
    unfold Ok at ho
    rw [tm_cons ho.1]
    simp only [sms, Int.zero_add]
    rcases foldl_max_mem (sms s.1 l) (s.1 + s.2 + s2 l) with h | h
    · rw [h]; simp
    · exact List.mem_cons_of_mem _ h
theorem tm_bnd {l : List (Int × Int)} (hb : ∀ s ∈ l, Ok s) : 0 ≤ tm 0 0 l ∧ tm 0 0 l ≤ 100 * l.length := by
  by_cases h0 : 0 < l.length
  · obtain ⟨k, hk, e⟩ := List.getElem_of_mem (tm_mem h0 hb)
    rw [sms_len] at hk
    rw [sms_get hk] at e
    have c1 := s1_bnd (l := l.take (k + 1)) (fun s h => hb s (List.mem_of_mem_take h))
    have c2 := s2_bnd (l := l.drop k) (fun s h => hb s (List.mem_of_mem_drop h))
    rw [List.length_take] at c1
    rw [List.length_drop] at c2
    omega
  · rw [List.length_eq_zero_iff.1 (by omega : l.length = 0)]
    simp [tm]
/-- What a sheet adds to the bound of a machine and hours. -/
def ct (m : Int) (h : Int) (s : Int × Int) : Int := if hr m s < h then min s.1 s.2 else hr (1 - m) s
def cs (m : Int) (h : Int) : List (Int × Int) → Int
  | [] => 0
  | s :: l => ct m h s + cs m h l
def bnd (l : List (Int × Int)) (m : Int) (h : Int) : Int := h + cs m h l
theorem cs_append (m h : Int) : ∀ l k : List (Int × Int), cs m h (l ++ k) = cs m h l + cs m h k
  | [], k => by simp [cs]
  | s :: l, k => by simp only [List.cons_append, cs, cs_append m h l k]; omega
theorem cs_map (m h : Int) : ∀ l : List (Int × Int), (l.map (ct m h)).sum = cs m h l
  | [] => rfl
  | s :: l => by simp only [List.map_cons, List.sum_cons, cs_map m h l, cs]
theorem cs_perm {m h : Int} {l k : List (Int × Int)} (hp : l.Perm k) : cs m h l = cs m h k := by
  rw [← cs_map, ← cs_map]
  exact sum_perm (hp.map _)
theorem hr0 (s : Int × Int) : hr 0 s = s.1 := rfl
theorem hr1 (s : Int × Int) : hr 1 s = s.2 := rfl
theorem ct0 (h : Int) (s : Int × Int) : ct 0 h s = if s.1 < h then min s.1 s.2 else s.2 := rfl
theorem ct1 (h : Int) (s : Int × Int) : ct 1 h s = if s.2 < h then min s.1 s.2 else s.1 := rfl
theorem cs0_le (h : Int) : ∀ l : List (Int × Int), cs 0 h l ≤ s2 l
  | [] => by simp [cs, s2]
  | s :: l => by
    have := cs0_le h l
    simp only [cs, s2, ct0]
    split <;> omega
theorem cs1_le (h : Int) : ∀ l : List (Int × Int), (∀ s ∈ l, s.2 < h) → cs 1 h l ≤ s2 l
  | [], _ => by simp [cs, s2]
  | s :: l, hl => by
    have := cs1_le h l (fun s hs => hl s (by simp [hs]))
    have := hl s (by simp)
    simp only [cs, s2, ct1]
    split <;> omega
theorem tm_low (a b : Int) (l : List (Int × Int)) : b + s2 l ≤ tm a b l := by
  rw [tm_sms]
  exact (foldl_max_ge _ _).1
theorem weak0 {h : Int} : ∀ (l : List (Int × Int)) (a b : Int), (∃ s ∈ l, h ≤ s.1) → a + h + cs 0 h l ≤ tm a b l
  | [], a, b, hx => by obtain ⟨s, hs, _⟩ := hx; simp at hs
  | s :: l, a, b, hx => by
    simp only [tm, cs, ct0]
    by_cases e : s.1 < h
    · rw [if_pos e]
      have := weak0 (h := h) l (a + s.1) (max (a + s.1) b + s.2) (by
        obtain ⟨t, ht, hh⟩ := hx
        rcases List.mem_cons.1 ht with e' | ht
        · subst e'; omega
        · exact ⟨t, ht, hh⟩)
      omega
    · rw [if_neg e]
      have := tm_low (a + s.1) (max (a + s.1) b + s.2) l
      have := cs0_le h l
      omega
theorem weak1 {h : Int} : ∀ (l : List (Int × Int)) (a b : Int), (∃ s ∈ l, h ≤ s.2) → a + h + cs 1 h l ≤ tm a b l
  | [], a, b, hx => by obtain ⟨s, hs, _⟩ := hx; simp at hs
  | s :: l, a, b, hx => by
    simp only [tm, cs, ct1]
    by_cases e : ∃ t ∈ l, h ≤ t.2
    · have := weak1 (h := h) l (a + s.1) (max (a + s.1) b + s.2) e
      split <;> omega
    · have hl : ∀ t ∈ l, t.2 < h := fun t ht => by
        by_cases c : t.2 < h
        · exact c
        · exact absurd ⟨t, ht, by omega⟩ e
      have hs : h ≤ s.2 := by
        obtain ⟨t, ht, hh⟩ := hx
        rcases List.mem_cons.1 ht with e' | ht
        · subst e'; exact hh
        · have := hl t ht; omega
      rw [if_neg (by omega)]
      have := tm_low (a + s.1) (max (a + s.1) b + s.2) l
      have := cs1_le h l hl
      omega
/-- No bound is greater than the time of any order. -/
theorem weak {l : List (Int × Int)} {m : Int} (hm : m = 0 ∨ m = 1) {s : Int × Int} (hs : s ∈ l) : bnd l m (hr m s) ≤ tm 0 0 l := by
  unfold bnd
  rcases hm with e | e <;> subst e
  · have := weak0 (h := hr 0 s) l 0 0 ⟨s, hs, Int.le_refl _⟩
    omega
  · have := weak1 (h := hr 1 s) l 0 0 ⟨s, hs, Int.le_refl _⟩
    omega
theorem bnd_perm {l k : List (Int × Int)} (m h : Int) (hp : l.Perm k) : bnd l m h = bnd k m h := by
  unfold bnd
  rw [cs_perm hp]
/-- One sheet may stand before another one by the rule. -/
def Bf (s t : Int × Int) : Prop := (s.1 < s.2 ∧ ¬ t.1 < t.2) ∨ (s.1 < s.2 ∧ t.1 < t.2 ∧ s.1 ≤ t.1) ∨ (¬ s.1 < s.2 ∧ ¬ t.1 < t.2 ∧ t.2 ≤ s.2)
theorem cs0_ge_a {h : Int} : ∀ {l : List (Int × Int)}, (∀ s ∈ l, s.1 < s.2 ∧ s.1 ≤ h) → s1 l ≤ cs 0 h l
  | [], _ => by simp [cs, s1]
  | s :: l, hl => by
    have := cs0_ge_a (h := h) (l := l) (fun s hs => hl s (by simp [hs]))
    have := hl s (by simp)
    simp only [cs, s1, ct0]
    split <;> omega
theorem cs0_ge_b {h : Int} : ∀ {l : List (Int × Int)}, (∀ s ∈ l, s.1 < s.2 → h ≤ s.1) → s2 l ≤ cs 0 h l
  | [], _ => by simp [cs, s2]
  | s :: l, hl => by
    have := cs0_ge_b (h := h) (l := l) (fun s hs => hl s (by simp [hs]))
    have := hl s (by simp)
    simp only [cs, s2, ct0]
    split <;> omega
theorem cs1_ge_b {h : Int} : ∀ {l : List (Int × Int)}, (∀ s ∈ l, ¬ s.1 < s.2 ∧ s.2 ≤ h) → s2 l ≤ cs 1 h l
  | [], _ => by simp [cs, s2]
  | s :: l, hl => by
    have := cs1_ge_b (h := h) (l := l) (fun s hs => hl s (by simp [hs]))
    have := hl s (by simp)
    simp only [cs, s2, ct1]
    split <;> omega
theorem cs1_ge_a {h : Int} : ∀ {l : List (Int × Int)}, (∀ s ∈ l, ¬ s.1 < s.2 → h ≤ s.2) → s1 l ≤ cs 1 h l
  | [], _ => by simp [cs, s1]
  | s :: l, hl => by
    have := cs1_ge_a (h := h) (l := l) (fun s hs => hl s (by simp [hs]))
    have := hl s (by simp)
    simp only [cs, s1, ct1]
    split <;> omega
/-- Sheets as the rule has them: one bound is at least the time. -/
theorem strong {l : List (Int × Int)} (h0 : 0 < l.length) (hb : ∀ s ∈ l, Ok s) (hp : l.Pairwise Bf) : ∃ m s, (m = 0 ∨ m = 1) ∧ s ∈ l ∧ tm 0 0 l = bnd l m (hr m s) := by
  obtain ⟨k, hk, e⟩ := List.getElem_of_mem (tm_mem h0 hb)
  rw [sms_len] at hk
  rw [sms_get hk, Int.zero_add] at e
  have hl : l = l.take k ++ l[k] :: l.drop (k + 1) := by rw [← drop_cons hk, List.take_append_drop]
  have hin : l[k] ∈ l := List.getElem_mem hk
  rw [take_snoc hk, drop_cons hk, s1_append] at e
  generalize l.take k = A at hl e
  generalize l.drop (k + 1) = B at hl e
  generalize l[k] = s at hl hin e
  simp only [s1, s2] at e
  have hp' := hp
  rw [hl, List.pairwise_append, List.pairwise_cons] at hp'
  obtain ⟨_, ⟨pB, _⟩, pA⟩ := hp'
  have pA : ∀ t ∈ A, Bf t s := fun t ht => pA t ht s (by simp)
  by_cases f : s.1 < s.2
  · refine ⟨0, s, .inl rfl, hin, Int.le_antisymm ?_ (weak (.inl rfl) hin)⟩
    have c : bnd l 0 (hr 0 s) = s.1 + (cs 0 s.1 A + (s.2 + cs 0 s.1 B)) := by
      rw [hl]
      simp only [bnd, cs_append, cs, ct0, hr0, Int.lt_irrefl, if_false]
    have cA := cs0_ge_a (h := s.1) (l := A) (fun t ht => by have := pA t ht; unfold Bf at this; omega)
    have cB := cs0_ge_b (h := s.1) (l := B) (fun t ht => by have := pB t ht; unfold Bf at this; omega)
    omega
  · refine ⟨1, s, .inr rfl, hin, Int.le_antisymm ?_ (weak (.inr rfl) hin)⟩
    have c : bnd l 1 (hr 1 s) = s.2 + (cs 1 s.2 A + (s.1 + cs 1 s.2 B)) := by
      rw [hl]
      simp only [bnd, cs_append, cs, ct1, hr1, Int.lt_irrefl, if_false]
    have cA := cs1_ge_a (h := s.2) (l := A) (fun t ht => by have := pA t ht; unfold Bf at this; omega)
    have cB := cs1_ge_b (h := s.2) (l := B) (fun t ht => by have := pB t ht; unfold Bf at this; omega)
    omega
end Go.Proofs.Ytnlbhjmbaedadaa
set_option linter.unusedVariables false
set_option linter.unusedSimpArgs false
set_option maxRecDepth 100000
namespace Go.Proofs.Ytnlbhjmbaedadaa
open Go.Vi
/-D 70 -/
/-D 28 -/
end Go.Proofs.Ytnlbhjmbaedadaa
set_option linter.unusedVariables false
set_option linter.unusedSimpArgs false
namespace Go.Proofs.Ytnlbhjmbaedadaa
open Go.Vi
def sh (l : List (Int × Int)) (i : Int) : Int × Int := l.getD i.toNat (0, 0)
theorem idx_sh {l : List (Int × Int)} {i : Int} (h0 : 0 ≤ i) (h1 : i < l.length) : idx l i = some (sh l i) := by
  rw [idx_int (k := i.toNat) (by omega) (by omega)]
  simp [sh, show i.toNat < l.length by omega]
theorem sh_mem {l : List (Int × Int)} {i : Int} (h0 : 0 ≤ i) (h1 : i < l.length) : sh l i ∈ l := by
  unfold sh
  rw [List.getD_eq_getElem?_getD, List.getElem?_eq_getElem (by omega), Option.getD_some]
  exact List.getElem_mem _
/-- A sheet is before another one in the order of the rule. -/
def Bef (l : List (Int × Int)) (i j : Int) : Prop :=
  ((sh l i).1 < (sh l i).2 ∧ ¬ (sh l j).1 < (sh l j).2) ∨ ((sh l i).1 < (sh l i).2 ∧ (sh l j).1 < (sh l j).2 ∧ ((sh l i).1 < (sh l j).1 ∨ (sh l i).1 = (sh l j).1 ∧ i < j)) ∨
  (¬ (sh l i).1 < (sh l i).2 ∧ ¬ (sh l j).1 < (sh l j).2 ∧ ((sh l j).2 < (sh l i).2 ∨ (sh l j).2 = (sh l i).2 ∧ i < j))
instance (l : List (Int × Int)) (i j : Int) : Decidable (Bef l i j) := by unfold Bef; exact inferInstance
theorem Bef.trans {l : List (Int × Int)} {i j k : Int} (h1 : Bef l i j) (h2 : Bef l j k) : Bef l i k := by
  unfold Bef at *
  omega
theorem Bef.bf {l : List (Int × Int)} {i j : Int} (h : Bef l i j) : Bf (sh l i) (sh l j) := by
  unfold Bef at h
  unfold Bf
  omega
/-- Numbers are put into a list that falls, and numbers one after the other. -/
def insR (c : Int → Int → Bool) (x : Int) : List Int → List Int
  | [] => [x]
  | y :: Q => bif c x y then y :: insR c x Q else x :: y :: Q
def srt (c : Int → Int → Bool) : List Int → List Int → List Int
  | Q, [] => Q
  | Q, x :: r => srt c (insR c x Q) r
theorem insR_perm (c : Int → Int → Bool) (x : Int) : ∀ Q, (insR c x Q).Perm (x :: Q)
  | [] => List.Perm.refl _
  | y :: Q => by
    unfold insR
    cases c x y
    · exact List.Perm.refl _
    · exact (List.Perm.cons y (insR_perm c x Q)).trans (List.Perm.swap x y Q)
theorem insR_len (c : Int → Int → Bool) (x : Int) (Q : List Int) : (insR c x Q).length = Q.length + 1 := (insR_perm c x Q).length_eq
theorem srt_perm (c : Int → Int → Bool) : ∀ r Q, (srt c Q r).Perm (r ++ Q)
  | [], Q => List.Perm.refl _
  | x :: r, Q => by
    unfold srt
    refine (srt_perm c r _).trans (((insR_perm c x Q).append_left r).trans ?_)
    exact List.perm_middle
theorem insR_sort {c : Int → Int → Bool} {R : Int → Int → Prop} (ht : ∀ i j k, R i j → R j k → R i k) {x : Int} : ∀ {Q : List Int}, (∀ y ∈ Q, (c x y = true → R x y) ∧ (c x y = false → R y x)) → Q.Pairwise (fun a b => R b a) → (insR c x Q).Pairwise (fun a b => R b a)
  | [], _, _ => by simp [insR]
  | y :: Q, h, hp => by
    rw [List.pairwise_cons] at hp
    unfold insR
    cases e : c x y
    · rw [cond_false]
      have hy := (h y (by simp)).2 e
      refine List.pairwise_cons.2 ⟨fun z hz => ?_, List.pairwise_cons.2 hp⟩
      rcases List.mem_cons.1 hz with e' | hz
      · subst e'; exact hy
      · exact ht _ _ _ (hp.1 z hz) hy
    · rw [cond_true]
      refine List.pairwise_cons.2 ⟨fun z hz => ?_, insR_sort ht (fun y hy => h y (by simp [hy])) hp.2⟩
      rcases List.mem_cons.1 ((insR_perm c x Q).mem_iff.1 hz) with e' | hz
      · subst e'; exact (h y (by simp)).1 e
      · exact hp.1 z hz
theorem srt_sort {c : Int → Int → Bool} {R : Int → Int → Prop} (ht : ∀ i j k, R i j → R j k → R i k) {P : Int → Prop} (hc : ∀ x y, P x → P y → y < x → (c x y = true → R x y) ∧ (c x y = false → R y x)) : ∀ {r Q : List Int}, (∀ x ∈ r, P x) → (∀ x ∈ Q, P x) → (∀ x ∈ r, ∀ y ∈ Q, y < x) → r.Pairwise (· < ·) → Q.Pairwise (fun a b => R b a) → (srt c Q r).Pairwise (fun a b => R b a)
  | [], Q, _, _, _, _, hQ => hQ
  | x :: r, Q, pr, pQ, hlt, hr, hQ => by
    unfold srt
    rw [List.pairwise_cons] at hr
    refine srt_sort ht hc (fun y hy => pr y (by simp [hy])) (fun y hy => ?_) (fun y hy z hz => ?_) hr.2 (insR_sort ht (fun y hy => hc x y (pr x (by simp)) (pQ y hy) (hlt x (by simp) y hy)) hQ)
    · rcases List.mem_cons.1 ((insR_perm c x Q).mem_iff.1 hy) with e | hy
      · subst e; exact pr y (by simp)
      · exact pQ y hy
    · rcases List.mem_cons.1 ((insR_perm c x Q).mem_iff.1 hz) with e | hz
      · subst e; exact hr.1 y hy
      · exact hlt y (by simp [hy]) z hz
theorem idx_at {α : Type} {A r : List α} {y : α} {k : Nat} (h : A.length = k) : idx (A ++ y :: r) (k : Int) = some y := by
  rw [idx_nat (by simp; omega)]
  simp [← h]
theorem set_at {α : Type} {A r : List α} {y z : α} {k : Nat} (h : A.length = k) : (A ++ y :: r).set k z = A ++ z :: r := by
  subst h
  induction A with
  | nil => rfl
  | cons a A ih => simp only [List.cons_append, List.length_cons, List.set_cons_succ, ih]
def cm86 (l : List (Int × Int)) (x y : Int) : Bool := decide ((sh l x).1 < (sh l y).1)
def cm87 (l : List (Int × Int)) (x y : Int) : Bool := decide ((sh l y).2 < (sh l x).2)
theorem cmp86 (n : Nat × Nat) {l : List (Int × Int)} (hb : ∀ s ∈ l, Ok s) {i j : Int} (hi : 0 ≤ i ∧ i < l.length) (hj : 0 ≤ j ∧ j < l.length) : ∃ r : Int, D86 n i j l = some r ∧ decide (r < 0) = cm86 l i j := by
  unfold D86 cm86
  rw [idx_sh hi.1 hi.2, idx_sh hj.1 hj.2]
  have o1 := hb _ (sh_mem hi.1 hi.2)
  have o2 := hb _ (sh_mem hj.1 hj.2)
  unfold Ok at o1 o2
  refine ⟨(sh l i).1 - (sh l j).1, ?_, ?_⟩
  · simp only [Option.bind_some]
    rw [wr_ok (by omega) (by omega)]
  · exact decide_eq_decide.2 (by omega)
theorem cmp87 (n : Nat × Nat) {l : List (Int × Int)} (hb : ∀ s ∈ l, Ok s) {i j : Int} (hi : 0 ≤ i ∧ i < l.length) (hj : 0 ≤ j ∧ j < l.length) : ∃ r : Int, D87 n i j l = some r ∧ decide (r < 0) = cm87 l i j := by
  unfold D87 cm87
  rw [idx_sh hi.1 hi.2, idx_sh hj.1 hj.2]
  have o1 := hb _ (sh_mem hi.1 hi.2)
  have o2 := hb _ (sh_mem hj.1 hj.2)
  unfold Ok at o1 o2
  refine ⟨(sh l j).2 - (sh l i).2, ?_, ?_⟩
  · simp only [Option.bind_some]
    rw [wr_ok (by omega) (by omega)]
  · exact decide_eq_decide.2 (by omega)
theorem in86_loop (n : Nat × Nat) (l : List (Int × Int)) (hb : ∀ s ∈ l, Ok s) (f : Int → Int → Int → List Int → List (Int × Int) → Option R95c86io1001) (b i : Int) (x : Int) (hx : 0 ≤ x ∧ x < l.length) : ∀ (m : Nat) (Q T : List Int), Q.length < m → Q.length < 1000 → (∀ y ∈ Q, 0 ≤ y ∧ y < l.length) →
    DL95c86io1001_2 n f m 0 b i (Q.length : Int) (Q.reverse ++ x :: T) l = f 0 b (wr .i64 (i + 1)) ((insR (cm86 l) x Q).reverse ++ T) l
  | 0, Q, T, h, _, _ => by omega
  | m + 1, [], T, h, _, hQ => by
    rw [DL95c86io1001_2_succ]
    unfold DF95c86io1001_2
    simp [insR]
  | m + 1, y :: Q, T, h, h8, hQ => by
    rw [DL95c86io1001_2_succ]
    unfold DF95c86io1001_2
    rw [List.length_cons] at h h8
    have hy := hQ y (by simp)
    obtain ⟨r, hr, hd⟩ := cmp86 n hb hx hy
    have ih := in86_loop n l hb f b i x hx m Q (y :: T) (by omega) (by omega) (fun z hz => hQ z (by simp [hz]))
    have e : (y :: Q).reverse ++ x :: T = Q.reverse ++ y :: x :: T := by simp
    have w : wr .i64 (((y :: Q).length : Int) - 1) = (Q.length : Int) := by rw [List.length_cons, wr_ok (by omega) (by omega)]; omega
    have a1 : ∀ T' : List Int, idx (Q.reverse ++ y :: x :: T') ((y :: Q).length : Int) = some x := fun T' => by
      have := idx_at (A := Q.reverse ++ [y]) (r := T') (y := x) (k := (y :: Q).length) (by simp)
      simpa using this
    have a2 : ∀ T' : List Int, idx (Q.reverse ++ y :: T') (Q.length : Int) = some y := fun T' => idx_at (by simp)
    have a3 : (Q.reverse ++ y :: x :: T).set (y :: Q).length y = Q.reverse ++ y :: y :: T := by
      have := set_at (A := Q.reverse ++ [y]) (r := T) (y := x) (z := y) (k := (y :: Q).length) (by simp)
      rw [List.append_assoc, List.append_assoc] at this
      exact this
    have a4 : (Q.reverse ++ y :: y :: T).set Q.length x = Q.reverse ++ x :: y :: T := set_at (by simp)
    rw [e]
    rw [decide_eq_true (show (((y :: Q).length : Nat) : Int) > 0 by rw [List.length_cons]; omega), w]
    simp only [beq_self_eq_true, cond_true]
    rw [inB_nat (show (y :: Q).length < (Q.reverse ++ y :: x :: T).length by simp <;> omega), inB_nat (show Q.length < (Q.reverse ++ y :: x :: T).length by simp <;> omega)]
    simp only [cond_true, a1, a2, Option.bind_some, hr, hd]
    unfold insR
    cases cm86 l x y
    · simp only [cond_false]
      congr 1
      simp
    · simp only [cond_true]
      rw [Int.toNat_natCast, Int.toNat_natCast, a3, a2, inB_nat (show Q.length < (Q.reverse ++ y :: y :: T).length by simp <;> omega)]
      simp only [cond_true, Option.bind_some, a4, ih]
      congr 1
      simp
theorem so86_loop (n : Nat × Nat) (hn : 1000 ≤ n.1) (l : List (Int × Int)) (hb : ∀ s ∈ l, Ok s) : ∀ (m : Nat) (r Q : List Int), r.length < m → Q.length + r.length < 900 → (∀ y ∈ Q, 0 ≤ y ∧ y < l.length) → (∀ y ∈ r, 0 ≤ y ∧ y < l.length) →
    DL95c86io1001_1 n m 0 ((Q.length + r.length : Nat) : Int) (Q.length : Int) (Q.reverse ++ r) l = some ((), (srt (cm86 l) Q r).reverse, l, ())
  | 0, r, Q, h, _, _, _ => by omega
  | m + 1, [], Q, h, _, _, _ => by
    rw [DL95c86io1001_1_succ]
    unfold DF95c86io1001_1
    rw [dlt_f (by simp), cond_false]
    simp [srt]
  | m + 1, x :: r, Q, h, h8, hQ, hr => by
    rw [DL95c86io1001_1_succ]
    unfold DF95c86io1001_1
    rw [List.length_cons] at h h8
    have ih := so86_loop n hn l hb m r (insR (cm86 l) x Q) (by omega) (by rw [insR_len]; omega) (fun y hy => by
      rcases List.mem_cons.1 ((insR_perm _ x Q).mem_iff.1 hy) with e | hy
      · subst e; exact hr y (by simp)
      · exact hQ y hy) (fun y hy => hr y (by simp [hy]))
    rw [dlt_t (by simp), cond_true, in86_loop n l hb _ _ _ x (hr x (by simp)) n.1 Q r (by omega) (by omega) hQ, wr_succ (by omega)]
    rw [insR_len] at ih
    rw [show Q.length + 1 + r.length = Q.length + (x :: r).length by rw [List.length_cons]; omega] at ih
    rw [ih]
    rfl
theorem sort86_eq {n : Nat × Nat} (hn : 1000 ≤ n.1) {l : List (Int × Int)} (hb : ∀ s ∈ l, Ok s) {r : List Int} (h7 : r.length ≤ 7) (hr : ∀ y ∈ r, 0 ≤ y ∧ y < l.length) : D85c86io11 n r l = some ((), (srt (cm86 l) [] r).reverse, l, ()) := by
  have h95 : D95c86io1001 n r 0 (r.length : Int) l = some ((), (srt (cm86 l) [] r).reverse, l, ()) := by
    unfold D95c86io1001
    match r, h7, hr with
    | [], _, _ =>
      have : n.1 = (n.1 - 1) + 1 := by omega
      rw [this, DL95c86io1001_1_succ]
      unfold DF95c86io1001_1
      rw [show wr .i64 ((0 : Int) + 1) = 1 by rw [wr_ok (by omega) (by omega)]; omega]
      rfl
    | x :: r, h7, hr =>
      have := so86_loop n hn l hb n.1 r [x] (by simp at h7; omega) (by simp at h7 ⊢; omega) (fun y hy => by rw [List.mem_singleton] at hy; subst hy; exact hr y (by simp)) (fun y hy => hr y (by simp [hy]))
      rw [show wr .i64 ((0 : Int) + 1) = 1 by rw [wr_ok (by omega) (by omega)]; omega]
      simpa [srt, insR, Nat.add_comm] using this
  have hl : (srt (cm86 l) [] r).reverse.length = r.length := by
    rw [List.length_reverse, (srt_perm (cm86 l) r []).length_eq]
    simp
  have h94 : D94c86io101 n r (r.length : Int) l = some ((), (srt (cm86 l) [] r).reverse, l, ()) := by
    unfold D94c86io101
    obtain ⟨k, hk⟩ : ∃ k, n.1 = k + 1 := ⟨n.1 - 1, by omega⟩
    rw [hk, DL94c86io101_1_succ]
    unfold DF94c86io101_1
    rw [decide_eq_false (show ¬ (20 : Int) ≤ (r.length : Int) by omega), cond_false, h95]
    simp only [Option.bind_some]
    rw [show Nat.beq (srt (cm86 l) [] r).reverse.length r.length = true by rw [hl]; exact Nat.beq_refl _, cond_true, hk, DL94c86io101_2_succ]
    unfold DF94c86io101_2
    rw [decide_eq_false (show ¬ (20 : Int) < (r.length : Int) by omega), cond_false]
  unfold D85c86io11
  rw [h94]
  simp only [Option.bind_some]
  rw [show Nat.beq (srt (cm86 l) [] r).reverse.length r.length = true by rw [hl]; exact Nat.beq_refl _, cond_true]
theorem in87_loop (n : Nat × Nat) (l : List (Int × Int)) (hb : ∀ s ∈ l, Ok s) (f : Int → Int → Int → List Int → List (Int × Int) → Option R95c87io1001) (b i : Int) (x : Int) (hx : 0 ≤ x ∧ x < l.length) : ∀ (m : Nat) (Q T : List Int), Q.length < m → Q.length < 1000 → (∀ y ∈ Q, 0 ≤ y ∧ y < l.length) →
    DL95c87io1001_2 n f m 0 b i (Q.length : Int) (Q.reverse ++ x :: T) l = f 0 b (wr .i64 (i + 1)) ((insR (cm87 l) x Q).reverse ++ T) l
  | 0, Q, T, h, _, _ => by omega
  | m + 1, [], T, h, _, hQ => by
    rw [DL95c87io1001_2_succ]
    unfold DF95c87io1001_2
    simp [insR]
  | m + 1, y :: Q, T, h, h8, hQ => by
    rw [DL95c87io1001_2_succ]
    unfold DF95c87io1001_2
    rw [List.length_cons] at h h8
    have hy := hQ y (by simp)
    obtain ⟨r, hr, hd⟩ := cmp87 n hb hx hy
    have ih := in87_loop n l hb f b i x hx m Q (y :: T) (by omega) (by omega) (fun z hz => hQ z (by simp [hz]))
    have e : (y :: Q).reverse ++ x :: T = Q.reverse ++ y :: x :: T := by simp
    have w : wr .i64 (((y :: Q).length : Int) - 1) = (Q.length : Int) := by rw [List.length_cons, wr_ok (by omega) (by omega)]; omega
    have a1 : ∀ T' : List Int, idx (Q.reverse ++ y :: x :: T') ((y :: Q).length : Int) = some x := fun T' => by
      have := idx_at (A := Q.reverse ++ [y]) (r := T') (y := x) (k := (y :: Q).length) (by simp)
      simpa using this
    have a2 : ∀ T' : List Int, idx (Q.reverse ++ y :: T') (Q.length : Int) = some y := fun T' => idx_at (by simp)
    have a3 : (Q.reverse ++ y :: x :: T).set (y :: Q).length y = Q.reverse ++ y :: y :: T := by
      have := set_at (A := Q.reverse ++ [y]) (r := T) (y := x) (z := y) (k := (y :: Q).length) (by simp)
      rw [List.append_assoc, List.append_assoc] at this
      exact this
    have a4 : (Q.reverse ++ y :: y :: T).set Q.length x = Q.reverse ++ x :: y :: T := set_at (by simp)
    rw [e]
    rw [decide_eq_true (show (((y :: Q).length : Nat) : Int) > 0 by rw [List.length_cons]; omega), w]
    simp only [beq_self_eq_true, cond_true]
    rw [inB_nat (show (y :: Q).length < (Q.reverse ++ y :: x :: T).length by simp <;> omega), inB_nat (show Q.length < (Q.reverse ++ y :: x :: T).length by simp <;> omega)]
    simp only [cond_true, a1, a2, Option.bind_some, hr, hd]
    unfold insR
    cases cm87 l x y
    · simp only [cond_false]
      congr 1
      simp
    · simp only [cond_true]
      rw [Int.toNat_natCast, Int.toNat_natCast, a3, a2, inB_nat (show Q.length < (Q.reverse ++ y :: y :: T).length by simp <;> omega)]
      simp only [cond_true, Option.bind_some, a4, ih]
      congr 1
      simp
theorem so87_loop (n : Nat × Nat) (hn : 1000 ≤ n.1) (l : List (Int × Int)) (hb : ∀ s ∈ l, Ok s) : ∀ (m : Nat) (r Q : List Int), r.length < m → Q.length + r.length < 900 → (∀ y ∈ Q, 0 ≤ y ∧ y < l.length) → (∀ y ∈ r, 0 ≤ y ∧ y < l.length) →
    DL95c87io1001_1 n m 0 ((Q.length + r.length : Nat) : Int) (Q.length : Int) (Q.reverse ++ r) l = some ((), (srt (cm87 l) Q r).reverse, l, ())
  | 0, r, Q, h, _, _, _ => by omega
  | m + 1, [], Q, h, _, _, _ => by
    rw [DL95c87io1001_1_succ]
    unfold DF95c87io1001_1
    rw [dlt_f (by simp), cond_false]
    simp [srt]
  | m + 1, x :: r, Q, h, h8, hQ, hr => by
    rw [DL95c87io1001_1_succ]
    unfold DF95c87io1001_1
    rw [List.length_cons] at h h8
    have ih := so87_loop n hn l hb m r (insR (cm87 l) x Q) (by omega) (by rw [insR_len]; omega) (fun y hy => by
      rcases List.mem_cons.1 ((insR_perm _ x Q).mem_iff.1 hy) with e | hy
      · subst e; exact hr y (by simp)
      · exact hQ y hy) (fun y hy => hr y (by simp [hy]))
    rw [dlt_t (by simp), cond_true, in87_loop n l hb _ _ _ x (hr x (by simp)) n.1 Q r (by omega) (by omega) hQ, wr_succ (by omega)]
    rw [insR_len] at ih
    rw [show Q.length + 1 + r.length = Q.length + (x :: r).length by rw [List.length_cons]; omega] at ih
    rw [ih]
    rfl
theorem sort87_eq {n : Nat × Nat} (hn : 1000 ≤ n.1) {l : List (Int × Int)} (hb : ∀ s ∈ l, Ok s) {r : List Int} (h7 : r.length ≤ 7) (hr : ∀ y ∈ r, 0 ≤ y ∧ y < l.length) : D85c87io11 n r l = some ((), (srt (cm87 l) [] r).reverse, l, ()) := by
  have h95 : D95c87io1001 n r 0 (r.length : Int) l = some ((), (srt (cm87 l) [] r).reverse, l, ()) := by
    unfold D95c87io1001
    match r, h7, hr with
    | [], _, _ =>
      have : n.1 = (n.1 - 1) + 1 := by omega
      rw [this, DL95c87io1001_1_succ]
      unfold DF95c87io1001_1
      rw [show wr .i64 ((0 : Int) + 1) = 1 by rw [wr_ok (by omega) (by omega)]; omega]
      rfl
    | x :: r, h7, hr =>
      have := so87_loop n hn l hb n.1 r [x] (by simp at h7; omega) (by simp at h7 ⊢; omega) (fun y hy => by rw [List.mem_singleton] at hy; subst hy; exact hr y (by simp)) (fun y hy => hr y (by simp [hy]))
      rw [show wr .i64 ((0 : Int) + 1) = 1 by rw [wr_ok (by omega) (by omega)]; omega]
      simpa [srt, insR, Nat.add_comm] using this
  have hl : (srt (cm87 l) [] r).reverse.length = r.length := by
    rw [List.length_reverse, (srt_perm (cm87 l) r []).length_eq]
    simp
  have h94 : D94c87io101 n r (r.length : Int) l = some ((), (srt (cm87 l) [] r).reverse, l, ()) := by
    unfold D94c87io101
    obtain ⟨k, hk⟩ : ∃ k, n.1 = k + 1 := ⟨n.1 - 1, by omega⟩
    rw [hk, DL94c87io101_1_succ]
    unfold DF94c87io101_1
    rw [decide_eq_false (show ¬ (20 : Int) ≤ (r.length : Int) by omega), cond_false, h95]
    simp only [Option.bind_some]
    rw [show Nat.beq (srt (cm87 l) [] r).reverse.length r.length = true by rw [hl]; exact Nat.beq_refl _, cond_true, hk, DL94c87io101_2_succ]
    unfold DF94c87io101_2
    rw [decide_eq_false (show ¬ (20 : Int) < (r.length : Int) by omega), cond_false]
  unfold D85c87io11
  rw [h94]
  simp only [Option.bind_some]
  rw [show Nat.beq (srt (cm87 l) [] r).reverse.length r.length = true by rw [hl]; exact Nat.beq_refl _, cond_true]
def ix (n : Nat) : List Int := (List.range n).map fun i : Nat => (i : Int)
theorem ix_succ (n : Nat) : ix (n + 1) = ix n ++ [(n : Int)] := by simp [ix, List.range_succ]
theorem ix_mem {n : Nat} {i : Int} : i ∈ ix n ↔ 0 ≤ i ∧ i < n := by
  unfold ix
  rw [List.mem_map]
  constructor
  · rintro ⟨k, hk, e⟩
    rw [List.mem_range] at hk
    omega
  · intro h
    exact ⟨i.toNat, List.mem_range.2 (by omega), by omega⟩
theorem ix_lt (n : Nat) : (ix n).Pairwise (· < ·) := by
  unfold ix
  rw [List.pairwise_map]
  exact List.Pairwise.imp (fun h => by omega) (List.pairwise_lt_range (n := n))
theorem ix_len (n : Nat) : (ix n).length = n := by simp [ix]
def fa (l : List (Int × Int)) (i : Int) : Bool := decide ((sh l i).1 < (sh l i).2)
def frt (l : List (Int × Int)) (k : Nat) : List Int := (ix k).filter (fa l)
def bck (l : List (Int × Int)) (k : Nat) : List Int := (ix k).filter fun i => !fa l i
/-- The order of the rule. -/
def rl (l : List (Int × Int)) : List Int := (srt (cm86 l) [] (frt l l.length)).reverse ++ (srt (cm87 l) [] (bck l l.length)).reverse
theorem frt_len (l : List (Int × Int)) (k : Nat) : (frt l k).length ≤ k := by
  have := List.length_filter_le (fa l) (ix k)
  rw [ix_len] at this
  exact this
theorem bck_len (l : List (Int × Int)) (k : Nat) : (bck l k).length ≤ k := by
  have := List.length_filter_le (fun i => !fa l i) (ix k)
  rw [ix_len] at this
  exact this
theorem rl_perm (l : List (Int × Int)) : (rl l).Perm (ix l.length) := by
  unfold rl
  have h1 := (List.reverse_perm (srt (cm86 l) [] (frt l l.length))).trans (srt_perm (cm86 l) (frt l l.length) [])
  have h2 := (List.reverse_perm (srt (cm87 l) [] (bck l l.length))).trans (srt_perm (cm87 l) (bck l l.length) [])
  rw [List.append_nil] at h1 h2
  exact (h1.append h2).trans (List.filter_append_perm (fa l) (ix l.length))
theorem rl_ord (l : List (Int × Int)) : Ord l.length (rl l) := by
  have h := rl_perm l
  refine ⟨by rw [h.length_eq, ix_len], fun i hi => ix_mem.1 (h.mem_iff.1 hi), ?_⟩
  refine h.symm.nodup ?_
  exact List.Pairwise.imp (fun h => by omega) (ix_lt l.length)
theorem rl_sort (l : List (Int × Int)) : (rl l).Pairwise (Bef l) := by
  unfold rl
  have p1 := srt_perm (cm86 l) (frt l l.length) []
  have p2 := srt_perm (cm87 l) (bck l l.length) []
  rw [List.append_nil] at p1 p2
  have ff : ∀ x ∈ frt l l.length, fa l x = true := fun x hx => (List.mem_filter.1 hx).2
  have fb : ∀ x ∈ bck l l.length, fa l x = false := fun x hx => by simpa using (List.mem_filter.1 hx).2
  refine List.pairwise_append.2 ⟨List.pairwise_reverse.2 ?_, List.pairwise_reverse.2 ?_, fun a ha b hb => ?_⟩
  · refine srt_sort (R := Bef l) (fun i j k => Bef.trans) (P := fun x => fa l x = true) (fun x y hx hy hlt => ?_) ff (fun x hx => by simp at hx) (fun x hx y hy => by simp at hy) (List.Pairwise.filter _ (ix_lt _)) List.Pairwise.nil
    unfold fa at hx hy
    unfold cm86 Bef
    rw [decide_eq_true_iff] at hx hy
    rw [decide_eq_true_iff, decide_eq_false_iff_not]
    omega
  · refine srt_sort (R := Bef l) (fun i j k => Bef.trans) (P := fun x => fa l x = false) (fun x y hx hy hlt => ?_) fb (fun x hx => by simp at hx) (fun x hx y hy => by simp at hy) (List.Pairwise.filter _ (ix_lt _)) List.Pairwise.nil
    unfold fa at hx hy
    unfold cm87 Bef
    rw [decide_eq_false_iff_not] at hx hy
    rw [decide_eq_true_iff, decide_eq_false_iff_not]
    omega
  · rw [List.mem_reverse] at ha hb
    have h1 := ff a (p1.mem_iff.1 ha)
    have h2 := fb b (p2.mem_iff.1 hb)
    unfold fa at h1 h2
    rw [decide_eq_true_iff] at h1
    rw [decide_eq_false_iff_not] at h2
    exact .inl ⟨h1, h2⟩
theorem rule_loop (n : Nat × Nat) (hn : 1000 ≤ n.1) (l : List (Int × Int)) (hl : l.length ≤ 7) (hb : ∀ s ∈ l, Ok s) : ∀ (m k : Nat), k ≤ l.length → l.length - k < m →
    DL69_1 n m l (l.length : Int) (k : Int) l (frt l k) (bck l k) = some (rl l)
  | 0, k, _, h => by omega
  | m + 1, k, hk, h => by
    rw [DL69_1_succ]
    unfold DF69_1
    by_cases hlt : k < l.length
    · have ih := rule_loop n hn l hl hb m (k + 1) (by omega) (by omega)
      have hj2 : ∀ a b, DL69_2 n (DL69_1 n m) l (l.length : Int) (k : Int) l a b = DL69_1 n m l (l.length : Int) (wr .i64 ((k : Int) + 1)) l a b := fun a b => rfl
      have e1 := frt_len l k
      have e2 := bck_len l k
      rw [dlt_t hlt, cond_true, idx_nat hlt, Option.bind_some, hj2, hj2, wr_succ (by omega), lim_dec (by omega), lim_dec (by omega), cond_true, cond_true, ← ih]
      have hsh : sh l (k : Int) = l[k] := by simp [sh, hlt]
      by_cases f : l[k].1 < l[k].2
      · rw [decide_eq_true f, cond_true]
        have hf : fa l (k : Int) = true := by unfold fa; rw [hsh]; exact decide_eq_true f
        unfold frt bck
        rw [ix_succ, List.filter_append, List.filter_append]
        simp [hf]
      · rw [decide_eq_false f, cond_false]
        have hf : fa l (k : Int) = false := by unfold fa; rw [hsh]; exact decide_eq_false f
        unfold frt bck
        rw [ix_succ, List.filter_append, List.filter_append]
        simp [hf]
    · have : k = l.length := by omega
      subst this
      have e1 := frt_len l l.length
      have e2 := bck_len l l.length
      have p1 := (srt_perm (cm86 l) (frt l l.length) []).length_eq
      have p2 := (srt_perm (cm87 l) (bck l l.length) []).length_eq
      rw [List.append_nil] at p1 p2
      rw [dlt_f (by omega), cond_false, sort86_eq (r := frt l l.length) hn hb (by omega) (fun y hy => ix_mem.1 (List.mem_filter.1 hy).1), Option.bind_some]
      simp only []
      rw [show Nat.beq (srt (cm86 l) [] (frt l l.length)).reverse.length (frt l l.length).length = true by rw [List.length_reverse, p1]; exact Nat.beq_refl _, cond_true, sort87_eq (r := bck l l.length) hn hb (by omega) (fun y hy => ix_mem.1 (List.mem_filter.1 hy).1), Option.bind_some]
      simp only []
      rw [show Nat.beq (srt (cm87 l) [] (bck l l.length)).reverse.length (bck l l.length).length = true by rw [List.length_reverse, p2]; exact Nat.beq_refl _, cond_true, decide_eq_true (by simp [lim, p1, p2]; omega), cond_true]
      rfl
theorem rule_eq {n : Nat × Nat} (hn : 1000 ≤ n.1) {l : List (Int × Int)} (hg : Good l) : D69 n l = some (rl l) := by
  unfold D69
  exact rule_loop n hn l hg.len hg.ok n.1 0 (by omega) (by have := hg.len; omega)
def ruleS (l : List (Int × Int)) : List Int × Int := if chk l ≠ 0 then ([], chk l) else (rl l, 0)
theorem Rule_eq {n : Nat × Nat} (hn : 1000 ≤ n.1) (l : List (Int × Int)) : D27 n l = some (ruleS l) := by
  unfold D27 ruleS
  rw [chk_eq hn, Option.bind_some]
  by_cases h : chk l = 0
  · rw [show (chk l != 0) = false by simp [h], cond_false, if_neg (by simpa using h), rule_eq hn (chk_good.1 h)]
    rfl
  · rw [show (chk l != 0) = true by simpa using h, cond_true, if_pos h]
/-- How many of the first k are before one. -/
def cnt (l : List (Int × Int)) (i : Int) (k : Nat) : Nat := ((ix k).filter fun j => decide (j ≠ i) && decide (Bef l j i)).length
/-- The sheets of the rule's order, and their time: that of the best orders. -/
theorem rl_bf (l : List (Int × Int)) : (pk l (rl l)).Pairwise Bf := by
  unfold pk
  rw [List.pairwise_map]
  exact List.Pairwise.imp (fun h => h.bf) (rl_sort l)
theorem johnson {l : List (Int × Int)} (hg : Good l) : ∃ m s, (m = 0 ∨ m = 1) ∧ s ∈ l ∧ tm 0 0 (pk l (rl l)) = bnd l m (hr m s) := by
  have ho := rl_ord l
  obtain ⟨m, s, hm, hs, e⟩ := strong (ord_pk hg ho).1 (pk_ok hg ho) (rl_bf l)
  exact ⟨m, s, hm, (pk_perm ho).mem_iff.1 hs, by rw [e, bnd_perm m (hr m s) (pk_perm ho)]⟩
theorem bnd_le {l : List (Int × Int)} {o : List Int} (ho : Ord l.length o) {m : Int} (hm : m = 0 ∨ m = 1) {s : Int × Int} (hs : s ∈ l) : bnd l m (hr m s) ≤ tm 0 0 (pk l o) := by
  rw [← bnd_perm m (hr m s) (pk_perm ho)]
  exact weak hm ((pk_perm ho).mem_iff.2 hs)
theorem rl_best {l : List (Int × Int)} (hg : Good l) {o : List Int} (ho : Ord l.length o) : tm 0 0 (pk l (rl l)) ≤ tm 0 0 (pk l o) := by
  obtain ⟨m, s, hm, hs, e⟩ := johnson hg
  rw [e]
  exact bnd_le ho hm hs
end Go.Proofs.Ytnlbhjmbaedadaa
set_option linter.unusedVariables false
set_option linter.unusedSimpArgs false
set_option maxRecDepth 100000
namespace Go.Proofs.Ytnlbhjmbaedadaa
open Go.Vi
/-D 34 -/
/-D 91 -/
/-D 76 -/
/-D 36 -/
/-D 38 -/
/-D 40 -/
/-D 42 -/
end Go.Proofs.Ytnlbhjmbaedadaa
set_option linter.unusedVariables false
set_option linter.unusedSimpArgs false
namespace Go.Proofs.Ytnlbhjmbaedadaa
open Go.Vi
theorem min_if (a b : Int) : (if b < a then b else a) = min a b := by
  by_cases h : b < a
  · rw [if_pos h, Int.min_eq_right (by omega)]
  · rw [if_neg h, Int.min_eq_left (by omega)]
theorem ct_bnd {m h : Int} {s : Int × Int} (hs : Ok s) : 0 ≤ ct m h s ∧ ct m h s ≤ 50 := by
  unfold Ok at hs
  unfold ct hr
  split <;> (try split) <;> omega
theorem cs_bnd {m h : Int} : ∀ {l : List (Int × Int)}, (∀ s ∈ l, Ok s) → 0 ≤ cs m h l ∧ cs m h l ≤ 50 * l.length
  | [], _ => by simp [cs]
  | s :: l, hl => by
    have := cs_bnd (m := m) (h := h) (l := l) (fun s hs => hl s (by simp [hs]))
    have := ct_bnd (m := m) (h := h) (hl s (by simp))
    simp only [cs, List.length_cons]
    omega
theorem hr_bnd {m : Int} {s : Int × Int} (hs : Ok s) : 0 ≤ hr m s ∧ hr m s ≤ 50 := by
  unfold Ok at hs
  unfold hr
  split <;> omega
theorem bound_loop (n : Nat × Nat) (l : List (Int × Int)) (hl : l.length ≤ 7) (hb : ∀ s ∈ l, Ok s) (mc : Int) (hm : mc = 0 ∨ mc = 1) (j : Int) (hj : 0 ≤ j ∧ j < l.length) : ∀ (m k : Nat) (v : Int), k ≤ l.length → l.length - k < m → 0 ≤ v → v ≤ 1000 + 50 * k →
    DL75_1 n m j v (l.length : Int) (k : Int) (l.map (hr mc)) (l.map (hr (1 - mc))) = some (v + cs mc (hr mc (sh l j)) (l.drop k))
  | 0, k, v, _, h, _, _ => by omega
  | m + 1, k, v, hk, h, v0, v1 => by
    rw [DL75_1_succ]
    unfold DF75_1
    by_cases hlt : k < l.length
    · have ho := hb _ (List.getElem_mem hlt)
      have hcb := ct_bnd (m := mc) (h := hr mc (sh l j)) ho
      have ih := bound_loop n l hl hb mc hm j hj m (k + 1) (v + ct mc (hr mc (sh l j)) l[k]) (by omega) (by omega) (by omega) (by omega)
      have hj2 : ∀ w : Int, DL75_2 n (DL75_1 n m) j w (l.length : Int) (k : Int) (l.map (hr mc)) (l.map (hr (1 - mc))) = DL75_1 n m j w (l.length : Int) (wr .i64 ((k : Int) + 1)) (l.map (hr mc)) (l.map (hr (1 - mc))) := fun w => rfl
      have ej : idx (l.map (hr mc)) j = some (hr mc (sh l j)) := by
        rw [idx_int (k := j.toNat) (by omega) (by simp; omega)]
        simp [sh, show j.toNat < l.length by omega]
      have ij : inB j (l.map (hr mc)).length = true := by
        rw [show j = ((j.toNat : Nat) : Int) by omega]
        exact inB_nat (by simp; omega)
      rw [dlt_t hlt, cond_true, inB_nat (by simpa using hlt), cond_true, idx_nat (by simpa using hlt), Option.bind_some, ij, cond_true, ej, Option.bind_some, inB_nat (by simpa using hlt), cond_true, idx_nat (by simpa using hlt), Option.bind_some, cond_true, Option.bind_some, hj2, hj2, wr_succ (by omega), drop_cons hlt]
      simp only [List.getElem_map, cs]
      by_cases c : hr mc l[k] < hr mc (sh l j)
      · have e : ct mc (hr mc (sh l j)) l[k] = min (hr mc l[k]) (hr (1 - mc) l[k]) := by
          unfold ct
          rw [if_pos c]
          rcases hm with e | e <;> subst e
          · rfl
          · rw [Int.min_comm]; rfl
        rw [decide_eq_true c, cond_true, min_if, ← e, wr_ok (by omega) (by omega), ih]
        congr 1
        omega
      · have e : ct mc (hr mc (sh l j)) l[k] = hr (1 - mc) l[k] := by
          unfold ct
          rw [if_neg c]
        rw [decide_eq_false c, cond_false, ← e, wr_ok (by omega) (by omega), ih]
        congr 1
        omega
    · rw [dlt_f hlt, cond_false, List.drop_of_length_le (by omega)]
      simp [cs]
def bd (l : List (Int × Int)) (m k : Int) : Int := bnd l m (hr m (sh l k))
theorem bd_bnd {l : List (Int × Int)} (hg : Good l) {m k : Int} (hk : 0 ≤ k ∧ k < l.length) : 0 ≤ bd l m k ∧ bd l m k ≤ 1000 := by
  have h1 := cs_bnd (m := m) (h := hr m (sh l k)) hg.ok
  have h2 := hr_bnd (m := m) (hg.ok _ (sh_mem hk.1 hk.2))
  have := hg.len
  unfold bd bnd
  omega
theorem bound_eq {n : Nat × Nat} (hn : 1000 ≤ n.1) {l : List (Int × Int)} (hg : Good l) {m k : Int} (hm : m = 0 ∨ m = 1) (hk : 0 ≤ k ∧ k < l.length) : D75 n l m k = some (bd l m k) := by
  have h7 := hg.len
  have ej : idx (l.map (hr m)) k = some (hr m (sh l k)) := by
    rw [idx_int (k := k.toNat) (by omega) (by simp; omega)]
    simp [sh, show k.toNat < l.length by omega]
  have ij : inB k (l.map (hr m)).length = true := by
    rw [show k = ((k.toNat : Nat) : Int) by omega]
    exact inB_nat (by simp; omega)
  have hb := hr_bnd (m := m) (hg.ok _ (sh_mem hk.1 hk.2))
  unfold D75
  rw [wr_ok (by omega) (by omega), all_eq hn hm (by omega), Option.bind_some, all_eq hn (by omega) (by omega), Option.bind_some, ij, cond_true, ej, Option.bind_some]
  have := bound_loop n l h7 hg.ok m hm k hk n.1 0 (hr m (sh l k)) (by omega) (by omega) (by omega) (by omega)
  simpa [bd, bnd] using this
def boundS (l : List (Int × Int)) (m k : Int) : Int × Int := if chk l ≠ 0 then (0, chk l) else if (m = 0 ∨ m = 1) ∧ 0 ≤ k ∧ k < l.length then (bd l m k, 0) else (0, 2)
theorem Bound_eq {n : Nat × Nat} (hn : 1000 ≤ n.1) (l : List (Int × Int)) (m k : Int) : D35 n l m k = some (boundS l m k) := by
  unfold D35 boundS
  rw [chk_eq hn, Option.bind_some]
  by_cases h : chk l = 0
  · rw [show (chk l != 0) = false by simp [h], cond_false, if_neg (by simpa using h)]
    by_cases c : (m = 0 ∨ m = 1) ∧ 0 ≤ k ∧ k < l.length
    · rw [if_pos c, decide_eq_false (show ¬ m < 0 by omega), decide_eq_false (show ¬ m > 1 by omega), decide_eq_false (show ¬ k < 0 by omega), decide_eq_false (show ¬ k ≥ (l.length : Int) by omega)]
      simp only [beq_self_eq_true, cond_true, cond_false, Option.bind_some, bound_eq hn (chk_good.1 h) c.1 c.2]
    · rw [if_neg c]
      by_cases a : m < 0
      · simp [a]
      by_cases b : m > 1
      · simp [a, b]
      by_cases d : k < 0
      · simp [a, b, d]
      simp [a, b, d, show (l.length : Int) ≤ k by omega]
  · rw [show (chk l != 0) = true by simpa using h, cond_true, if_pos h]
def provesS (l : List (Int × Int)) (o : List Int) (m k : Int) : Int :=
  if (put l o).2 ≠ 0 then (put l o).2 else if (boundS l m k).2 ≠ 0 then (boundS l m k).2 else if (boundS l m k).1 = tm 0 0 (pk l o) then 0 else 14
theorem Proves_eq {n : Nat × Nat} (hn : 1000 ≤ n.1) {o : List Int} (hs : o.length < 800) (l : List (Int × Int)) (m k : Int) : D41 n l o m k = some (provesS l o m k) := by
  unfold D41 provesS
  rw [put_eq hn hs, Option.bind_some]
  by_cases h : (put l o).2 = 0
  · obtain ⟨hg, ho⟩ := put_zero.1 h
    rw [show ((put l o).2 != 0) = false by simp [h], cond_false, if_neg (by simpa using h), put_ord hg ho, Bound_eq hn, Option.bind_some]
    by_cases h2 : (boundS l m k).2 = 0
    · rw [show ((boundS l m k).2 != 0) = false by simp [h2], cond_false, if_neg (by simpa using h2), time_eq hn (ord_pk hg ho).1 (ord_pk hg ho).2 (pk_ok hg ho), Option.bind_some]
      by_cases e : (boundS l m k).1 = tm 0 0 (pk l o)
      · rw [if_pos e, e]; simp
      · rw [if_neg e, show ((boundS l m k).1 != tm 0 0 (pk l o)) = true by simpa using e, cond_true]
    · rw [show ((boundS l m k).2 != 0) = true by simpa using h2, cond_true, if_pos h2]
  · rw [show ((put l o).2 != 0) = true by simpa using h, cond_true, if_pos h]
def pr1 (m : Int) (k : Nat) : List (Int × Int) := (ix k).map fun i => (m, i)
theorem pr1_succ (m : Int) (k : Nat) : pr1 m (k + 1) = pr1 m k ++ [(m, (k : Int))] := by
  unfold pr1
  rw [ix_succ, List.map_append]
  rfl
def fst (l : List (Int × Int)) (t : Int) (P : List (Int × Int)) : Option (Int × Int) := P.find? fun p => decide (bd l p.1 p.2 = t)
theorem fst_some {l : List (Int × Int)} {t : Int} {P : List (Int × Int)} {p : Int × Int} (h : fst l t P = some p) : bd l p.1 p.2 = t ∧ p ∈ P :=
  ⟨by simpa using List.find?_some h, List.mem_of_find?_eq_some h⟩
theorem fst_none {l : List (Int × Int)} {t : Int} {P : List (Int × Int)} (h : ∀ p ∈ P, bd l p.1 p.2 ≠ t) : fst l t P = none := by
  unfold fst
  rw [List.find?_eq_none]
  intro p hp
  simpa using h p hp
theorem fst_append {l : List (Int × Int)} {t : Int} {P Q : List (Int × Int)} : fst l t (P ++ Q) = (fst l t P).or (fst l t Q) := List.find?_append
theorem fst_one (l : List (Int × Int)) (t : Int) (p : Int × Int) : fst l t [p] = if bd l p.1 p.2 = t then some p else none := by
  unfold fst
  by_cases e : bd l p.1 p.2 = t
  · rw [if_pos e]; simp [e]
  · rw [if_neg e]; simp [e]
def Inv (l P : List (Int × Int)) (b m k : Int) : Prop := (∀ p ∈ P, bd l p.1 p.2 ≤ b) ∧ (P = [] ∧ b = -1 ∨ fst l b P = some (m, k))
theorem Inv.step {l P : List (Int × Int)} {b m k : Int} (h : Inv l P b m k) {p : Int × Int} (h0 : 0 ≤ bd l p.1 p.2) : Inv l (P ++ [p]) (if bd l p.1 p.2 > b then bd l p.1 p.2 else b) (if bd l p.1 p.2 > b then p.1 else m) (if bd l p.1 p.2 > b then p.2 else k) := by
  obtain ⟨h1, h2⟩ := h
  by_cases c : bd l p.1 p.2 > b
  · rw [if_pos c, if_pos c, if_pos c]
    refine ⟨fun q hq => ?_, .inr ?_⟩
    · rcases List.mem_append.1 hq with hq | hq
      · have := h1 q hq; omega
      · rw [List.mem_singleton] at hq; subst hq; omega
    · rw [fst_append, fst_none (P := P) (fun q hq => by have := h1 q hq; omega), fst_one, if_pos rfl]
      rfl
  · rw [if_neg c, if_neg c, if_neg c]
    refine ⟨fun q hq => ?_, ?_⟩
    · rcases List.mem_append.1 hq with hq | hq
      · exact h1 q hq
      · rw [List.mem_singleton] at hq; subst hq; omega
    · rcases h2 with ⟨_, e⟩ | h2
      · omega
      · exact .inr (by rw [fst_append, h2]; rfl)
theorem prove_loop (n : Nat × Nat) (hn : 1000 ≤ n.1) {l : List (Int × Int)} (hg : Good l) {mc : Int} (hm : mc = 0 ∨ mc = 1) (f : List (Int × Int) → Int → Int → Int → Int → Option R37) (P0 : List (Int × Int)) : ∀ (m k : Nat) (a b c : Int), k ≤ l.length → l.length - k < m → Inv l (P0 ++ pr1 mc k) c a b →
    ∃ a' b' c', Inv l (P0 ++ pr1 mc l.length) c' a' b' ∧ DL37_2 n f m l a b c mc mc (l.length : Int) (k : Int) = f l a' b' c' (wr .i64 (mc + 1))
  | 0, k, a, b, c, _, h, _ => by omega
  | m + 1, k, a, b, c, hk, h, hi => by
    have h7 := hg.len
    rw [DL37_2_succ]
    unfold DF37_2
    by_cases hlt : k < l.length
    · have hj3 : ∀ a b c : Int, DL37_3 n f (DL37_2 n f m) l a b c mc mc (l.length : Int) (k : Int) = DL37_2 n f m l a b c mc mc (l.length : Int) (wr .i64 ((k : Int) + 1)) := fun a b c => rfl
      have hb := bd_bnd hg (m := mc) (k := (k : Int)) ⟨by omega, by omega⟩
      have st := hi.step (p := (mc, (k : Int))) hb.1
      rw [List.append_assoc, ← pr1_succ] at st
      rw [dlt_t hlt, cond_true, bound_eq hn hg hm ⟨by omega, by omega⟩, Option.bind_some, hj3, hj3, wr_succ (by omega)]
      by_cases g : bd l mc (k : Int) > c
      · rw [decide_eq_true g, cond_true]
        simp only [if_pos g] at st
        exact prove_loop n hn hg hm f P0 m (k + 1) _ _ _ (by omega) (by omega) st
      · rw [decide_eq_false g, cond_false]
        simp only [if_neg g] at st
        exact prove_loop n hn hg hm f P0 m (k + 1) _ _ _ (by omega) (by omega) st
    · have : k = l.length := by omega
      subst this
      rw [dlt_f hlt, cond_false]
      exact ⟨a, b, c, hi, rfl⟩
/-- All machines and sheets; the time of the best orders. -/
def prs (l : List (Int × Int)) : List (Int × Int) := pr1 0 l.length ++ pr1 1 l.length
def best (l : List (Int × Int)) : Int := tm 0 0 (pk l (rl l))
theorem prs_mem {l : List (Int × Int)} {p : Int × Int} : p ∈ prs l ↔ (p.1 = 0 ∨ p.1 = 1) ∧ 0 ≤ p.2 ∧ p.2 < l.length := by
  unfold prs pr1
  rw [List.mem_append, List.mem_map, List.mem_map]
  constructor
  · rintro (⟨i, hi, e⟩ | ⟨i, hi, e⟩) <;> rw [ix_mem] at hi <;> subst e
    · exact ⟨.inl rfl, hi⟩
    · exact ⟨.inr rfl, hi⟩
  · rintro ⟨h | h, h'⟩
    · exact .inl ⟨p.2, ix_mem.2 h', by rw [← h]⟩
    · exact .inr ⟨p.2, ix_mem.2 h', by rw [← h]⟩
theorem bd_le {l : List (Int × Int)} (hg : Good l) {p : Int × Int} (hp : p ∈ prs l) : bd l p.1 p.2 ≤ best l := by
  obtain ⟨hm, hk⟩ := prs_mem.1 hp
  exact bnd_le (rl_ord l) hm (sh_mem hk.1 hk.2)
theorem bd_ex {l : List (Int × Int)} (hg : Good l) : ∃ p ∈ prs l, bd l p.1 p.2 = best l := by
  obtain ⟨m, s, hm, hs, e⟩ := johnson hg
  obtain ⟨k, hk, e'⟩ := List.getElem_of_mem hs
  refine ⟨(m, (k : Int)), prs_mem.2 ⟨hm, by omega, by omega⟩, ?_⟩
  unfold best bd
  rw [e, ← e']
  simp [sh, hk]
theorem fst_best {l : List (Int × Int)} (hg : Good l) : ∃ p, fst l (best l) (prs l) = some p := by
  obtain ⟨p, hp, e⟩ := bd_ex hg
  cases h : fst l (best l) (prs l) with
  | some q => exact ⟨q, rfl⟩
  | none =>
    unfold fst at h
    rw [List.find?_eq_none] at h
    exact absurd (decide_eq_true e) (h p hp)
theorem Inv.best {l : List (Int × Int)} (hg : Good l) {b m k : Int} (h : Inv l (prs l) b m k) : fst l (best l) (prs l) = some (m, k) := by
  obtain ⟨p, hp, e⟩ := bd_ex hg
  obtain ⟨h1, h2⟩ := h
  rcases h2 with ⟨h2, _⟩ | h2
  · rw [h2] at hp; simp at hp
  · have := fst_some h2
    have c1 := bd_le hg this.2
    have c2 := h1 p hp
    have : b = Go.Proofs.Ytnlbhjmbaedadaa.best l := by omega
    rwa [this] at h2
def proveS (l : List (Int × Int)) : Int × Int × Int := if chk l ≠ 0 then (0, 0, chk l) else match fst l (best l) (prs l) with | some p => (p.1, p.2, 0) | none => (0, 0, 14)
theorem Prove_eq {n : Nat × Nat} (hn : 1000 ≤ n.1) (l : List (Int × Int)) : D37 n l = some (proveS l) := by
  unfold D37 proveS
  rw [chk_eq hn, Option.bind_some]
  by_cases h : chk l = 0
  · have hg := chk_good.1 h
    have h7 := hg.len
    rw [show (chk l != 0) = false by simp [h], cond_false, if_neg (by simpa using h)]
    obtain ⟨k, hk⟩ : ∃ k, n.1 = k + 3 := ⟨n.1 - 3, by omega⟩
    have e1 : ∀ a b c, DL37_1 n (k + 1) l a b c 2 = some (a, b, 0) := fun a b c => rfl
    obtain ⟨a, b, c, i1, e2⟩ := prove_loop n hn hg (.inl rfl) (DL37_1 n (k + 2)) [] n.1 0 0 0 (-1) (by omega) (by omega) ⟨fun p hp => by simp [pr1, ix] at hp, .inl ⟨rfl, rfl⟩⟩
    rw [List.nil_append] at i1
    obtain ⟨a', b', c', i2, e3⟩ := prove_loop n hn hg (.inr rfl) (DL37_1 n (k + 1)) (pr1 0 l.length) n.1 0 a b c (by omega) (by omega) (by simpa [pr1, ix] using i1)
    have f1 : DL37_1 n n.1 l 0 0 (-1) 0 = DL37_2 n (DL37_1 n (k + 2)) n.1 l 0 0 (-1) 0 0 (l.length : Int) 0 := by
      rw [hk, DL37_1_succ]; rw [← hk]; rfl
    have f2 : DL37_1 n (k + 2) l a b c 1 = DL37_2 n (DL37_1 n (k + 1)) n.1 l a b c 1 1 (l.length : Int) 0 := by
      rw [DL37_1_succ]; rfl
    rw [show wr .i64 ((0 : Int) + 1) = 1 by rw [wr_ok (by omega) (by omega)]; omega] at e2
    rw [show wr .i64 ((1 : Int) + 1) = 2 by rw [wr_ok (by omega) (by omega)]; omega] at e3
    rw [i2.best hg, f1, ← Int.ofNat_zero]
    refine e2.trans ?_
    rw [f2]
    refine e3.trans ?_
    rw [e1]
    rfl
  · rw [show (chk l != 0) = true by simpa using h, cond_true, if_pos h]
end Go.Proofs.Ytnlbhjmbaedadaa
set_option linter.unusedVariables false
set_option linter.unusedSimpArgs false
set_option maxRecDepth 100000
namespace Go.Proofs.Ytnlbhjmbaedadaa
open Go.Vi
/-D 48 -/
end Go.Proofs.Ytnlbhjmbaedadaa
